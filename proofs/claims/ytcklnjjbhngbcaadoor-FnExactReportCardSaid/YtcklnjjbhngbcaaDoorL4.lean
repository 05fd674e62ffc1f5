/- A trace copied: what is read of it, the slices written out. -/
import Derived.Test.YtcklnjjbhngbcaaDoorL3
namespace Go.Proofs.YtcklnjjbhngbcaaDoor
open Go.RowKit Go.Proofs.Lens

theorem copyTrace_calls (v1 v2 : Value) (t : PTr) (w : World) (hr : RdTr w v1 v2 t) (hz : smTr t) :
    Calls Tryd.prog 6 #[.agg #[v1, v2]] w fun e w' => ∃ A1 c1 A2 c2, e = .returned (.agg #[.slice A1 t.fns.length c1, .slice A2 t.moms.length c2]) ∧
      RdTr w' (.slice A1 t.fns.length c1) (.slice A2 t.moms.length c2) t ∧ Below w.heap.size w w' := by
  refine (toTrace_calls v1 v2 t w hr hz).mono ?_
  rintro e w1 ⟨u1, u2, rfl, h1, h2, hb⟩
  have r1 := h1.rd (by have := hz.1.1; omega)
  have r2 := h2.rd hz.2
  obtain ⟨A1, c1, e1, -⟩ := id r1
  obtain ⟨vv, ⟨A2, c2, e2, -⟩, -⟩ := id r2
  subst e1
  subst e2
  exact ⟨A1, c1, A2, c2, rfl, ⟨r1, r2⟩, hb⟩
section
variable {H : Type} {enc : TypeId × Value → H} {w : World} {base : Nat} {spare : Nat → Bool} {held : Bool}
set_option maxRecDepth 100000 in
/-- A whole number that came in. -/
theorem rd_int {v : Value} {d : DataW H} {ps : List MemPlace} {r : Reach} {b0 : Nat} (hval : Value.okWide Tryd.prog w r b0 3 v)
    (h : DataW.Trod enc Tryd.prog w base spare held 3 v d ps) : ∃ k : Int, v = .int .i64 k ∧ -9223372036854775808 ≤ k ∧ k ≤ 9223372036854775807 := by
  obtain ⟨n, rfl, _, _, hw⟩ := Go.ChangeShapes.open_int Tryd.underlying3 hval h
  simp only [Lit.wf, Bool.and_eq_true, decide_eq_true_eq] at hw
  have h1 : IntKind.min .i64 = -9223372036854775808 := by decide
  have h2 : IntKind.max .i64 = 9223372036854775807 := by decide
  exact ⟨n, rfl, by omega, by omega⟩
end
end Go.Proofs.YtcklnjjbhngbcaaDoor
