/- A trace copied: what is read of it, the slices written out. -/
import Derived.Test.YtcklnjjbhngbcaaL3
namespace Go.Proofs.Ytcklnjjbhngbcaa
open Go.RowKit Go.Proofs.Lens

theorem copyTrace_calls (v1 v2 : Value) (t : PTr) (w : World) (hr : RdTr w v1 v2 t) (hz : smTr t) :
    Calls Try.prog 46 #[.agg #[v1, v2]] w fun e w' => ∃ A1 c1 A2 c2, e = .returned (.agg #[.slice A1 t.fns.length c1, .slice A2 t.moms.length c2]) ∧
      RdTr w' (.slice A1 t.fns.length c1) (.slice A2 t.moms.length c2) t ∧ Below w.heap.size w w' := by
  refine (toTrace_calls v1 v2 t w hr hz).mono ?_
  rintro e w1 ⟨u1, u2, rfl, h1, h2, hb⟩
  have r1 := h1.rd (by have := hz.1.1; omega)
  have r2 := h2.rd hz.2
  obtain ⟨A1, c1, e1, -⟩ := id r1
  obtain ⟨vv, ⟨A2, c2, e2, -⟩, -⟩ := id r2
  subst e1
  subst e2
  exact ⟨A1, c1, A2, c2, rfl, ⟨r1, r2⟩, hb⟩
end Go.Proofs.Ytcklnjjbhngbcaa
