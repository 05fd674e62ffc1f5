/- Maps whose keys are pairs of whole numbers. -/
import Derived.Test.YtcklnjjbhngbcaaGreatDoorI7
import Derived.DeepKeys4
namespace Go.Proofs.YtcklnjjbhngbcaaGreatDoor
open Go.RowKit Go.Proofs.Lens

set_option maxRecDepth 100000 in
theorem lits2 {k : TypeId} {f0 f1 : Field} (hu : Tryz.prog.underlying k = some (.struct #[f0, f1])) (hc : Tryz.prog.cellsOf k = 2) (n0 : (f0.name != "_") = true) (n1 : (f1.name != "_") = true)
    (t0 : f0.type = 3) (t1 : f1.type = 3) (o0 : f0.offset = 0) (o1 : f1.offset = 1) (d : Nat) {a b : Int} (ha : ok64 a) (hb : ok64 b) :
    Tryz.prog.keyLits (d + 2) k [.int .i64 a, .int .i64 b] = some [.int .i64 a, .int .i64 b] := by
  have e : ∀ x : Int, ok64 x → Tryz.prog.keyLits (d + 1) 3 [.int .i64 x] = some [.int .i64 x] := fun x hx => by
    simp [Program.keyLits, Tryz.underlying3, wf64 hx]
  rw [show d + 2 = (d + 1) + 1 from rfl]
  unfold Program.keyLits
  rw [hu]
  dsimp only
  rw [if_pos ⟨by rw [hc]; rfl, by simp at n0 n1; simp [n0, n1]⟩]
  simp [t0, t1, o0, o1, c_int, e a ha, e b hb]
set_option maxRecDepth 100000 in
theorem keyOf2 {k : TypeId} {f0 f1 : Field} (hu : Tryz.prog.underlying k = some (.struct #[f0, f1])) (hc : Tryz.prog.cellsOf k = 2) (n0 : (f0.name != "_") = true) (n1 : (f1.name != "_") = true)
    (t0 : f0.type = 3) (t1 : f1.type = 3) (o0 : f0.offset = 0) (o1 : f1.offset = 1) (hk : Tryz.prog.keyType k = true) {a b : Int} (ha : ok64 a) (hb : ok64 b) :
    ∃ l, keyOf Tryz.prog k (.agg #[.int .i64 a, .int .i64 b]) = some l := by
  obtain ⟨d, hd⟩ : ∃ d, Tryz.prog.types.size + 1 = d + 2 := ⟨Tryz.prog.types.size - 1, by
    have : 0 < Tryz.prog.types.size := of_decide_eq_true (by kernel_rfl)
    omega⟩
  have hformed : (Value.agg #[.int .i64 a, .int .i64 b]).formed Tryz.prog k = true := by simp [Value.formed, hu, hc]
  refine ⟨.string (keyBytes [.int .i64 a, .int .i64 b]), ?_⟩
  unfold keyOf
  rw [hu]
  dsimp only
  rw [if_pos (by rw [hk, hformed]; rfl), hd]
  show Option.map _ (Tryz.prog.keyLits (d + 2) k [.int .i64 a, .int .i64 b]) = _
  rw [lits2 hu hc n0 n1 t0 t1 o0 o1 d ha hb]
  rfl
def pairV (p : Int × Int) : Value := .agg #[.int .i64 p.1, .int .i64 p.2]
def okP (p : Int × Int) : Prop := ok64 p.1 ∧ ok64 p.2
set_option maxRecDepth 100000 in
theorem m_edge : MTy Tryz.prog 153 152 3 pairV okP (fun y : Int => .int .i64 y) (fun y => .int .i64 y) ok64 0 where
  keyed := Go.Maps.Keyed.of_law (deep_law_laid S0.laid (m := 2) (by omega) (of_decide_eq_true (by kernel_rfl)) (by kernel_rfl) (by kernel_rfl))
  und := Tryz.underlying153
  key x hx := keyOf2 Tryz.underlying152 (by kernel_rfl) (by decide) (by decide) rfl rfl rfl rfl (by kernel_rfl) hx.1 hx.2
  inj x y h := by
    simp only [pairV, Value.agg.injEq, Array.mk.injEq, List.cons.injEq, Value.int.injEq, true_and, and_true] at h
    exact Prod.ext h.1 h.2
  elem y hy := m_int.elem y hy
  back v y ps h := m_int.back v y ps h
  zero w := m_int.zero w
  zok := m_int.zok
abbrev OwMe (w : World) (b n : Nat) (M : Int × Int → Option Int) : Prop := OwM Tryz.prog 152 3 pairV okP (fun y => .int .i64 y) w b n M
end Go.Proofs.YtcklnjjbhngbcaaGreatDoor
