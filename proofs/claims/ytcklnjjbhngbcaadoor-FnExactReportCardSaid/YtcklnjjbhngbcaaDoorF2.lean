/- Maps whose keys are pairs of whole numbers. -/
import Derived.Test.YtcklnjjbhngbcaaDoorI7
import Derived.DeepKeys4
namespace Go.Proofs.YtcklnjjbhngbcaaDoor
open Go.RowKit Go.Proofs.Lens

set_option maxRecDepth 100000 in
theorem lits2 {k : TypeId} {f0 f1 : Field} (hu : Tryd.prog.underlying k = some (.struct #[f0, f1])) (hc : Tryd.prog.cellsOf k = 2) (n0 : (f0.name != "_") = true) (n1 : (f1.name != "_") = true)
    (t0 : f0.type = 3) (t1 : f1.type = 3) (o0 : f0.offset = 0) (o1 : f1.offset = 1) (d : Nat) {a b : Int} (ha : ok64 a) (hb : ok64 b) :
    Tryd.prog.keyLits (d + 2) k [.int .i64 a, .int .i64 b] = some [.int .i64 a, .int .i64 b] := by
  have e : ∀ x : Int, ok64 x → Tryd.prog.keyLits (d + 1) 3 [.int .i64 x] = some [.int .i64 x] := fun x hx => by
    simp [Program.keyLits, Tryd.underlying3, wf64 hx]
  rw [show d + 2 = (d + 1) + 1 from rfl]
  unfold Program.keyLits
  rw [hu]
  dsimp only
  rw [if_pos ⟨by rw [hc]; rfl, by simp at n0 n1; simp [n0, n1]⟩]
  simp [t0, t1, o0, o1, c_int, e a ha, e b hb]
set_option maxRecDepth 100000 in
theorem keyOf2 {k : TypeId} {f0 f1 : Field} (hu : Tryd.prog.underlying k = some (.struct #[f0, f1])) (hc : Tryd.prog.cellsOf k = 2) (n0 : (f0.name != "_") = true) (n1 : (f1.name != "_") = true)
    (t0 : f0.type = 3) (t1 : f1.type = 3) (o0 : f0.offset = 0) (o1 : f1.offset = 1) (hk : Tryd.prog.keyType k = true) {a b : Int} (ha : ok64 a) (hb : ok64 b) :
    ∃ l, keyOf Tryd.prog k (.agg #[.int .i64 a, .int .i64 b]) = some l := by
  obtain ⟨d, hd⟩ : ∃ d, Tryd.prog.types.size + 1 = d + 2 := ⟨Tryd.prog.types.size - 1, by
    have : 0 < Tryd.prog.types.size := of_decide_eq_true (by kernel_rfl)
    omega⟩
  have hformed : (Value.agg #[.int .i64 a, .int .i64 b]).formed Tryd.prog k = true := by simp [Value.formed, hu, hc]
  refine ⟨.string (keyBytes [.int .i64 a, .int .i64 b]), ?_⟩
  unfold keyOf
  rw [hu]
  dsimp only
  rw [if_pos (by rw [hk, hformed]; rfl), hd]
  show Option.map _ (Tryd.prog.keyLits (d + 2) k [.int .i64 a, .int .i64 b]) = _
  rw [lits2 hu hc n0 n1 t0 t1 o0 o1 d ha hb]
  rfl
def pairV (p : Int × Int) : Value := .agg #[.int .i64 p.1, .int .i64 p.2]
def okP (p : Int × Int) : Prop := ok64 p.1 ∧ ok64 p.2
end Go.Proofs.YtcklnjjbhngbcaaDoor
