/- What the laws' walks carry over marks. -/
import Derived.Test.YtcklnjjbhngbcaaDoorL6
import Derived.Test.YtcklnjjbhngbcaaDoorL7
import Derived.Test.YtcklnjjbhngbcaaDoorL4
import Derived.Test.YtcklnjjbhngbcaaDoorB5
namespace Go.Proofs.YtcklnjjbhngbcaaDoor
open Go.RowKit Go.Proofs.Lens

end Go.Proofs.YtcklnjjbhngbcaaDoor
namespace Go.Proofs.Lens
open Go.RowKit Go.Proofs.YtcklnjjbhngbcaaDoor
theorem BoxAt.low {w w' : World} {b lo : Nat} {vs : List Value} (h : BoxAt w b vs) (hb : Below lo w w') (hl : b < lo) : BoxAt w' b vs := fun j v hj => (hb.cell (p := ⟨b, j, none⟩) hl).trans (h j v hj)
theorem BoxAt.gbo {w w' : World} {b : Nat} {vs : List Value} (h : BoxAt w b vs) {row : Option Nat} (hg : w.grownBy w' row) (hne : row ≠ some b) : BoxAt w' b vs := fun j v hj => by
  have h1 := h j v hj
  rw [World.cell?_of_block (w := w) (w' := w') (hg.block b (World.block_lt_of_cell? _ _ h1) (fun e => hne e.symm))]
  exact h1
theorem OwR.low {w w' : World} {lo lo2 n sz : Nat} {e : TypeId} {C : Nat → Nat → Value} {v : Value} (h : OwR w lo e sz n C v) (hb : Below lo2 w w') (hl : ∀ b, v.ownBlock = some b → b < lo2) : OwR w' lo e sz n C v :=
  h.keep fun b _ _ _ hv => hb.block b (hl b hv)
theorem OwR.hi {w w' : World} {lo lo2 hi n sz : Nat} {e : TypeId} {C : Nat → Nat → Value} {v : Value} (h : OwR w lo e sz n C v) (hM : MkTr lo2 hi w w') (hl : ∀ b, v.ownBlock = some b → hi ≤ b) : OwR w' lo e sz n C v :=
  h.keep fun b _ _ hB hv => hM.block b hB.lt (.inr (hl b hv))
end Go.Proofs.Lens
namespace Go.Proofs.YtcklnjjbhngbcaaDoor
open Go.RowKit Go.Proofs.Lens
theorem bl_low' {lo B : Nat} {w W : World} (h : Below B w W) (hl : lo ≤ B) : Below lo w W := ⟨h.os, h.tape, h.output, h.size, fun k hk => h.block k (Nat.lt_of_lt_of_le hk hl)⟩
theorem bl_trans' {lo : Nat} {a b c : World} (h : Below lo a b) (k : Below lo b c) : Below lo a c := ⟨k.os.trans h.os, k.tape.trans h.tape, k.output.trans h.output, Nat.le_trans h.size k.size, fun j hj => (k.block j hj).trans (h.block j hj)⟩
/-- The world from w on while a trace's copy and a result are compared. -/
theorem held_tr' {w W W' : World} {a1 a2 a3 a4 : Addr} {v1 v2 v3 v4 : Value} (h : Below w.heap.size w W ∧ W.cell? a1 = some v1 ∧ W.cell? a2 = some v2 ∧ W.cell? a3 = some v3 ∧ W.cell? a4 = some v4) (hb : Below W.heap.size W W') :
    Below w.heap.size w W' ∧ W'.cell? a1 = some v1 ∧ W'.cell? a2 = some v2 ∧ W'.cell? a3 = some v3 ∧ W'.cell? a4 = some v4 :=
  ⟨bl_then h.1 hb, cell_later hb h.2.1, cell_later hb h.2.2.1, cell_later hb h.2.2.2.1, cell_later hb h.2.2.2.2⟩
theorem held_bl' {w W : World} {a1 a2 a3 a4 : Addr} {v1 v2 v3 v4 : Value} (h : Below w.heap.size w W ∧ W.cell? a1 = some v1 ∧ W.cell? a2 = some v2 ∧ W.cell? a3 = some v3 ∧ W.cell? a4 = some v4) : Below w.heap.size w W := h.1
end Go.Proofs.YtcklnjjbhngbcaaDoor
