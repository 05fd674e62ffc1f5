/- The laws' helpers mark.., held.., eq.. at slices whose elements are whole numbers or structs of them. (Written by L5.py.) -/
import Derived.Test.YtcklnjjbhngbcaaDoorL5a
import Derived.Test.YtcklnjjbhngbcaaDoorP3
import Derived.Test.YtcklnjjbhngbcaaDoorP4
import Derived.Test.YtcklnjjbhngbcaaDoorL3
namespace Go.Proofs.YtcklnjjbhngbcaaDoor
open Go.RowKit Go.Proofs.Lens

/-- The marks from k on, as the cells of a slice. -/
def mkC (sz : Nat) (k : Int) (i j : Nat) : Value := .int .i64 (k + (sz : Int) * i + j)
/-- The first q elements are marked. -/
def mkQ (sz q : Nat) (k : Int) (C : Nat → Nat → Value) (i j : Nat) : Value := if i < q then mkC sz k i j else C i j
/-- Elements q before their field j are marked. -/
def mkJ (sz q j0 : Nat) (k : Int) (C : Nat → Nat → Value) (i j : Nat) : Value := if i < q ∨ (i = q ∧ j < j0) then mkC sz k i j else C i j
theorem mkJ_0 (sz q : Nat) (k : Int) (C : Nat → Nat → Value) : mkJ sz q 0 k C = mkQ sz q k C := by
  funext i j; unfold mkJ mkQ; simp
theorem mkJ_end (sz q : Nat) (k : Int) (C : Nat → Nat → Value) (i j : Nat) (hj : j < sz) : mkJ sz q sz k C i j = mkQ sz (q + 1) k C i j := by
  unfold mkJ mkQ
  by_cases h : i < q + 1
  · rw [if_pos h, if_pos (by omega)]
  · rw [if_neg h, if_neg (by omega)]
theorem mkJ_step {sz q j0 : Nat} {k : Int} {C : Nat → Nat → Value} {w : World} {lo n b cap : Nat} {e : TypeId} (h : OwR w lo e sz n (mkJ sz q j0 k C) (.slice (some ⟨b, 0, none⟩) n cap)) (hq : q < n) (hj : j0 < sz) {u : Int} (hu : u = k + (sz : Int) * q + j0) :
    OwR (w.setCell ⟨b, q * sz + j0, none⟩ (.int .i64 u)) lo e sz n (mkJ sz q (j0 + 1) k C) (.slice (some ⟨b, 0, none⟩) n cap) := by
  refine h.set hq hj (fun i j hi hj' hne => ?_) ?_
  · unfold mkJ
    by_cases h : i < q ∨ (i = q ∧ j < j0)
    · rw [if_pos h, if_pos (by omega)]
    · rw [if_neg h, if_neg (by omega)]
  · unfold mkJ mkC
    rw [if_pos (by omega), hu]
theorem gbo_refl (w : World) (v : Value) : w.grownBy w v.ownBlock := ⟨rfl, rfl, rfl, Nat.le_refl _, fun _ _ _ => rfl⟩
theorem gbo_set {w W : World} {b n c : Nat} {o : Nat} (h : w.grownBy W (Value.slice (some ⟨b, 0, none⟩) n c).ownBlock) (j : Nat) (u : Value) : w.grownBy (W.setCell ⟨b, j, none⟩ u) (Value.slice (some ⟨b, o, none⟩) n c).ownBlock :=
  ⟨h.os, h.tape, h.output, by rw [World.size_setCell]; exact h.size, fun k hk hr => (Below.heap_setCell _ _ _ _ (fun e => hr (by rw [e]; rfl))).trans (h.block k hk hr)⟩
/-- What a mark.. leaves. -/
def MkPost (w : World) (lo : Nat) (e : TypeId) (sz n : Nat) (k : Int) (v : Value) (en : Ending) (w' : World) : Prop :=
  en = .returned (.int .i64 (k + (sz : Int) * n)) ∧ OwR w' lo e sz n (mkC sz k) v ∧ w.grownBy w' v.ownBlock


end Go.Proofs.YtcklnjjbhngbcaaDoor
