/- More of regions that draw their order: a stronger class of worlds from here on; two operations that may come up. -/
import Derived.Test.YtcklnjjbhngbcaaGreatDoorB4
namespace Go.Proofs.Lens
open Go Go.RowKit Lib

section
variable {P : Program} {ops : Array Oper} {md : Region.Mode} {Q : Exit → Act → World → Prop} {S S' : World → Prop} {z : Nat}
theorem wpAnyF_mono (hS : ∀ w, S' w → S w) : ∀ (fuel : Nat) {listed : Array Bool} {a : Act} {w : World}, wpAnyF P md ops Q S' z fuel listed a w → wpAnyF P md ops Q S z fuel listed a w
  | 0, _, _, _, h => h
  | fuel + 1, _, _, _, h => ⟨h.1, fun i hi => wpOp_mono (fun _ _ h' => ⟨fun hz => hS _ (h'.1 hz), wpAnyF_mono hS fuel h'.2⟩) (h.2 i hi)⟩
theorem wpAnyF_two (k l : Nat) {o o' : Oper} {fuel : Nat} {listed : Array Bool} {a : Act} {w : World} (ho : ops[k]? = some o) (ho' : ops[l]? = some o') (hr : Region.ready md ops listed = [k, l]) (hg : o.guard = none) (hg' : o'.guard = none)
    (h : ∀ K : Act → World → Prop, Hid (∀ a w, (k ≠ z → S w) → wpAnyF P md ops Q S z fuel (listed.setIfInBounds k true) a w → K a w) → Oper.wp P o a w K Q)
    (h' : ∀ K : Act → World → Prop, Hid (∀ a w, (l ≠ z → S w) → wpAnyF P md ops Q S z fuel (listed.setIfInBounds l true) a w → K a w) → Oper.wp P o' a w K Q) : wpAnyF P md ops Q S z (fuel + 1) listed a w := by
  refine ⟨fun h0 => (by rw [hr] at h0; cases h0), fun i hi => ?_⟩
  rw [hr] at hi
  have hi : i = k ∨ i = l := by simpa using hi
  rcases hi with rfl | rfl
  · unfold wpOp
    simp only [ho]
    have hw : Region.wanted o (yielded ops a.tmps) = true := by simp [Region.wanted, hg]
    rw [if_pos hw]
    exact .inl (h _ (Lib.hid fun a' w' h1 h2 => ⟨h1, h2⟩))
  · unfold wpOp
    simp only [ho']
    have hw : Region.wanted o' (yielded ops a.tmps) = true := by simp [Region.wanted, hg']
    rw [if_pos hw]
    exact .inl (h' _ (Lib.hid fun a' w' h1 h2 => ⟨h1, h2⟩))
end
end Go.Proofs.Lens
