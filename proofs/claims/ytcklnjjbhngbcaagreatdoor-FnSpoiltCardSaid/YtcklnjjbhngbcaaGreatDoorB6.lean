/- More of Mv: what a part of a call turns, by the types of the blocks; slices that make has made. -/
import Derived.Test.YtcklnjjbhngbcaaGreatDoorB5
namespace Go.Proofs.Lens
open Go.RowKit

theorem Mv.mono {ts ts' : List TypeId} {lo : Nat} {w w' : World} (h : Mv ts lo w w') (hs : ∀ e, e ∈ ts → e ∈ ts') : Mv ts' lo w w' :=
  ⟨h.bl, fun b o hb hn => h.kp b o hb fun cur e fr ho he => hn cur e fr ho (hs e he)⟩
theorem Mv.then {ts : List TypeId} {lo : Nat} {w w1 w2 : World} (h : Mv ts lo w w1) (hl : lo ≤ w1.heap.size) (k : Below w1.heap.size w1 w2) : Mv ts lo w w2 := h.trans (Mv.of_below k hl)
theorem Mv.size {ts : List TypeId} {lo : Nat} {w w1 : World} (h : Mv ts lo w w1) : w.heap.size ≤ w1.heap.size := h.bl.size
/-- A store into a slice of its own. -/
theorem Mv.setO {ts : List TypeId} {lo : Nat} {w W : World} (h : Mv ts lo w W) {b n cap lo2 sz : Nat} {e : TypeId} {C : Nat → Nat → Value} (hO : OwR W lo2 e sz n C (.slice (some ⟨b, 0, none⟩) n cap)) (hl : lo ≤ lo2) (he : e ∈ ts) (j : Nat) (u : Value) :
    Mv ts lo w (W.setCell ⟨b, j, none⟩ u) := by
  obtain ⟨N, f, hB⟩ := hO.block (b := b) rfl
  exact h.set (Nat.le_trans hl (hO.lt b rfl).1) hB he u
/-- What make has made. -/
theorem OwR.made {w : World} {A : Array Value} {e : TypeId} {sz n : Nat} {zc : Array Value} (hA : A.size = n * sz) (hc : ∀ j, j < n * sz → A[j]? = some (zc[j % zc.size]!)) (hz : zc.size = sz) (hn : n ≤ maxLen) (C : Nat → Nat → Value)
    (hC : ∀ i, i < n → ∀ j, j < sz → C i j = zc[j]!) : OwR (w.alloc (.cells A e)) w.heap.size e sz n C (.slice (some ⟨w.heap.size, 0, none⟩) n n) := by
  refine .inr ⟨w.heap.size, n, fun j => A.getD j undef, rfl, Nat.le_refl _, Nat.le_refl _, hn, ?_, fun i hi j hj => ?_⟩
  · rw [← hA]; exact Blk.made w A e
  · have hlt := mul_lt hi hj
    have h1 := hc _ hlt
    show A.getD _ undef = _
    rw [Array.getD_eq_getD_getElem?, h1, hC i hi j hj]
    simp only [Option.getD_some]
    congr 1
    rw [hz, Nat.mul_comm, Nat.mul_add_mod, Nat.mod_eq_of_lt hj]
theorem OwR.cells {w : World} {lo b n cap sz : Nat} {e : TypeId} {C : Nat → Nat → Value} (h : OwR w lo e sz n C (.slice (some ⟨b, 0, none⟩) n cap)) {i j : Nat} (hi : i < n) (hj : j < sz) : w.cell? ⟨b, i * sz + j, none⟩ = some (C i j) := by
  obtain ⟨A', c', hv, hop⟩ := h.open'
  obtain ⟨b', e', _, _, hc, _⟩ := hop (by omega)
  cases hv
  cases e'
  exact hc i hi j hj
theorem OwR.free {w : World} {lo b n cap sz : Nat} {e : TypeId} {C : Nat → Nat → Value} (h : OwR w lo e sz n C (.slice (some ⟨b, 0, none⟩) n cap)) (j : Nat) : w.frozen? ⟨b, j, none⟩ = false := by
  obtain ⟨N, f, hB⟩ := h.block (b := b) rfl
  exact hB.free j
theorem OwR.blt {w : World} {lo b n cap sz : Nat} {e : TypeId} {C : Nat → Nat → Value} (h : OwR w lo e sz n C (.slice (some ⟨b, 0, none⟩) n cap)) : lo ≤ b ∧ b < w.heap.size := h.lt b rfl
end Go.Proofs.Lens
