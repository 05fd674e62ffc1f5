/- What more is needed of the texts that the packed ones hold (P3). -/
import Derived.Test.YtcklnjjbhngbcaaGreatDoorRowTopz00
namespace Go.Proofs.Lens

/-! ### counts by fn -/
theorem fnsIn0 {nf : Nat} (h : 0 < nf) : fnsIn ps0 nf := by
  intro i f hf
  simp only [ps0] at hf
  split at hf
  · simp at hf; subst hf; simp; omega
  · cases hf
theorem fnsIn_step {s : PS} {nf n : Nat} {m : PMom} (h : fnsIn s nf) (hm : 0 ≤ m.fn ∧ m.fn < nf) : fnsIn (stepP s m n) nf := by
  have hput : ∀ l : List PFr, (∀ f ∈ l, 0 ≤ f.fn ∧ f.fn < nf) → fnsIn (s.put l) nf := by
    intro l hl i f hf
    simp only [PS.put] at hf
    split at hf
    · exact hl f hf
    · exact h i f hf
  unfold stepP
  split
  · exact h
  · split
    · refine hput _ fun f hf => ?_
      rcases List.mem_cons.1 hf with rfl | hf
      · exact hm
      · exact h _ f hf
    · split
      · exact hput _ fun f hf => h _ f (List.mem_of_mem_tail hf)
      · split
        · refine hput _ fun f hf => ?_
          unfold PS.top at hf
          cases hs : s.stk s.cur with
          | nil => rw [hs] at hf; cases hf
          | cons g r =>
            rw [hs] at hf
            rcases List.mem_cons.1 hf with rfl | hf
            · exact h s.cur g (by rw [hs]; simp)
            · exact h s.cur f (by rw [hs]; simp [hf])
        · exact h
theorem Sound.fnsIn {t : PTr} (h : Sound t) (n : Nat) (hn : n ≤ t.moms.length) : fnsIn (stN t.moms n) t.fns.length := by
  induction n with
  | zero =>
    refine fnsIn0 ?_
    have := h.sizes
    simp only [sizesOk, Bool.and_eq_true, decide_eq_true_eq] at this
    omega
  | succ n ih => exact fnsIn_step (ih (by omega)) (mom_fn (h.moms n (by omega)))
end Go.Proofs.Lens

