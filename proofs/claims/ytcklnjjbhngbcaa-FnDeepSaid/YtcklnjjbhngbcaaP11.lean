/- FnDeep's trace, as the law builds it. -/
import Derived.Test.YtcklnjjbhngbcaaP6
namespace Go.Proofs.Lens
def upD : Nat → List PMom
  | 0 => []
  | k + 1 => upD k ++ [cM] ++ [lM]
def bkD (n : Nat) : Nat → List PMom
  | 0 => upD n
  | j + 1 => bkD n j ++ [bM]
theorem upD_len : ∀ k, (upD k).length = 2 * k
  | 0 => rfl
  | k + 1 => by simp [upD, upD_len k]; omega
theorem bkD_len (n : Nat) : ∀ j, (bkD n j).length = 2 * n + j
  | 0 => upD_len n
  | j + 1 => by simp [bkD, bkD_len n j]; omega
theorem upD_range (n : Nat) : ∀ k, k ≤ n → upD k = (List.range (2 * k)).map (deepM n)
  | 0, _ => rfl
  | k + 1, h => by
    rw [upD, upD_range n k (by omega), show 2 * (k + 1) = 2 * k + 1 + 1 by omega, List.range_succ, List.range_succ]
    simp only [List.map_append, List.map_cons, List.map_nil]
    have e1 : deepM n (2 * k) = cM := by unfold deepM; rw [if_pos (by omega), if_pos (by omega)]
    have e2 : deepM n (2 * k + 1) = lM := by unfold deepM; rw [if_pos (by omega), if_neg (by omega)]
    rw [e1, e2]
theorem bkD_range (n : Nat) : ∀ j, j ≤ n → bkD n j = (List.range (2 * n + j)).map (deepM n)
  | 0, _ => upD_range n n (Nat.le_refl _)
  | j + 1, h => by
    rw [bkD, bkD_range n j (by omega), show 2 * n + (j + 1) = 2 * n + j + 1 by omega, List.range_succ]
    simp only [List.map_append, List.map_cons, List.map_nil]
    have e1 : deepM n (2 * n + j) = bM := by unfold deepM; rw [if_neg (by omega)]
    rw [e1]
theorem bkD_deep (n : Nat) : bkD n n = deepMs n := by
  rw [bkD_range n n (Nat.le_refl _)]; unfold deepMs
  rw [show 2 * n + n = 3 * n by omega]
end Go.Proofs.Lens
