/- Lemmas and contracts of functions that the theorem of this claim leans on (texts P16). -/
import Derived.Test.YtcklnjjbhngbcaaGreatDoorRowTopz00
import Derived.Test.YtcklnjjbhngbcaaGreatDoorRowUnz04
namespace Go.Proofs.Lens
open Go.Proofs.YtcklnjjbhngbcaaGreatDoor
theorem askOk_op {a:PAsk} (h:askOk a=true):1 ≤ a.op ∧ a.op ≤ 13:=by
 unfold askOk at h
 split at h
 ·omega
 split at h
 ·omega
 split at h
 ·omega
 split at h
 ·omega
 split at h
 ·omega
 ·simp only [Bool.and_eq_true,inB_true] at h
  exact h.1.1.1
theorem lookP_eq {t:PTr} {asks:List PAsk} (hs:soundP t=true) (hl:asks.length ≤ 500):lookP t asks=(lkN t asks asks.length).1:=by
 unfold lookP
 rw [hs,decide_eq_true hl];rfl
theorem cntN_cut (ms : List PMom) (s : PStop) {k : Int} {m : Nat} (h : k < m) : ∀ n, m ≤ n → cntN ms s k n = cntN ms s k m
  | 0, hm => by obtain rfl : m = 0 := by omega
                rfl
  | n + 1, hm => by
    by_cases e : m = n + 1
    · rw [e]
    · show cntN ms s k n + _ = _
      rw [cntN_cut ms s h n (by omega), decide_eq_false (by omega)]
      simp
theorem cntN_rng (ms:List PMom) (s:PStop) (k:Int):∀ n:Nat,0 ≤ cntN ms s k n ∧ cntN ms s k n ≤ n
 | 0=>by simp [cntN]
 | n + 1=>by
  have:=cntN_rng ms s k n
  unfold cntN
  split <;> omega
end Go.Proofs.Lens
