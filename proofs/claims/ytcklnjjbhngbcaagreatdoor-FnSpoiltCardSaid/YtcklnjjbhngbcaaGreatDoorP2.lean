/- The plain side of steps, places, open calls, counts: what the program and the reference both compute. -/
import Derived.Test.YtcklnjjbhngbcaaGreatDoorP1
namespace Go.Proofs.Lens

/-- There is a place k; how many moments are played there; what stands there. -/
def placeOk (t : PTr) (k : Int) : Bool := inB k (-1) t.moms.length
def goodP (t : PTr) (k : Int) : Bool := soundP t && placeOk t k
def atN (t : PTr) (k : Int) : Nat := min (k + 1).toNat t.moms.length
def atP (t : PTr) (k : Int) : PS := stN t.moms (atN t k)
theorem atN_le (t : PTr) (k : Int) : atN t k ≤ t.moms.length := Nat.min_le_right _ _
def runP (t : PTr) (k : Int) : Int := if goodP t k = true then (atP t k).cur else -1
/-- The first number from k on (d of them) at which p holds, else n. -/
def firstB (p : Nat → Bool) (n : Nat) : Nat → Nat → Nat
  | 0, _ => n
  | d + 1, k => if p k = true then k else firstB p n d (k + 1)
theorem firstB_skip {p : Nat → Bool} {n k : Nat} (hk : k < n) (h : p k = false) : firstB p n (n - k) k = firstB p n (n - (k + 1)) (k + 1) := by
  rw [show n - k = (n - (k + 1)) + 1 by omega, firstB, if_neg (by rw [h]; simp)]
theorem firstB_hit {p : Nat → Bool} {n k : Nat} (hk : k < n) (h : p k = true) : firstB p n (n - k) k = k := by
  rw [show n - k = (n - (k + 1)) + 1 by omega, firstB, if_pos h]
theorem firstB_end {p : Nat → Bool} {n k : Nat} (hk : n ≤ k) : firstB p n (n - k) k = n := by
  rw [show n - k = 0 by omega]; rfl
theorem firstB_congr {p q : Nat → Bool} {n : Nat} (h : ∀ i, p i = q i) : ∀ {d k : Nat}, firstB p n d k = firstB q n d k
  | 0, _ => rfl
  | d + 1, k => by rw [firstB, firstB, h k, firstB_congr h]
/-- The last number below k at which p holds, else -1. -/
def lastB (p : Nat → Bool) : Nat → Int
  | 0 => -1
  | k + 1 => if p k = true then (k : Int) else lastB p k
def intoQ (t : PTr) (k : Int) (i : Nat) : Bool := decide ((elt t.moms i).kind = 1) && decide ((elt t.moms i).task = (atP t k).cur)
def overQ (t : PTr) (k : Int) (i : Nat) : Bool := decide ((elt t.moms i).kind = 1) && decide ((elt t.moms i).task = (atP t k).cur) && decide (((stN t.moms (i + 1)).stk (atP t k).cur).length ≤ ((atP t k).stk (atP t k).cur).length)
def outQ (t : PTr) (k : Int) (i : Nat) : Bool := decide ((elt t.moms i).kind = 3) && decide ((elt t.moms i).task = (atP t k).cur) && decide (((stN t.moms (i + 1)).stk (atP t k).cur).length < ((atP t k).stk (atP t k).cur).length)
def seekP (t : PTr) (k : Int) (q : Nat → Bool) : Int := if goodP t k = true then (firstB q t.moms.length (t.moms.length - (k + 1).toNat) (k + 1).toNat : Nat) else -2
def intoP (t : PTr) (k : Int) : Int := seekP t k (intoQ t k)
def overP (t : PTr) (k : Int) : Int := seekP t k (overQ t k)
def outP (t : PTr) (k : Int) : Int := seekP t k (outQ t k)
def beforeP (t : PTr) (k : Int) : Int := if goodP t k = true then lastB (intoQ t k) k.toNat else -2
def stackP (t : PTr) (k task : Int) : List PFr := if (goodP t k && inB task 0 100) = true then (atP t k).stk task else []
end Go.Proofs.Lens
