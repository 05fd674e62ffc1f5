/- markText. -/
import Derived.Test.YtcklnjjbhngbcaaDoorB1
import Derived.Test.YtcklnjjbhngbcaaDoorB3
import Derived.Laws.BytesArg
namespace Go.Proofs.YtcklnjjbhngbcaaDoor
open Go.RowKit Go.Proofs.Lens

/-- The decimal text of k, ahead of o. -/
def digF : Nat → Nat → ByteArray → ByteArray
  | 0, _, o => o
  | f + 1, k, o => if k = 0 then o else digF f (k / 10) (strOfNums [48 + ((k % 10 : Nat) : Int)] ++ o)
theorem digF_step {f k : Nat} {o : ByteArray} (hk : 0 < k) (hf : k ≤ f) : digF f k o = digF (f - 1) (k / 10) (strOfNums [48 + ((k % 10 : Nat) : Int)] ++ o) := by
  obtain ⟨g, rfl⟩ : ∃ g, f = g + 1 := ⟨f - 1, by omega⟩
  rw [digF, if_neg (by omega)]; rfl
theorem digF_zero (f : Nat) (o : ByteArray) : digF f 0 o = o := by cases f <;> simp [digF]
def mT (k : Nat) : ByteArray := if k = 0 then ⟨#[109, 48]⟩ else ⟨#[109]⟩ ++ digF k k ⟨#[]⟩
end Go.Proofs.YtcklnjjbhngbcaaDoor
