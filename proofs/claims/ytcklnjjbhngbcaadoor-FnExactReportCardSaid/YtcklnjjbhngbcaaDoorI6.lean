/- StackAt. -/
import Derived.Test.YtcklnjjbhngbcaaDoorI5
import Derived.Test.YtcklnjjbhngbcaaDoorB5
import Derived.Deep.LoopGhost
namespace Go.Proofs.YtcklnjjbhngbcaaDoor
open Go.RowKit Go.Proofs.Lens

theorem i_frame' : (Tryd.prog.info? 78).map (fun i => (i.zero, i.size, i.bytes)) = some (some (.agg #[.int .i64 0, .int .i64 0, .int .i64 0]), 3, 24) := by kernel_rfl
theorem FrL.own {w w' : World} {fs : List PFr} {p : Option Addr} (h : FrL w p fs) {lo n sz : Nat} {e : TypeId} {C : Nat → Nat → Value} {v : Value} (hO : OwR w lo e sz n C v) (he : e ≠ 95) (hg : w.grownBy w' v.ownBlock) : FrL w' p fs :=
  h.keep fun b N f hB => hg.block b hB.lt (fun hh => by
    obtain ⟨N', f', hB'⟩ := hO.block hh.symm
    exact hB'.ne hB he rfl)

theorem stack_len (t : PTr) (k task : Int) : (stackP t k task).length ≤ 1048576 := by
  unfold stackP
  split
  · rename_i h
    rw [Bool.and_eq_true] at h
    have := (igood_cur h.1).deep task
    omega
  · simp
end Go.Proofs.YtcklnjjbhngbcaaDoor
