/- l1in, inside, toStop, StopOk: both of them compute stopOk. -/
import Derived.Test.YtcklnjjbhngbcaaDoorP0
import Derived.Test.YtcklnjjbhngbcaaDoorB1
namespace Go.Proofs.YtcklnjjbhngbcaaDoor
open Go.RowKit Go.Proofs.Lens

set_option maxRecDepth 100000 in
theorem l1in_calls (x a b : Int) (w : World) : Calls Tryd.prog 52 #[.int .i64 x, .int .i64 a, .int .i64 b] w fun e w' => e = .returned (.bool (inB x a b)) ∧ w = w' := by
  by_cases h1 : a ≤ x <;> by_cases h2 : x ≤ b
  all_goals
    go_enter Tryd.func52, Tryd.ntmps52
    go_wp2
    go_ret
    exact ⟨by simp [inB, h1, h2], rfl⟩
set_option maxRecDepth 100000 in
theorem inside_calls (x a b : Int) (w : World) : Calls Tryd.prog 71 #[.int .i64 x, .int .i64 a, .int .i64 b] w fun e w' => e = .returned (.bool (inB x a b)) ∧ w = w' := by
  by_cases h1 : a ≤ x <;> by_cases h2 : x ≤ b
  all_goals
    go_enter Tryd.func71, Tryd.ntmps71
    go_wp2
    go_ret
    exact ⟨by simp [inB, h1, h2], rfl⟩

end Go.Proofs.YtcklnjjbhngbcaaDoor
