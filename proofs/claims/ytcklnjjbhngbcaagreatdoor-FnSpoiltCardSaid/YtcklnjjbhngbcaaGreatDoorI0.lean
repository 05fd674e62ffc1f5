/- l1in, inside, toStop, StopOk: both of them compute stopOk. -/
import Derived.Test.YtcklnjjbhngbcaaGreatDoorP0
import Derived.Test.YtcklnjjbhngbcaaGreatDoorB1
namespace Go.Proofs.YtcklnjjbhngbcaaGreatDoor
open Go.RowKit Go.Proofs.Lens

set_option maxRecDepth 100000 in
theorem l1in_calls (x a b : Int) (w : World) : Calls Tryz.prog 137 #[.int .i64 x, .int .i64 a, .int .i64 b] w fun e w' => e = .returned (.bool (inB x a b)) ∧ w = w' := by
  by_cases h1 : a ≤ x <;> by_cases h2 : x ≤ b
  all_goals
    go_enter Tryz.func137, Tryz.ntmps137
    go_wp2
    go_ret
    exact ⟨by simp [inB, h1, h2], rfl⟩
set_option maxRecDepth 100000 in
theorem inside_calls (x a b : Int) (w : World) : Calls Tryz.prog 116 #[.int .i64 x, .int .i64 a, .int .i64 b] w fun e w' => e = .returned (.bool (inB x a b)) ∧ w = w' := by
  by_cases h1 : a ≤ x <;> by_cases h2 : x ≤ b
  all_goals
    go_enter Tryz.func116, Tryz.ntmps116
    go_wp2
    go_ret
    exact ⟨by simp [inB, h1, h2], rfl⟩

set_option maxRecDepth 100000 in
set_option maxHeartbeats 400000 in
theorem toStop_calls (p : PStop) (w : World) : Calls Tryz.prog 129 #[stopV p] w fun e w' => e = .returned (stopV p) ∧ Below w.heap.size w w' := by
  unfold stopV
  go_enter Tryz.func129, Tryz.ntmps129
  go_wp2
  refine bodyPost_ret (v := .agg #[.int .i64 p.kind, .int .i64 p.fn, .int .i64 p.line, .string p.nm]) (by simp [results, Tryz.results129, go_sem]) rfl ⟨rfl, ?_⟩
  exact bl_alloc (bl_alloc (bl_alloc (Below.refl _ _) _) _) _

set_option maxRecDepth 100000 in
set_option maxHeartbeats 400000 in
theorem spec_StopOk_calls (p : PStop) (w : World) : Calls Tryz.prog 138 #[stopV p] w fun e w' => e = .returned (.bool (stopOk p)) ∧ Below w.heap.size w w' := by
  unfold stopV
  go_enter Tryz.func138, Tryz.ntmps138
  go_wp2_with (go_at_call 137; refine (l1in_calls _ _ _ _).mono ?_; rintro e w' ⟨rfl, rfl⟩)
  all_goals
    go_ret
    refine ⟨ret_bool ?_, bl_alloc (Below.refl _ _) _⟩
    go_tidy
    unfold stopOk noS
    grind [inB, List.isEmpty_iff]

set_option maxRecDepth 100000 in
set_option maxHeartbeats 400000 in
theorem impl_StopOk_calls (p : PStop) (w : World) : Calls Tryz.prog 115 #[stopV p] w fun e w' => e = .returned (.bool (stopOk p)) ∧ Below w.heap.size w w' := by
  unfold stopV
  go_enter Tryz.func115, Tryz.ntmps115
  go_wp2_with (go_at_call 116; refine (inside_calls _ _ _ _).mono ?_; rintro e w' ⟨rfl, rfl⟩)
  all_goals
    go_ret
    refine ⟨ret_bool ?_, by first | exact bl_alloc (Below.refl _ _) _ | exact bl_alloc (bl_alloc (Below.refl _ _) _) _⟩
    go_tidy
    unfold stopOk noS
    grind [inB, List.isEmpty_iff]
end Go.Proofs.YtcklnjjbhngbcaaGreatDoor
