/- FnExactStopOk's walk. -/
import Derived.Test.YtcklnjjbhngbcaaL1
import Derived.Test.YtcklnjjbhngbcaaI0
namespace Go.Proofs.Ytcklnjjbhngbcaa
open Go.RowKit Go.Proofs.Lens Go.ChangeShapes Go.WideShapes

set_option maxRecDepth 100000 in
set_option maxHeartbeats 1000000 in
theorem stopOk_law (p : PStop) (w : World) (hz : szS p.nm) : Calls Try.prog 4 #[stopV p] w fun e w' => e = .returned (.bool true) ∧ Below w.heap.size w w' := by
  have HZ := Lib.hid hz
  clear hz
  unfold stopV
  go_enter Try.func4, Try.ntmps4
  go_wp2_with fail
  refine (szStop_calls p _ _ HZ.out (by omega) (by omega)).mono ?_; rintro e w1 ⟨r, rfl, hr, hb1⟩
  have B1 := Lib.hid (bl_then (bl_alloc (Below.refl _ w) _) hb1)
  have X1 := Lib.hid ((BoxAt.new w [.int .i64 p.kind, .int .i64 p.fn, .int .i64 p.line, .string p.nm] 24).later hb1)
  clear hb1
  rcases hr with hr | ⟨hr, -, -⟩
  · go_wp2
    go_ret
    exact ⟨rfl, B1.out⟩
  · obtain ⟨c0, c1, c2, c3⟩ := X1.out.open4
    go_wp2_with fail
    clear c0 c1 c2 c3
    refine (toStop_calls p _).mono ?_; rintro e w2 ⟨rfl, hb2⟩
    have B2 := Lib.hid (bl_then B1.out hb2)
    have X2 := Lib.hid (X1.out.later hb2)
    clear hb2
    unfold stopV
    go_wp2_with fail
    refine (spec_StopOk_calls p _).mono ?_; rintro e w3 ⟨rfl, hb3⟩
    have B3 := Lib.hid (bl_then B2.out hb3)
    have X3 := Lib.hid (X2.out.later hb3)
    clear hb3
    obtain ⟨c0, c1, c2, c3⟩ := X3.out.open4
    go_wp2_with fail
    clear c0 c1 c2 c3
    refine (toStop_calls p _).mono ?_; rintro e w4 ⟨rfl, hb4⟩
    have B4 := Lib.hid (bl_then B3.out hb4)
    clear hb4
    unfold stopV
    go_wp2_with fail
    refine (impl_StopOk_calls p _).mono ?_; rintro e w5 ⟨rfl, hb5⟩
    have B5 := Lib.hid (bl_then B4.out hb5)
    clear hb5
    go_wp2
    go_ret
    exact ⟨rfl, B5.out⟩

set_option maxRecDepth 100000 in
theorem stopOk_walk (H : Type) (enc : TypeId × Value → H) (W : World) (base : Nat) (args : Array Value) (ds : List (DataW H)) (ps : List MemPlace)
    (hval : ∀ (j : Nat) t v, Try.f4.params[j]? = some t → args[j]? = some v → Value.okWide Try.prog W .any base t v)
    (h : DataW.TrodAll enc Try.prog W 0 (fun _ => true) true Try.f4.params.toList args.toList ds ps) :
    Calls Try.prog 4 args W fun e W' => e = .returned (.bool true) ∧ Below W.heap.size W W' := by
  rw [Try.params4] at h hval
  obtain ⟨v0, d0, ha, _, h0⟩ := trodAll_one h
  have ha' : args = #[v0] := by simpa using ha
  subst ha'
  obtain ⟨p, rfl, hz⟩ := rd_stop (hval 0 _ _ rfl rfl) h0
  exact stopOk_law p W hz
end Go.Proofs.Ytcklnjjbhngbcaa
