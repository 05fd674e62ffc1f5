/- FnExactStopsAt's walk. -/
import Derived.Test.YtcklnjjbhngbcaaT18
import Derived.Test.YtcklnjjbhngbcaaI11
import Derived.Test.YtcklnjjbhngbcaaL9
import Derived.Test.YtcklnjjbhngbcaaL4
import Derived.Deep.RegionHeld3
namespace Go.Proofs.Ytcklnjjbhngbcaa
open Go.RowKit Go.Proofs.Lens Go.ChangeShapes Go.WideShapes

theorem spec_StopsAt_un (v1 v2 : Value) (t : PTr) (s : PStop) (k : Int) (w : World) (h : RdTr w v1 v2 t) (hsm : smTr t) :
    Calls Try.prog 67 #[.agg #[v1, v2], .agg #[.int .i64 s.kind, .int .i64 s.fn, .int .i64 s.line, .string s.nm], .int .i64 k] w fun e w' => e = .returned (.bool (stopsAtP t s k)) ∧ Below w.heap.size w w' := spec_StopsAt_calls v1 v2 t s k w h hsm
theorem impl_StopsAt_un (v1 v2 : Value) (t : PTr) (s : PStop) (k : Int) (w : World) (h : RdTr w v1 v2 t) (hsm : smTr t) :
    Calls Try.prog 56 #[.agg #[v1, v2], .agg #[.int .i64 s.kind, .int .i64 s.fn, .int .i64 s.line, .string s.nm], .int .i64 k] w fun e w' => e = .returned (.bool (stopsAtP t s k)) ∧ Below w.heap.size w w' := impl_StopsAt_calls v1 v2 t s k w h hsm
set_option maxRecDepth 100000 in
set_option maxHeartbeats 8000000 in
theorem stopsAt_law (v1 v2 : Value) (t : PTr) (s : PStop) (k : Int) (w : World) (hr : RdTr w v1 v2 t) (hz : szTr t) (hzs : szS s.nm) :
    Calls Try.prog 18 #[.agg #[v1, v2], stopV s, .int .i64 k] w fun e w' => e = .returned (.bool true) ∧ Below w.heap.size w w' := by
  have HT := Lib.hid hr
  have HZ := Lib.hid hz
  have HZS := Lib.hid hzs
  obtain ⟨⟨A1, c1, rfl, hn1, -⟩, ⟨vv, ⟨A2, c2, rfl, hn2, -⟩, -⟩⟩ := hr
  unfold stopV
  clear hz hzs
  go_enter Try.func18, Try.ntmps18
  go_wp2_with fail
  refine (szTrace_calls _ _ t _ _ (HT.out.later (by repeat (with_reducible first | exact Below.refl _ _ | exact HL.out | refine bl_drewN ?_ _ | refine bl_drew ?_ | refine bl_alloc ?_ _ | refine bl_set ?_ (by dsimp only; omega) _))) HZ.out (by omega) (by omega)).mono ?_; rintro e w1 ⟨r, rfl, hr, hb⟩
  have HB := Lib.hid (bl_then (bl_alloc (bl_alloc (Below.refl _ w) _) _) hb)
  have HX := Lib.hid (((BoxAt.new w [.slice A1 t.fns.length c1, .slice A2 t.moms.length c2] 64).later (bl_alloc (Below.refl _ _) (.cells #[.int .i64 s.kind, .int .i64 s.fn, .int .i64 s.line, .string s.nm] 24))).later hb)
  have hY := (BoxAt.new (w.alloc (.cells #[.slice A1 t.fns.length c1, .slice A2 t.moms.length c2] 64)) [.int .i64 s.kind, .int .i64 s.fn, .int .i64 s.line, .string s.nm] 24).later hb
  rw [World.size_alloc] at hY
  have HY := Lib.hid hY
  clear hb hY
  rcases hr with hr | ⟨hr, hr2, hsm⟩
  · go_wp2
    go_ret
    exact ⟨rfl, HB.out⟩
  · have HS := Lib.hid hsm
    clear hsm
    have hr3 : 0 ≤ r := hr
    obtain ⟨y0, y1, y2, y3⟩ := HY.out.open4
    go_wp2_with fail
    clear y0 y1 y2 y3
    refine (szStop_un s _ _ HZS.out hr3 (by omega)).mono ?_; rintro e w2 ⟨r2, rfl, hq, hb⟩
    replace HB := Lib.hid (bl_then HB.out hb); replace HX := Lib.hid (HX.out.later hb); replace HY := Lib.hid (HY.out.later hb); clear hb
    rcases hq with hq | ⟨hq, -, -⟩
    · go_wp2
      go_ret
      exact ⟨rfl, HB.out⟩
    · obtain ⟨x0, x1⟩ := HX.out.open2
      obtain ⟨y0, y1, y2, y3⟩ := HY.out.open4
      go_upto_region 8 with fail
      go_region_held3 (fun w' : World => Below w2.heap.size w2 w' ∧ w'.cell? ⟨w.heap.size, 0, none⟩ = some (.slice A1 t.fns.length c1) ∧ w'.cell? ⟨w.heap.size, 1, none⟩ = some (.slice A2 t.moms.length c2) ∧
          w'.cell? ⟨w.heap.size + 1, 0, none⟩ = some (.int .i64 s.kind) ∧ w'.cell? ⟨w.heap.size + 1, 1, none⟩ = some (.int .i64 s.fn) ∧ w'.cell? ⟨w.heap.size + 1, 2, none⟩ = some (.int .i64 s.line) ∧ w'.cell? ⟨w.heap.size + 1, 3, none⟩ = some (.string s.nm))
        (first | exact ⟨bl_drew (Below.refl _ _), x0, x1, y0, y1, y2, y3⟩ | exact held6 ‹_› hb7)
        (first | (go_at_call 46; refine (copyTrace_calls _ _ t _ ((HT.out.later HB.out).later (held6_bl ‹_›)) HS.out).mono ?_; rintro e w3 ⟨G1, h1, G2, h2, rfl, hr7, hb7⟩)
               | (go_at_call 27; refine (toStop_un s _).mono ?_; rintro e w4 ⟨rfl, hb7⟩)
               | (go_at_call 67; refine (spec_StopsAt_un _ _ t s k _ (by first | exact hr7 | exact hr7.later ‹_›) HS.out).mono ?_; rintro e w5 ⟨rfl, hb7⟩))
      have hb : Below w2.heap.size w2 w5 := held6_bl ‹_›
      clear x0 x1 y0 y1 y2 y3 hr7
      replace HB := Lib.hid (bl_then HB.out hb); replace HX := Lib.hid (HX.out.later hb); replace HY := Lib.hid (HY.out.later hb); clear hb
      clear hb7
      obtain ⟨x0, x1⟩ := HX.out.open2
      go_wp2_with fail
      clear x0 x1
      refine (copyTrace_calls _ _ t _ (HT.out.later HB.out) HS.out).mono ?_; rintro e w6 ⟨C1, e1, C2, e2, rfl, hr6, hb⟩
      have HR6 := Lib.hid hr6
      clear hr6
      replace HB := Lib.hid (bl_then HB.out hb); replace HX := Lib.hid (HX.out.later hb); replace HY := Lib.hid (HY.out.later hb); clear hb
      go_upto_region 10 with fail
      have HQ : Hid (BoxAt (w6.alloc _) w6.heap.size _) := Lib.hid (BoxAt.new w6 [.slice C1 t.fns.length e1, .slice C2 t.moms.length e2] 35)
      generalize hW7 : World.alloc w6 _ = w7 at HQ ⊢
      have hbl : Below w6.heap.size w6 w7 := by rw [← hW7]; exact bl_alloc (Below.refl _ _) _
      clear hW7
      replace HB := Lib.hid (bl_then HB.out hbl); replace HX := Lib.hid (HX.out.later hbl); replace HY := Lib.hid (HY.out.later hbl); replace HR6 := Lib.hid (HR6.out.later hbl); clear hbl
      obtain ⟨x0, x1⟩ := HX.out.open2
      obtain ⟨z0, z1⟩ := HQ.out.open2
      obtain ⟨y0, y1, y2, y3⟩ := HY.out.open4
      go_region_held3 (fun w' : World => Below w7.heap.size w7 w' ∧ w'.cell? ⟨w6.heap.size, 0, none⟩ = some (.slice C1 t.fns.length e1) ∧ w'.cell? ⟨w6.heap.size, 1, none⟩ = some (.slice C2 t.moms.length e2) ∧
          w'.cell? ⟨w.heap.size + 1, 0, none⟩ = some (.int .i64 s.kind) ∧ w'.cell? ⟨w.heap.size + 1, 1, none⟩ = some (.int .i64 s.fn) ∧ w'.cell? ⟨w.heap.size + 1, 2, none⟩ = some (.int .i64 s.line) ∧ w'.cell? ⟨w.heap.size + 1, 3, none⟩ = some (.string s.nm))
        (first | exact ⟨bl_drew (Below.refl _ _), z0, z1, y0, y1, y2, y3⟩ | exact held6 ‹_› hb7)
        (first | (go_at_call 27; refine (toStop_un s _).mono ?_; rintro e w8 ⟨rfl, hb7⟩)
               | (go_at_call 56; refine (impl_StopsAt_un _ _ t s k _ (HR6.out.later (held6_bl ‹_›)) HS.out).mono ?_; rintro e w9 ⟨rfl, hb7⟩))
      have hb : Below w7.heap.size w7 w9 := held6_bl ‹_›
      clear x0 x1 y0 y1 y2 y3 z0 z1
      replace HQ := Lib.hid (HQ.out.later hb)
      replace HB := Lib.hid (bl_then HB.out hb); replace HX := Lib.hid (HX.out.later hb); replace HY := Lib.hid (HY.out.later hb); replace HR6 := Lib.hid (HR6.out.later hb); clear hb
      clear hb7
      obtain ⟨x0, x1⟩ := HX.out.open2
      obtain ⟨y0, y1⟩ := HQ.out.open2
      generalize stopsAtP t s k = q
      go_upto_region 13 with fail
      all_goals
        go_region_held3 (fun w' : World => Below w9.heap.size w9 w' ∧ w'.cell? ⟨w6.heap.size, 0, none⟩ = some (.slice C1 t.fns.length e1) ∧ w'.cell? ⟨w6.heap.size, 1, none⟩ = some (.slice C2 t.moms.length e2) ∧
            w'.cell? ⟨w.heap.size, 0, none⟩ = some (.slice A1 t.fns.length c1) ∧ w'.cell? ⟨w.heap.size, 1, none⟩ = some (.slice A2 t.moms.length c2))
          (first | exact ⟨bl_drew (Below.refl _ _), y0, y1, x0, x1⟩ | exact held4 ‹_› hb7)
          (first | (go_at_call 46; refine (copyTrace_calls _ _ t _ ((HT.out.later HB.out).later (held4_bl ‹_›)) HS.out).mono ?_; rintro e w10 ⟨G1, h1, G2, h2, rfl, hr7, hb7⟩) | (go_at_call 49; refine (eqTrace_calls _ _ _ _ t _ (HR6.out.later (held4_bl ‹_›)) hr7).mono ?_; rintro e w11 ⟨rfl, hb7⟩))
        go_wp2
        go_ret
        exact ⟨rfl, bl_then HB.out (held4_bl ‹_›)⟩

set_option maxRecDepth 100000 in
theorem stopsAt_walk (H : Type) (enc : TypeId × Value → H) (W : World) (base : Nat) (args : Array Value) (ds : List (DataW H)) (ps : List MemPlace)
    (hval : ∀ (j : Nat) t v, Try.f18.params[j]? = some t → args[j]? = some v → Value.okWide Try.prog W .any base t v)
    (h : DataW.TrodAll enc Try.prog W 0 (fun _ => true) true Try.f18.params.toList args.toList ds ps) :
    Calls Try.prog 18 args W fun e W' => e = .returned (.bool true) ∧ Below W.heap.size W W' := by
  rw [Try.params18] at h hval
  obtain ⟨v0, u0, z0, d0, d1, d2, p0, p1, p2, ha, _, _, h0, h1, h2⟩ := trodAll_three h
  have ha' : args = #[v0, u0, z0] := by simpa using ha
  subst ha'
  obtain ⟨v1, v2, t, rfl, hr, hz⟩ := rd_trace (hval 0 _ _ rfl rfl) h0
  obtain ⟨s, rfl, hzs⟩ := rd_stop (hval 1 _ _ rfl rfl) h1
  obtain ⟨k, rfl, -, -⟩ := rd_int (hval 2 _ _ rfl rfl) h2
  exact stopsAt_law v1 v2 t s k W hr hz hzs
end Go.Proofs.Ytcklnjjbhngbcaa
