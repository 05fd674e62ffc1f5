/- FnExactLast's walk. (Written by KNL.py.) -/
import Derived.Test.YtcklnjjbhngbcaaT19
import Derived.Test.YtcklnjjbhngbcaaL10
import Derived.Test.YtcklnjjbhngbcaaL4
import Derived.Deep.RegionHeld3
namespace Go.Proofs.Ytcklnjjbhngbcaa
open Go.RowKit Go.Proofs.Lens Go.ChangeShapes Go.WideShapes

set_option maxRecDepth 100000 in
set_option maxHeartbeats 4000000 in
theorem last_law (v1 v2 v3 : Value) (t : PTr) (ss : List PStop) (k : Int) (w : World) (hr : RdTr w v1 v2 t) (hz : szTr t) (hrs : RdStops w v3 ss) (hzs : ∀ i, i < ss.length → szS (elt ss i).nm) :
    Calls Try.prog 21 #[.agg #[v1, v2], v3, .int .i64 k] w fun e w' => e = .returned (.bool true) ∧ Below w.heap.size w w' := by
  have HT := Lib.hid hr
  have HZ := Lib.hid hz
  have HRS := Lib.hid hrs
  have HZS := Lib.hid hzs
  obtain ⟨⟨A1, c1, rfl, hn1, -⟩, ⟨vv, ⟨A2, c2, rfl, hn2, -⟩, -⟩⟩ := hr
  clear hz hrs hzs
  go_enter Try.func21, Try.ntmps21
  go_wp2_with fail
  refine (szTrace_calls _ _ t _ _ (HT.out.later (by repeat (with_reducible first | exact Below.refl _ _ | exact HL.out | refine bl_drewN ?_ _ | refine bl_drew ?_ | refine bl_alloc ?_ _ | refine bl_set ?_ (by dsimp only; omega) _))) HZ.out (by omega) (by omega)).mono ?_; rintro e w1 ⟨r, rfl, hr, hb⟩
  have HB := Lib.hid (bl_then (bl_alloc (Below.refl _ w) _) hb)
  have HX := Lib.hid ((BoxAt.new w [.slice A1 t.fns.length c1, .slice A2 t.moms.length c2] 64).later hb)
  clear hb
  rcases hr with hr | ⟨hr, hrr, hsm⟩
  · go_wp2
    go_ret
    exact ⟨rfl, HB.out⟩
  · have HS := Lib.hid hsm
    clear hsm
    have hr3 : 0 ≤ r := hr
    go_wp2_with fail
    refine (szStopS_calls _ ss _ _ (HRS.out.later HB.out) HZS.out hr3 (by omega)).mono ?_; rintro e w2 ⟨r2, rfl, hq, hb⟩
    replace HB := Lib.hid (bl_then HB.out hb); replace HX := Lib.hid (HX.out.later hb); clear hb
    rcases hq with hq | ⟨hq, -, hss⟩
    · go_wp2
      go_ret
      exact ⟨rfl, HB.out⟩
    · have hsl := hss.1
      clear hss
      obtain ⟨x0, x1⟩ := HX.out.open2
      go_wp2_with fail
      clear x0 x1
      refine (copyTrace_calls _ _ t _ (HT.out.later HB.out) HS.out).mono ?_; rintro e w3 ⟨B1, d1, B2, d2, rfl, hr2, hb⟩
      have HR := Lib.hid hr2
      clear hr2
      replace HB := Lib.hid (bl_then HB.out hb); replace HX := Lib.hid (HX.out.later hb); clear hb
      go_wp2_with fail
      refine (toStopS_calls _ ss _ (HRS.out.later HB.out) hsl).mono ?_; rintro e w4 ⟨u1, rfl, hu1, hb⟩
      have HU := Lib.hid hu1
      clear hu1
      replace HB := Lib.hid (bl_then HB.out hb); replace HX := Lib.hid (HX.out.later hb); replace HR := Lib.hid (HR.out.later hb); clear hb
      go_wp2_with fail
      refine (spec_Last_calls _ _ _ t ss k _ HR.out HS.out HU.out).mono ?_; rintro e w5 ⟨rfl, hb⟩
      clear HU HR
      replace HB := Lib.hid (bl_then HB.out hb); replace HX := Lib.hid (HX.out.later hb); clear hb
      obtain ⟨x0, x1⟩ := HX.out.open2
      go_wp2_with fail
      clear x0 x1
      refine (copyTrace_calls _ _ t _ (HT.out.later HB.out) HS.out).mono ?_; rintro e w6 ⟨C1, e1, C2, e2, rfl, hr6, hb⟩
      have HR6 := Lib.hid hr6
      clear hr6
      replace HB := Lib.hid (bl_then HB.out hb); replace HX := Lib.hid (HX.out.later hb); clear hb
      go_upto_region 10 with fail
      have HQ : Hid (BoxAt (w6.alloc _) w6.heap.size _) := Lib.hid (BoxAt.new w6 [.slice C1 t.fns.length e1, .slice C2 t.moms.length e2] 35)
      generalize hW7 : World.alloc w6 _ = w7 at HQ ⊢
      have hbl : Below w6.heap.size w6 w7 := by rw [← hW7]; exact bl_alloc (Below.refl _ _) _
      clear hW7
      replace HB := Lib.hid (bl_then HB.out hbl); replace HX := Lib.hid (HX.out.later hbl); replace HR6 := Lib.hid (HR6.out.later hbl); clear hbl
      go_wp2_with fail
      refine (toStopS_calls _ ss _ (HRS.out.later HB.out) hsl).mono ?_; rintro e w8 ⟨u2, rfl, hu2, hb⟩
      have HU := Lib.hid hu2
      clear hu2
      replace HB := Lib.hid (bl_then HB.out hb); replace HX := Lib.hid (HX.out.later hb); replace HR6 := Lib.hid (HR6.out.later hb); replace HQ := Lib.hid (HQ.out.later hb); clear hb
      obtain ⟨z0, z1⟩ := HQ.out.open2
      go_wp2_with fail
      clear z0 z1
      refine (impl_Last_calls _ _ _ t ss k _ HR6.out HS.out HU.out).mono ?_; rintro e w9 ⟨rfl, hb⟩
      replace HB := Lib.hid (bl_then HB.out hb); replace HX := Lib.hid (HX.out.later hb); replace HR6 := Lib.hid (HR6.out.later hb); replace HQ := Lib.hid (HQ.out.later hb); replace HU := Lib.hid (HU.out.later hb); clear hb
      obtain ⟨x0, x1⟩ := HX.out.open2
      obtain ⟨y0, y1⟩ := HQ.out.open2
      generalize lastP t ss k = q
      go_upto_region 14 with fail
      go_region_held3 (fun w' : World => Below w9.heap.size w9 w' ∧ w'.cell? ⟨w6.heap.size, 0, none⟩ = some (.slice C1 t.fns.length e1) ∧ w'.cell? ⟨w6.heap.size, 1, none⟩ = some (.slice C2 t.moms.length e2) ∧
          w'.cell? ⟨w.heap.size, 0, none⟩ = some (.slice A1 t.fns.length c1) ∧ w'.cell? ⟨w.heap.size, 1, none⟩ = some (.slice A2 t.moms.length c2))
        (first | exact ⟨bl_drew (Below.refl _ _), y0, y1, x0, x1⟩ | exact held4 ‹_› hb7)
        (first | (go_at_call 46; refine (copyTrace_calls _ _ t _ ((HT.out.later HB.out).later (held4_bl ‹_›)) HS.out).mono ?_; rintro e w10 ⟨G1, h1, G2, h2, rfl, hr7, hb7⟩) | (go_at_call 49; refine (eqTrace_calls _ _ _ _ t _ (HR6.out.later (held4_bl ‹_›)) hr7).mono ?_; rintro e w11 ⟨rfl, hb7⟩))
      have hb : Below w9.heap.size w9 w11 := held4_bl ‹_›
      clear x0 x1 y0 y1 hr7 hb7
      replace HB := Lib.hid (bl_then HB.out hb); replace HU := Lib.hid (HU.out.later hb); clear hb
      go_wp2_with fail
      refine (toStopS_calls _ ss _ (HRS.out.later HB.out) hsl).mono ?_; rintro e w12 ⟨u3, rfl, hu3, hb⟩
      have HV := Lib.hid hu3
      clear hu3
      replace HB := Lib.hid (bl_then HB.out hb); replace HU := Lib.hid (HU.out.later hb); clear hb
      go_wp2_with fail
      refine (eqStops_calls _ _ ss _ HU.out HV.out).mono ?_; rintro e w13 ⟨rfl, hb⟩
      replace HB := Lib.hid (bl_then HB.out hb); clear hb
      go_wp2
      go_ret
      exact ⟨rfl, HB.out⟩

set_option maxRecDepth 100000 in
theorem last_walk (H : Type) (enc : TypeId × Value → H) (W : World) (base : Nat) (args : Array Value) (ds : List (DataW H)) (ps : List MemPlace)
    (hval : ∀ (j : Nat) t v, Try.f21.params[j]? = some t → args[j]? = some v → Value.okWide Try.prog W .any base t v)
    (h : DataW.TrodAll enc Try.prog W 0 (fun _ => true) true Try.f21.params.toList args.toList ds ps) :
    Calls Try.prog 21 args W fun e W' => e = .returned (.bool true) ∧ Below W.heap.size W W' := by
  rw [Try.params21] at h hval
  obtain ⟨v0, u0, z0, d0, d1, d2, p0, p1, p2, ha, _, _, h0, h1, h2⟩ := trodAll_three h
  have ha' : args = #[v0, u0, z0] := by simpa using ha
  subst ha'
  obtain ⟨v1, v2, t, rfl, hr, hz⟩ := rd_trace (hval 0 _ _ rfl rfl) h0
  obtain ⟨ss, hrs, hzs⟩ := rd_stops (hval 1 _ _ rfl rfl) h1
  obtain ⟨k, rfl, -, -⟩ := rd_int (hval 2 _ _ rfl rfl) h2
  exact last_law v1 v2 u0 t ss k W hr hz hrs hzs
end Go.Proofs.Ytcklnjjbhngbcaa
