/- FnExactOver's walk. (Written by KInt.py.) -/
import Derived.Test.YtcklnjjbhngbcaaT10
import Derived.Test.YtcklnjjbhngbcaaI5
import Derived.Test.YtcklnjjbhngbcaaL4
import Derived.Test.YtcklnjjbhngbcaaKTraceOk
import Derived.Deep.RegionHeld3
namespace Go.Proofs.Ytcklnjjbhngbcaa
open Go.RowKit Go.Proofs.Lens Go.ChangeShapes Go.WideShapes

set_option maxRecDepth 100000 in
set_option maxHeartbeats 2000000 in
theorem over_law (v1 v2 : Value) (t : PTr) (k : Int) (w : World) (hr : RdTr w v1 v2 t) (hz : szTr t) (_hk0 : -9223372036854775808 ≤ k) (_hk1 : k ≤ 9223372036854775807) :
    Calls Try.prog 14 #[.agg #[v1, v2], .int .i64 k] w fun e w' => e = .returned (.bool true) ∧ Below w.heap.size w w' := by
  have HT := Lib.hid hr
  have HZ := Lib.hid hz
  obtain ⟨⟨A1, c1, rfl, hn1, -⟩, ⟨vv, ⟨A2, c2, rfl, hn2, -⟩, -⟩⟩ := hr
  clear hz
  go_enter Try.func14, Try.ntmps14
  go_wp2_with fail
  refine (szTrace_calls _ _ t _ _ (HT.out.later (by repeat (with_reducible first | exact Below.refl _ _ | exact HL.out | refine bl_drewN ?_ _ | refine bl_drew ?_ | refine bl_alloc ?_ _ | refine bl_set ?_ (by dsimp only; omega) _))) HZ.out (by omega) (by omega)).mono ?_; rintro e w1 ⟨r, rfl, hr, hb⟩
  have HB := Lib.hid (bl_then (bl_alloc (Below.refl _ w) _) hb)
  have HX := Lib.hid ((BoxAt.new w [.slice A1 t.fns.length c1, .slice A2 t.moms.length c2] 64).later hb)
  clear hb
  rcases hr with hr | ⟨hr, -, hsm⟩
  · go_wp2
    go_ret
    exact ⟨rfl, HB.out⟩
  · have HS := Lib.hid hsm
    clear hsm
    obtain ⟨x0, x1⟩ := HX.out.open2
    go_wp2_with fail
    clear x0 x1
    refine (copyTrace_calls _ _ t _ (HT.out.later HB.out) HS.out).mono ?_; rintro e w2 ⟨B1, d1, B2, d2, rfl, hr2, hb⟩
    have HR := Lib.hid hr2
    clear hr2
    replace HB := Lib.hid (bl_then HB.out hb); replace HX := Lib.hid (HX.out.later hb); clear hb
    go_wp2_with fail
    refine (spec_Over_calls _ _ t k _ HR.out HS.out).mono ?_; rintro e w3 ⟨rfl, hb⟩
    replace HB := Lib.hid (bl_then HB.out hb); replace HX := Lib.hid (HX.out.later hb); clear hb
    obtain ⟨x0, x1⟩ := HX.out.open2
    go_wp2_with fail
    clear x0 x1
    refine (copyTrace_calls _ _ t _ (HT.out.later HB.out) HS.out).mono ?_; rintro e w4 ⟨C1, e1, C2, e2, rfl, hr4, hb⟩
    replace HB := Lib.hid (bl_then HB.out hb); replace HX := Lib.hid (HX.out.later hb); clear hb
    have HR4 := Lib.hid hr4
    clear hr4
    go_wp2_with fail
    refine (impl_Over_calls _ _ t k _ (HR4.out.later (by repeat (with_reducible first | exact Below.refl _ _ | exact HL.out | refine bl_drewN ?_ _ | refine bl_drew ?_ | refine bl_alloc ?_ _ | refine bl_set ?_ (by dsimp only; omega) _))) HS.out).mono ?_; rintro e w6 ⟨rfl, hb⟩
    have HY := Lib.hid ((BoxAt.new w4 [.slice C1 t.fns.length e1, .slice C2 t.moms.length e2] 35).later hb)
    replace hb := bl_then (bl_alloc (Below.refl _ w4) _) hb
    replace HB := Lib.hid (bl_then HB.out hb); replace HX := Lib.hid (HX.out.later hb); replace HR4 := Lib.hid (HR4.out.later hb); clear hb
    obtain ⟨x0, x1⟩ := HX.out.open2
    obtain ⟨y0, y1⟩ := HY.out.open2
    generalize overP t k = q
    go_wp2_with fail
    go_region_held3 (fun w' : World => Below w6.heap.size w6 w' ∧ w'.cell? ⟨w4.heap.size, 0, none⟩ = some (.slice C1 t.fns.length e1) ∧ w'.cell? ⟨w4.heap.size, 1, none⟩ = some (.slice C2 t.moms.length e2) ∧
        w'.cell? ⟨w.heap.size, 0, none⟩ = some (.slice A1 t.fns.length c1) ∧ w'.cell? ⟨w.heap.size, 1, none⟩ = some (.slice A2 t.moms.length c2))
      (first | exact ⟨bl_drew (Below.refl _ _), y0, y1, x0, x1⟩ | exact held_tr ‹_› hb7)
      (first | (go_at_call 46; refine (copyTrace_calls _ _ t _ ((HT.out.later HB.out).later (held_bl ‹_›)) HS.out).mono ?_; rintro e w7 ⟨G1, h1, G2, h2, rfl, hr7, hb7⟩) | (go_at_call 49; refine (eqTrace_calls _ _ _ _ t _ (HR4.out.later (held_bl ‹_›)) hr7).mono ?_; rintro e w8 ⟨rfl, hb7⟩))
    go_wp2
    go_ret
    exact ⟨rfl, bl_then HB.out (held_bl ‹_›)⟩

set_option maxRecDepth 100000 in
theorem over_walk (H : Type) (enc : TypeId × Value → H) (W : World) (base : Nat) (args : Array Value) (ds : List (DataW H)) (ps : List MemPlace)
    (hval : ∀ (j : Nat) t v, Try.f14.params[j]? = some t → args[j]? = some v → Value.okWide Try.prog W .any base t v)
    (h : DataW.TrodAll enc Try.prog W 0 (fun _ => true) true Try.f14.params.toList args.toList ds ps) :
    Calls Try.prog 14 args W fun e W' => e = .returned (.bool true) ∧ Below W.heap.size W W' := by
  rw [Try.params14] at h hval
  obtain ⟨v0, u0, d0, d1, p0, p1, ha, _, _, h0, h1⟩ := trodAll_two h
  have ha' : args = #[v0, u0] := by simpa using ha
  subst ha'
  obtain ⟨v1, v2, t, rfl, hr, hz⟩ := rd_trace (hval 0 _ _ rfl rfl) h0
  obtain ⟨k, rfl, k0, k1⟩ := rd_int (hval 1 _ _ rfl rfl) h1
  exact over_law v1 v2 t k W hr hz k0 k1
end Go.Proofs.Ytcklnjjbhngbcaa
