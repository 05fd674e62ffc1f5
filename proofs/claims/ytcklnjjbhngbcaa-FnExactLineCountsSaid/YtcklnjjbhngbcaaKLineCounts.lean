/- FnExactLineCounts's walk. (Written by KSl.py.) -/
import Derived.Test.YtcklnjjbhngbcaaT20
import Derived.Test.YtcklnjjbhngbcaaI13
import Derived.Test.YtcklnjjbhngbcaaL14
import Derived.Test.YtcklnjjbhngbcaaL8
import Derived.Deep.RegionHeld3
namespace Go.Proofs.Ytcklnjjbhngbcaa
open Go.RowKit Go.Proofs.Lens Go.ChangeShapes Go.WideShapes

set_option maxRecDepth 100000 in
set_option maxHeartbeats 4000000 in
theorem lineCounts_law (v1 v2 : Value) (t : PTr) (w : World) (hr : RdTr w v1 v2 t) (hz : szTr t) :
    Calls Try.prog 24 #[.agg #[v1, v2]] w fun e w' => e = .returned (.bool true) ∧ Below w.heap.size w w' := by
  have HT := Lib.hid hr
  have HZ := Lib.hid hz
  obtain ⟨⟨A1, c1, rfl, hn1, -⟩, ⟨vv, ⟨A2, c2, rfl, hn2, -⟩, -⟩⟩ := hr
  clear hz
  go_enter Try.func24, Try.ntmps24
  go_wp2_with fail
  refine (szTrace_calls _ _ t _ _ (HT.out.later (by repeat (with_reducible first | exact Below.refl _ _ | exact HL.out | refine bl_drewN ?_ _ | refine bl_drew ?_ | refine bl_alloc ?_ _ | refine bl_set ?_ (by dsimp only; omega) _))) HZ.out (by omega) (by omega)).mono ?_; rintro e w1 ⟨r, rfl, hr, hb⟩
  have HB := Lib.hid (bl_then (bl_alloc (Below.refl _ w) _) hb)
  have HX := Lib.hid ((BoxAt.new w [.slice A1 t.fns.length c1, .slice A2 t.moms.length c2] 64).later hb)
  clear hb
  rcases hr with hr | ⟨hr, -, hsm⟩
  · go_wp2
    go_ret
    exact ⟨rfl, HB.out⟩
  · have HS := Lib.hid hsm
    have hln : (lcP t).length ≤ 1048576 := lc_len t
    clear hsm
    obtain ⟨x0, x1⟩ := HX.out.open2
    go_wp2_with fail
    clear x0 x1
    refine (copyTrace_calls _ _ t _ (HT.out.later HB.out) HS.out).mono ?_; rintro e w2 ⟨B1, d1, B2, d2, rfl, hr2, hb⟩
    have HR := Lib.hid hr2
    clear hr2
    replace HB := Lib.hid (bl_then HB.out hb); replace HX := Lib.hid (HX.out.later hb); clear hb
    go_wp2_with fail
    refine (spec_LineCounts_calls _ _ t _ HR.out HS.out).mono ?_; rintro e w3 ⟨u0, rfl, hO, hb⟩
    obtain ⟨A0, k0, rfl, -⟩ := hO.cap
    have HV := Lib.hid hO
    have HVB := Lib.hid (fun b hb => (hO.lt b hb).2)
    clear hO
    replace HB := Lib.hid (bl_then HB.out hb); replace HX := Lib.hid (HX.out.later hb); clear hb
    obtain ⟨x0, x1⟩ := HX.out.open2
    have s0 := World.block_lt_of_cell? _ _ x0
    go_wp2_with fail
    clear x0 x1
    refine (toTrace_calls _ _ t _ (HT.out.later HB.out) HS.out).mono ?_; rintro e w4 ⟨C1, C2, rfl, hq1, hq2, hb⟩
    have HR4 := Lib.hid (show RdTr w4 C1 C2 t from ⟨hq1.rd (by have := HS.out.1.1; omega), hq2.rd HS.out.2⟩)
    have SH1 := Lib.hid hq1.sh
    have SH2 := Lib.hid (hq2.sh HS.out.2)
    have hs4 := hb.size
    obtain ⟨g1, e1, f1, rfl, -⟩ := hq1
    obtain ⟨g2, e2, f2, rfl, -⟩ := hq2
    replace HB := Lib.hid (bl_then HB.out hb); replace HX := Lib.hid (HX.out.later hb); replace HV := Lib.hid (HV.out.later hb); clear hb
    go_wp2_with fail
    refine (impl_LineCounts_calls _ _ t _ (HR4.out.later (by repeat (with_reducible first | exact Below.refl _ _ | exact HL.out | refine bl_drewN ?_ _ | refine bl_drew ?_ | refine bl_alloc ?_ _ | refine bl_set ?_ (by dsimp only; omega) _))) HS.out).mono ?_; rintro e w6 ⟨u1, rfl, hO, hb⟩
    obtain ⟨A9, k9, rfl, -⟩ := hO.cap
    have HG := Lib.hid (hO.lower (lo' := w4.heap.size) (by simp))
    have HY := Lib.hid ((BoxAt.new w4 [.slice (some ⟨g1, 0, none⟩) t.fns.length e1, .slice (some ⟨g2, 0, none⟩) t.moms.length e2] 35).later hb)
    replace hb := bl_then (bl_alloc (Below.refl _ w4) _) hb
    clear hO
    replace HB := Lib.hid (bl_then HB.out hb); replace HX := Lib.hid (HX.out.later hb); replace HV := Lib.hid (HV.out.later hb); replace HR4 := Lib.hid (HR4.out.later hb); replace SH1 := Lib.hid (SH1.out.later hb); replace SH2 := Lib.hid (SH2.out.later hb); clear hb
    go_wp2_with fail
    refine (eqLineCounts_calls _ _ (lcP t) _ HG.out.rd HV.out.rd).mono ?_; rintro e w7 ⟨rfl, hb⟩
    replace HB := Lib.hid (bl_then HB.out hb); replace HX := Lib.hid (HX.out.later hb); replace HV := Lib.hid (HV.out.later hb); replace HG := Lib.hid (HG.out.later hb); replace HR4 := Lib.hid (HR4.out.later hb); replace SH1 := Lib.hid (SH1.out.later hb); replace SH2 := Lib.hid (SH2.out.later hb); replace HY := Lib.hid (HY.out.later hb); clear hb
    obtain ⟨x0, x1⟩ := HX.out.open2
    obtain ⟨y0, y1⟩ := HY.out.open2
    go_wp2_with fail
    go_region_held3 (fun w' : World => Below w7.heap.size w7 w' ∧ w'.cell? ⟨w4.heap.size, 0, none⟩ = some (.slice (some ⟨g1, 0, none⟩) t.fns.length e1) ∧ w'.cell? ⟨w4.heap.size, 1, none⟩ = some (.slice (some ⟨g2, 0, none⟩) t.moms.length e2) ∧
        w'.cell? ⟨w.heap.size, 0, none⟩ = some (.slice A1 t.fns.length c1) ∧ w'.cell? ⟨w.heap.size, 1, none⟩ = some (.slice A2 t.moms.length c2))
      (first | exact ⟨bl_drew (Below.refl _ _), y0, y1, x0, x1⟩ | exact held_tr' ‹_› hb7)
      (first | (go_at_call 46; refine (copyTrace_calls _ _ t _ ((HT.out.later HB.out).later (held_bl' ‹_›)) HS.out).mono ?_; rintro e w7' ⟨G1, h1, G2, h2, rfl, hr7, hb7⟩) | (go_at_call 49; refine (eqTrace_calls _ _ _ _ t _ (HR4.out.later (held_bl' ‹_›)) hr7).mono ?_; rintro e w8 ⟨rfl, hb7⟩))
    have hb : Below w7.heap.size w7 w8 := held_bl' ‹_›
    clear x0 x1 y0 y1 hr7 hb7
    replace HB := Lib.hid (bl_then HB.out hb); replace HX := Lib.hid (HX.out.later hb); replace HV := Lib.hid (HV.out.later hb); replace HG := Lib.hid (HG.out.later hb); replace SH1 := Lib.hid (SH1.out.later hb); replace SH2 := Lib.hid (SH2.out.later hb); replace HY := Lib.hid (HY.out.later hb); clear hb
    obtain ⟨y0, y1⟩ := HY.out.open2
    have hs8 := HB.out.size
    have hs83 : w3.heap.size ≤ w8.heap.size := by
      have h1 := World.block_lt_of_cell? _ _ y0
      dsimp only at h1
      omega
    go_wp2_with fail
    clear y0 y1
    refine (markTrace_calls w3.heap.size w4.heap.size _ _ _ _ _ _ SH1.out SH2.out HS.out.1.1 HS.out.2.1 (by omega) (by omega)).mono ?_; rintro e w9 ⟨r9, rfl, hr1, -, hM⟩
    have hb9 := hM.below hs83
    replace HB := Lib.hid (bl_trans' HB.out (bl_low' hb9 (Nat.le_of_lt s0)))
    replace HX := Lib.hid (HX.out.low hb9 s0)
    replace HV := Lib.hid (HV.out.low hb9 HVB.out)
    replace HG := Lib.hid (HG.out.hi hM (fun b hb => (HG.out.lt b hb).1))
    clear hM hb9 SH1 SH2 HY HR4
    have hr9 : 0 ≤ r9 := by omega
    go_wp2_with fail
    refine (eqLineCounts_calls _ _ (lcP t) _ HG.out.rd HV.out.rd).mono ?_; rintro e w10 ⟨rfl, hb⟩
    replace HB := Lib.hid (bl_then HB.out hb); replace HX := Lib.hid (HX.out.later hb); replace HV := Lib.hid (HV.out.later hb); replace HG := Lib.hid (HG.out.later hb); clear hb
    go_wp2_with fail
    refine (markLcs_calls _ _ _ _ _ _ HG.out hln (by omega) (by omega)).mono ?_; rintro e w11 ⟨rfl, hO, hGr⟩
    have hsz10 := HB.out.size
    have HGB := Lib.hid (fun b hb => (HG.out.lt b hb).1)
    replace HB := Lib.hid (bl_own HB.out hsz10 (HG.out.lower (lo' := w.heap.size) (by omega)) hGr)
    replace HX := Lib.hid (HX.out.gbo hGr (fun hh => by have := HGB.out _ hh; omega))
    replace HV := Lib.hid (HV.out.grown hGr (fun b hb hh => by have h1 := HVB.out b hb; have h2 := HGB.out b hh; omega))
    clear HG
    have HG := Lib.hid hO
    clear hO hGr
    obtain ⟨x0, x1⟩ := HX.out.open2
    go_wp2_with fail
    refine (heldLcs_calls _ _ _ _ HG.out.rd hln (by omega) (by omega)).mono ?_; rintro e w12 ⟨rfl, rfl⟩
    have hq0 : ¬ (1 + 3 * ((lcP t).length : Int)) < 0 := by omega
    go_wp2_with fail
    clear x0 x1
    refine (copyTrace_calls _ _ t _ (HT.out.later HB.out) HS.out).mono ?_; rintro e w13 ⟨B3, d3, B4, d4, rfl, hr3, hb⟩
    have HR5 := Lib.hid hr3
    clear hr3
    replace HB := Lib.hid (bl_then HB.out hb); replace HV := Lib.hid (HV.out.later hb); replace HG := Lib.hid (HG.out.later hb); clear hb
    go_wp2_with fail
    refine (impl_LineCounts_calls _ _ t _ HR5.out HS.out).mono ?_; rintro e w14 ⟨u2, rfl, hO, hb⟩
    obtain ⟨A8, k8, rfl, -⟩ := hO.cap
    have HH := Lib.hid hO
    clear hO
    replace HB := Lib.hid (bl_then HB.out hb); replace HV := Lib.hid (HV.out.later hb); replace HG := Lib.hid (HG.out.later hb); clear hb
    go_wp2_with fail
    refine (eqLineCounts_calls _ _ (lcP t) _ HH.out.rd HV.out.rd).mono ?_; rintro e w15 ⟨rfl, hb⟩
    replace HB := Lib.hid (bl_then HB.out hb); replace HG := Lib.hid (HG.out.later hb); clear hb
    go_wp2_with fail
    refine (heldLcs_calls _ _ _ _ HG.out.rd hln (by omega) (by omega)).mono ?_; rintro e w16 ⟨rfl, rfl⟩
    go_wp2
    go_ret
    exact ⟨rfl, HB.out⟩

set_option maxRecDepth 100000 in
theorem lineCounts_walk (H : Type) (enc : TypeId × Value → H) (W : World) (base : Nat) (args : Array Value) (ds : List (DataW H)) (ps : List MemPlace)
    (hval : ∀ (j : Nat) t v, Try.f24.params[j]? = some t → args[j]? = some v → Value.okWide Try.prog W .any base t v)
    (h : DataW.TrodAll enc Try.prog W 0 (fun _ => true) true Try.f24.params.toList args.toList ds ps) :
    Calls Try.prog 24 args W fun e W' => e = .returned (.bool true) ∧ Below W.heap.size W W' := by
  rw [Try.params24] at h hval
  obtain ⟨v0, d0, ha, _, h0⟩ := trodAll_one h
  have ha' : args = #[v0] := by simpa using ha
  subst ha'
  obtain ⟨v1, v2, t, rfl, hr, hz⟩ := rd_trace (hval 0 _ _ rfl rfl) h0
  exact lineCounts_law v1 v2 t W hr hz
end Go.Proofs.Ytcklnjjbhngbcaa
