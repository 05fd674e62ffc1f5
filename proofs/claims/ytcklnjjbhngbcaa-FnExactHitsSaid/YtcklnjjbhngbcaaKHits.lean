/- FnExactHits's walk. (Written by KHits.py.) -/
import Derived.Test.YtcklnjjbhngbcaaT18
import Derived.Test.YtcklnjjbhngbcaaI11
import Derived.Test.YtcklnjjbhngbcaaL9
import Derived.Test.YtcklnjjbhngbcaaL8
import Derived.Deep.RegionHeld3
namespace Go.Proofs.Ytcklnjjbhngbcaa
open Go.RowKit Go.Proofs.Lens Go.ChangeShapes Go.WideShapes

theorem hits_len (t : PTr) (s : PStop) : (hitsP t s).length ≤ 1048576 := by
  unfold hitsP
  split
  · rename_i h
    have hs : soundP t = true := by simp only [Bool.and_eq_true] at h; exact h.1
    have := sound_fns (sound_iff hs)
    have := hitsN_len t.moms s t.moms.length
    omega
  · simp
theorem spec_Hits_un (v1 v2 : Value) (t : PTr) (s : PStop) (w : World) (h : RdTr w v1 v2 t) (hsm : smTr t) :
    Calls Try.prog 55 #[.agg #[v1, v2], .agg #[.int .i64 s.kind, .int .i64 s.fn, .int .i64 s.line, .string s.nm]] w (OwRet w 3 1 (hitsP t s).length (intC (hitsP t s))) := spec_Hits_calls v1 v2 t s w h hsm
theorem impl_Hits_un (v1 v2 : Value) (t : PTr) (s : PStop) (w : World) (h : RdTr w v1 v2 t) (hsm : smTr t) :
    Calls Try.prog 31 #[.agg #[v1, v2], .agg #[.int .i64 s.kind, .int .i64 s.fn, .int .i64 s.line, .string s.nm]] w (OwRet w 3 1 (hitsP t s).length (intC (hitsP t s))) := impl_Hits_calls v1 v2 t s w h hsm
set_option maxRecDepth 100000 in
set_option maxHeartbeats 8000000 in
theorem hits_law (v1 v2 : Value) (t : PTr) (s : PStop) (w : World) (hr : RdTr w v1 v2 t) (hz : szTr t) (hzs : szS s.nm) :
    Calls Try.prog 20 #[.agg #[v1, v2], stopV s] w fun e w' => e = .returned (.bool true) ∧ Below w.heap.size w w' := by
  have HT := Lib.hid hr
  have HZ := Lib.hid hz
  obtain ⟨⟨A1, c1, rfl, hn1, -⟩, ⟨vv, ⟨A2, c2, rfl, hn2, -⟩, -⟩⟩ := hr
  have HZS := Lib.hid hzs
  unfold stopV
  clear hz hzs
  go_enter Try.func20, Try.ntmps20
  go_wp2_with fail
  refine (szTrace_calls _ _ t _ _ (HT.out.later (by repeat (with_reducible first | exact Below.refl _ _ | exact HL.out | refine bl_drewN ?_ _ | refine bl_drew ?_ | refine bl_alloc ?_ _ | refine bl_set ?_ (by dsimp only; omega) _))) HZ.out (by omega) (by omega)).mono ?_; rintro e w1 ⟨r, rfl, hr, hb⟩
  have HB := Lib.hid (bl_then (bl_alloc (bl_alloc (Below.refl _ w) _) _) hb)
  have HX := Lib.hid (((BoxAt.new w [.slice A1 t.fns.length c1, .slice A2 t.moms.length c2] 64).later (bl_alloc (Below.refl _ _) (.cells #[.int .i64 s.kind, .int .i64 s.fn, .int .i64 s.line, .string s.nm] 24))).later hb)
  have hY := (BoxAt.new (w.alloc (.cells #[.slice A1 t.fns.length c1, .slice A2 t.moms.length c2] 64)) [.int .i64 s.kind, .int .i64 s.fn, .int .i64 s.line, .string s.nm] 24).later hb
  rw [World.size_alloc] at hY
  have HZB := Lib.hid hY
  clear hb hY
  rcases hr with hr | ⟨hr, hrr, hsm⟩
  · go_wp2
    go_ret
    exact ⟨rfl, HB.out⟩
  · have HS := Lib.hid hsm
    have hln : (hitsP t s).length ≤ 1048576 := hits_len t s
    clear hsm
    have hr3 : 0 ≤ r := hr
    obtain ⟨y0, y1, y2, y3⟩ := HZB.out.open4
    go_wp2_with fail
    clear y0 y1 y2 y3
    refine (szStop_un s _ _ HZS.out hr3 (by omega)).mono ?_; rintro e w2 ⟨r2, rfl, hq, hb⟩
    replace HB := Lib.hid (bl_then HB.out hb); replace HX := Lib.hid (HX.out.later hb); replace HZB := Lib.hid (HZB.out.later hb); clear hb
    rcases hq with hq | ⟨hq, -, -⟩
    · go_wp2
      go_ret
      exact ⟨rfl, HB.out⟩
    obtain ⟨x0, x1⟩ := HX.out.open2
    obtain ⟨y0, y1, y2, y3⟩ := HZB.out.open4
    go_upto_region 8 with fail
    go_region_held3 (fun w' : World => Below w2.heap.size w2 w' ∧ w'.cell? ⟨w.heap.size, 0, none⟩ = some (.slice A1 t.fns.length c1) ∧ w'.cell? ⟨w.heap.size, 1, none⟩ = some (.slice A2 t.moms.length c2) ∧
        w'.cell? ⟨w.heap.size + 1, 0, none⟩ = some (.int .i64 s.kind) ∧ w'.cell? ⟨w.heap.size + 1, 1, none⟩ = some (.int .i64 s.fn) ∧ w'.cell? ⟨w.heap.size + 1, 2, none⟩ = some (.int .i64 s.line) ∧ w'.cell? ⟨w.heap.size + 1, 3, none⟩ = some (.string s.nm))
      (first | exact ⟨bl_drew (Below.refl _ _), x0, x1, y0, y1, y2, y3⟩ | exact held6 ‹_› hb7)
      (first | (go_at_call 46; refine (copyTrace_calls _ _ t _ ((HT.out.later HB.out).later (held6_bl ‹_›)) HS.out).mono ?_; rintro e wa ⟨G1, h1, G2, h2, rfl, hr7, hb7⟩)
             | (go_at_call 27; refine (toStop_un s _).mono ?_; rintro e wb ⟨rfl, hb7⟩)
             | (go_at_call 55; refine (spec_Hits_un _ _ t s _ (by first | exact hr7 | exact hr7.later ‹_›) HS.out).mono ?_; rintro e w3 ⟨u0, rfl, hO, hb7⟩))
    have hb : Below w2.heap.size w2 w3 := held6_bl ‹_›
    clear x0 x1 y0 y1 y2 y3 hr7
    obtain ⟨A0, k0, rfl, -⟩ := hO.cap
    have HV := Lib.hid hO
    have HVB := Lib.hid (fun b hb => (hO.lt b hb).2)
    clear hO
    replace HB := Lib.hid (bl_then HB.out hb); replace HX := Lib.hid (HX.out.later hb); replace HZB := Lib.hid (HZB.out.later hb); clear hb
    clear hb7
    obtain ⟨x0, x1⟩ := HX.out.open2
    have s0 := World.block_lt_of_cell? _ _ x0
    have s0' : w.heap.size + 1 < w3.heap.size := by obtain ⟨y0, -⟩ := HZB.out.open4; exact World.block_lt_of_cell? _ _ y0
    go_wp2_with fail
    clear x0 x1
    refine (toTrace_calls _ _ t _ (HT.out.later HB.out) HS.out).mono ?_; rintro e w4 ⟨C1, C2, rfl, hq1, hq2, hb⟩
    have HR4 := Lib.hid (show RdTr w4 C1 C2 t from ⟨hq1.rd (by have := HS.out.1.1; omega), hq2.rd HS.out.2⟩)
    have SH1 := Lib.hid hq1.sh
    have SH2 := Lib.hid (hq2.sh HS.out.2)
    have hs4 := hb.size
    obtain ⟨g1, e1, f1, rfl, -⟩ := hq1
    obtain ⟨g2, e2, f2, rfl, -⟩ := hq2
    replace HB := Lib.hid (bl_then HB.out hb); replace HX := Lib.hid (HX.out.later hb); replace HV := Lib.hid (HV.out.later hb); replace HZB := Lib.hid (HZB.out.later hb); clear hb
    go_upto_region 10 with fail
    have HY : Hid (BoxAt (w4.alloc _) w4.heap.size _) := Lib.hid (BoxAt.new w4 [.slice (some ⟨g1, 0, none⟩) t.fns.length e1, .slice (some ⟨g2, 0, none⟩) t.moms.length e2] 35)
    generalize hW5 : World.alloc w4 _ = w5 at HY ⊢
    have hbl : Below w4.heap.size w4 w5 := by rw [← hW5]; exact bl_alloc (Below.refl _ _) _
    have hs5 : w5.heap.size = w4.heap.size + 1 := by rw [← hW5]; simp
    clear hW5
    replace HB := Lib.hid (bl_then HB.out hbl); replace HX := Lib.hid (HX.out.later hbl); replace HV := Lib.hid (HV.out.later hbl); replace HR4 := Lib.hid (HR4.out.later hbl); replace SH1 := Lib.hid (SH1.out.later hbl); replace SH2 := Lib.hid (SH2.out.later hbl); replace HZB := Lib.hid (HZB.out.later hbl); clear hbl
    obtain ⟨z0, z1⟩ := HY.out.open2
    obtain ⟨y0, y1, y2, y3⟩ := HZB.out.open4
    go_region_held3 (fun w' : World => Below w5.heap.size w5 w' ∧ w'.cell? ⟨w4.heap.size, 0, none⟩ = some (.slice (some ⟨g1, 0, none⟩) t.fns.length e1) ∧ w'.cell? ⟨w4.heap.size, 1, none⟩ = some (.slice (some ⟨g2, 0, none⟩) t.moms.length e2) ∧
        w'.cell? ⟨w.heap.size + 1, 0, none⟩ = some (.int .i64 s.kind) ∧ w'.cell? ⟨w.heap.size + 1, 1, none⟩ = some (.int .i64 s.fn) ∧ w'.cell? ⟨w.heap.size + 1, 2, none⟩ = some (.int .i64 s.line) ∧ w'.cell? ⟨w.heap.size + 1, 3, none⟩ = some (.string s.nm))
      (first | exact ⟨bl_drew (Below.refl _ _), z0, z1, y0, y1, y2, y3⟩ | exact held6 ‹_› hb7)
      (first | (go_at_call 27; refine (toStop_un s _).mono ?_; rintro e wb ⟨rfl, hb7⟩)
             | (go_at_call 31; have hs8 := (held6_bl ‹_›).size; refine (impl_Hits_un _ _ t s _ (HR4.out.later (held6_bl ‹_›)) HS.out).mono ?_; rintro e w6 ⟨u1, rfl, hO, hb7⟩))
    have hb : Below w5.heap.size w5 w6 := held6_bl ‹_›
    clear y0 y1 y2 y3 z0 z1
    obtain ⟨A9, k9, rfl, -⟩ := hO.cap
    have HG := Lib.hid (hO.lower (lo' := w4.heap.size) (by omega))
    replace HY := Lib.hid (HY.out.later hb)
    clear hO
    replace HB := Lib.hid (bl_then HB.out hb); replace HX := Lib.hid (HX.out.later hb); replace HV := Lib.hid (HV.out.later hb); replace HR4 := Lib.hid (HR4.out.later hb); replace SH1 := Lib.hid (SH1.out.later hb); replace SH2 := Lib.hid (SH2.out.later hb); replace HZB := Lib.hid (HZB.out.later hb); clear hb
    clear hb7
    go_wp2_with fail
    refine (eqInts_calls _ _ (hitsP t s) _ HG.out.rd HV.out.rd).mono ?_; rintro e w7 ⟨rfl, hb⟩
    replace HB := Lib.hid (bl_then HB.out hb); replace HX := Lib.hid (HX.out.later hb); replace HV := Lib.hid (HV.out.later hb); replace HG := Lib.hid (HG.out.later hb); replace HR4 := Lib.hid (HR4.out.later hb); replace SH1 := Lib.hid (SH1.out.later hb); replace SH2 := Lib.hid (SH2.out.later hb); replace HY := Lib.hid (HY.out.later hb); replace HZB := Lib.hid (HZB.out.later hb); clear hb
    obtain ⟨x0, x1⟩ := HX.out.open2
    obtain ⟨y0, y1⟩ := HY.out.open2
    go_wp2_with fail
    go_region_held3 (fun w' : World => Below w7.heap.size w7 w' ∧ w'.cell? ⟨w4.heap.size, 0, none⟩ = some (.slice (some ⟨g1, 0, none⟩) t.fns.length e1) ∧ w'.cell? ⟨w4.heap.size, 1, none⟩ = some (.slice (some ⟨g2, 0, none⟩) t.moms.length e2) ∧
        w'.cell? ⟨w.heap.size, 0, none⟩ = some (.slice A1 t.fns.length c1) ∧ w'.cell? ⟨w.heap.size, 1, none⟩ = some (.slice A2 t.moms.length c2))
      (first | exact ⟨bl_drew (Below.refl _ _), y0, y1, x0, x1⟩ | exact held_tr' ‹_› hb7)
      (first | (go_at_call 46; refine (copyTrace_calls _ _ t _ ((HT.out.later HB.out).later (held_bl' ‹_›)) HS.out).mono ?_; rintro e w7' ⟨G1, h1, G2, h2, rfl, hr7, hb7⟩) | (go_at_call 49; refine (eqTrace_calls _ _ _ _ t _ (HR4.out.later (held_bl' ‹_›)) hr7).mono ?_; rintro e w8 ⟨rfl, hb7⟩))
    have hb : Below w7.heap.size w7 w8 := held_bl' ‹_›
    clear x0 x1 y0 y1 hr7 hb7
    replace HB := Lib.hid (bl_then HB.out hb); replace HX := Lib.hid (HX.out.later hb); replace HV := Lib.hid (HV.out.later hb); replace HG := Lib.hid (HG.out.later hb); replace SH1 := Lib.hid (SH1.out.later hb); replace SH2 := Lib.hid (SH2.out.later hb); replace HY := Lib.hid (HY.out.later hb); replace HZB := Lib.hid (HZB.out.later hb); clear hb
    obtain ⟨y0, y1⟩ := HY.out.open2
    have hs8 := HB.out.size
    have hs83 : w3.heap.size ≤ w8.heap.size := by
      have h1 := World.block_lt_of_cell? _ _ y0
      dsimp only at h1
      omega
    go_wp2_with fail
    clear y0 y1
    refine (markTrace_calls w3.heap.size w4.heap.size _ _ _ _ _ _ SH1.out SH2.out HS.out.1.1 HS.out.2.1 (by omega) (by omega)).mono ?_; rintro e w9 ⟨r9, rfl, hr1, -, hM⟩
    have hb9 := hM.below hs83
    replace HB := Lib.hid (bl_trans' HB.out (bl_low' hb9 (Nat.le_of_lt s0)))
    replace HX := Lib.hid (HX.out.low hb9 s0)
    replace HZB := Lib.hid (HZB.out.low hb9 s0')
    replace HV := Lib.hid (HV.out.low hb9 HVB.out)
    replace HG := Lib.hid (HG.out.hi hM (fun b hb => (HG.out.lt b hb).1))
    clear hM hb9 SH1 SH2 HY HR4
    have hr9 : 0 ≤ r9 := by omega
    go_wp2_with fail
    refine (eqInts_calls _ _ (hitsP t s) _ HG.out.rd HV.out.rd).mono ?_; rintro e w10 ⟨rfl, hb⟩
    replace HB := Lib.hid (bl_then HB.out hb); replace HX := Lib.hid (HX.out.later hb); replace HV := Lib.hid (HV.out.later hb); replace HG := Lib.hid (HG.out.later hb); replace HZB := Lib.hid (HZB.out.later hb); clear hb
    go_wp2_with fail
    refine (markInts_calls _ _ _ _ _ _ HG.out hln (by omega) (by omega)).mono ?_; rintro e w11 ⟨rfl, hO, hGr⟩
    have hsz10 := HB.out.size
    have HGB := Lib.hid (fun b hb => (HG.out.lt b hb).1)
    replace HB := Lib.hid (bl_own HB.out hsz10 (HG.out.lower (lo' := w.heap.size) (by omega)) hGr)
    replace HX := Lib.hid (HX.out.gbo hGr (fun hh => by have := HGB.out _ hh; omega))
    replace HZB := Lib.hid (HZB.out.gbo hGr (fun hh => by have := HGB.out _ hh; omega))
    replace HV := Lib.hid (HV.out.grown hGr (fun b hb hh => by have h1 := HVB.out b hb; have h2 := HGB.out b hh; omega))
    clear HG
    have HG := Lib.hid hO
    clear hO hGr
    obtain ⟨x0, x1⟩ := HX.out.open2
    go_wp2_with fail
    refine (heldInts_calls _ _ _ _ HG.out.rd hln (by omega) (by omega)).mono ?_; rintro e w12 ⟨rfl, rfl⟩
    have hq0 : ¬ (1 + 1 * ((hitsP t s).length : Int)) < 0 := by omega
    obtain ⟨y0, y1, y2, y3⟩ := HZB.out.open4
    go_upto_region 27 with fail
    go_region_held3 (fun w' : World => Below w11.heap.size w11 w' ∧ w'.cell? ⟨w.heap.size, 0, none⟩ = some (.slice A1 t.fns.length c1) ∧ w'.cell? ⟨w.heap.size, 1, none⟩ = some (.slice A2 t.moms.length c2) ∧
        w'.cell? ⟨w.heap.size + 1, 0, none⟩ = some (.int .i64 s.kind) ∧ w'.cell? ⟨w.heap.size + 1, 1, none⟩ = some (.int .i64 s.fn) ∧ w'.cell? ⟨w.heap.size + 1, 2, none⟩ = some (.int .i64 s.line) ∧ w'.cell? ⟨w.heap.size + 1, 3, none⟩ = some (.string s.nm))
      (first | exact ⟨bl_drew (Below.refl _ _), x0, x1, y0, y1, y2, y3⟩ | exact held6 ‹_› hb7)
      (first | (go_at_call 46; refine (copyTrace_calls _ _ t _ ((HT.out.later HB.out).later (held6_bl ‹_›)) HS.out).mono ?_; rintro e wa ⟨G1, h1, G2, h2, rfl, hr7, hb7⟩)
             | (go_at_call 27; refine (toStop_un s _).mono ?_; rintro e wb ⟨rfl, hb7⟩)
             | (go_at_call 31; refine (impl_Hits_un _ _ t s _ (by first | exact hr7 | exact hr7.later ‹_›) HS.out).mono ?_; rintro e w14 ⟨u2, rfl, hO, hb7⟩))
    have hb : Below w11.heap.size w11 w14 := held6_bl ‹_›
    clear x0 x1 y0 y1 y2 y3 hr7
    obtain ⟨A8, k8, rfl, -⟩ := hO.cap
    have HH := Lib.hid hO
    clear hO
    replace HB := Lib.hid (bl_then HB.out hb); replace HV := Lib.hid (HV.out.later hb); replace HG := Lib.hid (HG.out.later hb); clear hb
    clear hb7
    go_wp2_with fail
    refine (eqInts_calls _ _ (hitsP t s) _ HH.out.rd HV.out.rd).mono ?_; rintro e w15 ⟨rfl, hb⟩
    replace HB := Lib.hid (bl_then HB.out hb); replace HG := Lib.hid (HG.out.later hb); clear hb
    go_wp2_with fail
    refine (heldInts_calls _ _ _ _ HG.out.rd hln (by omega) (by omega)).mono ?_; rintro e w16 ⟨rfl, rfl⟩
    go_wp2
    go_ret
    exact ⟨rfl, HB.out⟩

set_option maxRecDepth 100000 in
theorem hits_walk (H : Type) (enc : TypeId × Value → H) (W : World) (base : Nat) (args : Array Value) (ds : List (DataW H)) (ps : List MemPlace)
    (hval : ∀ (j : Nat) t v, Try.f20.params[j]? = some t → args[j]? = some v → Value.okWide Try.prog W .any base t v)
    (h : DataW.TrodAll enc Try.prog W 0 (fun _ => true) true Try.f20.params.toList args.toList ds ps) :
    Calls Try.prog 20 args W fun e W' => e = .returned (.bool true) ∧ Below W.heap.size W W' := by
  rw [Try.params20] at h hval
  obtain ⟨v0, u0, d0, d1, p0, p1, ha, _, _, h0, h1⟩ := trodAll_two h
  have ha' : args = #[v0, u0] := by simpa using ha
  subst ha'
  obtain ⟨v1, v2, t, rfl, hr, hz⟩ := rd_trace (hval 0 _ _ rfl rfl) h0
  obtain ⟨s, rfl, hzs⟩ := rd_stop (hval 1 _ _ rfl rfl) h1
  exact hits_law v1 v2 t s W hr hz hzs
end Go.Proofs.Ytcklnjjbhngbcaa
