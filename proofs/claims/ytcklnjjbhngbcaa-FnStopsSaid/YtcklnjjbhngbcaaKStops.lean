/- FnStops's walk. (Written by KStops.py.) -/
import Derived.Test.YtcklnjjbhngbcaaG4
import Derived.Test.YtcklnjjbhngbcaaG5
import Derived.Test.YtcklnjjbhngbcaaL11
import Derived.Test.YtcklnjjbhngbcaaL12
import Derived.Test.YtcklnjjbhngbcaaL9
import Derived.Test.YtcklnjjbhngbcaaI9M
import Derived.Test.YtcklnjjbhngbcaaT15M
import Derived.Deep.RegionHeld3
namespace Go.Proofs.Ytcklnjjbhngbcaa
open Go.RowKit Go.Proofs.Lens Go.ChangeShapes Go.WideShapes

theorem accF_succ2 (p : Nat → Bool) (n i : Nat) : accF p n (i + 1) = if p i = true ∧ accF p n i = n then i else accF p n i := rfl
theorem accF_le2 (p : Nat → Bool) (n : Nat) : ∀ i, i ≤ n → accF p n i ≤ n
  | 0, _ => Nat.le_refl _
  | i + 1, h => by
    have := accF_le2 p n i (by omega)
    rw [accF_succ2]
    split <;> omega
theorem lastB_succ2 (p : Nat → Bool) (i : Nat) : lastB p (i + 1) = if p i = true then (i : Int) else lastB p i := rfl
theorem wb_lt2 {w : World} {v : Value} {code : List Nat} (h : RdBytes w v code) (i : Nat) : wb code i < 256 := by
  unfold wb
  split
  · omega
  · exact h.2 _
theorem stops_hits {t : PTr} (hs : Sound t) {s : PStop} (ho : stopOk s = true) : hitsP t s = hitsN t.moms s t.moms.length := by
  unfold hitsP
  rw [if_pos (by rw [hs.is, ho]; rfl)]
theorem stops_at {t : PTr} (hs : Sound t) {s : PStop} (ho : stopOk s = true) {i : Nat} (h : i < t.moms.length) : stopsAtP t s i = holdsP t.moms s i := by
  unfold stopsAtP
  have h1 : inB (i : Int) 0 ((t.moms.length : Int) - 1) = true := by simp [inB]; omega
  rw [hs.is, ho, h1]
  simp
theorem rd_one (w : World) (s : PStop) : RdStops (w.alloc (.cells #[.int .i64 s.kind, .int .i64 s.fn, .int .i64 s.line, .string s.nm] 27)) (.slice (some ⟨w.heap.size, 0, none⟩) 1 1) [s] :=
  ⟨some ⟨w.heap.size, 0, none⟩, 1, rfl, (by show (1 : Nat) ≤ 9223372036854775807; omega), fun _ => ⟨w.heap.size, 0, rfl, fun i hi j hj => by
    obtain rfl : i = 0 := by simp at hi; omega
    have h := BoxAt.new w [.int .i64 s.kind, .int .i64 s.fn, .int .i64 s.line, .string s.nm] 27
    match j, hj with
    | 0, _ => exact h 0 _ rfl
    | 1, _ => exact h 1 _ rfl
    | 2, _ => exact h 2 _ rfl
    | 3, _ => exact h 3 _ rfl⟩⟩

set_option maxRecDepth 100000 in
set_option maxHeartbeats 60000000 in
theorem stops_law (u1 u2 : Value) (code more : List Nat) (w : World) (hr : RdBytes w u1 code) (hr2 : RdBytes w u2 more) :
    Calls Try.prog 15 #[u1, u2] w fun e w' => e = .returned (.bool true) ∧ Below w.heap.size w w' := by
  have HR := Lib.hid hr
  have HR2 := Lib.hid hr2
  obtain ⟨A0, c0, rfl, hn0, -⟩ := hr.open'
  obtain ⟨A9, c9, rfl, hn9, -⟩ := hr2.open'
  have hx0 := wb_lt2 hr2 3
  clear hr hr2
  by_cases hbig : 1048576 < code.length
  · have hd : decide ((code.length : Int) > 1048576) = true := by simp; omega
    go_enter Try.func15, Try.ntmps15
    go_wp2
    go_ret
    exact ⟨rfl, Below.refl _ _⟩
  have hd : decide ((code.length : Int) > 1048576) = false := by simp; omega
  by_cases hbig2 : 1048576 < more.length
  · have hd2 : decide ((more.length : Int) > 1048576) = true := by simp; omega
    go_enter Try.func15, Try.ntmps15
    go_wp2
    go_ret
    exact ⟨rfl, Below.refl _ _⟩
  have hd2 : decide ((more.length : Int) > 1048576) = false := by simp; omega
  have hcode : code.length ≤ 1048576 := by omega
  have hso := drawnT_sound hcode
  have hn := drawnT_len hcode
  have hsm := sm_sound hso
  have hrd : ∀ (W : World) (gs lo : Nat) (v2 : Value), Blk W gs 9 4 strsF → BMoms W lo v2 (drawnT code).moms → RdTr W (.slice (some ⟨gs, 0, none⟩) 4 4) v2 (drawnT code) := fun W gs lo v2 a b => drawn_rd a b
  have HDC := Lib.hid (drawn_calls _ code w HR.out hcode)
  obtain ⟨t, ht⟩ : ∃ t, drawnT code = t := ⟨_, rfl⟩
  rw [ht] at hso hn hsm hrd HDC
  have HRD := Lib.hid hrd
  have HSM := Lib.hid hsm
  obtain ⟨n, hnn⟩ : ∃ n, t.moms.length = n := ⟨_, rfl⟩
  rw [hnn] at hn
  have HNN := Lib.hid hnn
  obtain ⟨k, hk⟩ : ∃ k : Int, ((wb more 3 : Nat) : Int) % ((n : Int) + 2) - 1 = k := ⟨_, rfl⟩
  have hk0 : -1 ≤ k := by
    have := Int.emod_nonneg ((wb more 3 : Nat) : Int) (b := (n : Int) + 2) (by omega)
    omega
  have hk1 : k ≤ n := by
    have := Int.emod_lt_of_pos ((wb more 3 : Nat) : Int) (b := (n : Int) + 2) (by omega)
    omega
  have hk1' : k ≤ t.moms.length := by omega
  have hsk := stopP_ok more cu0
  have HAC := Lib.hid (fun (W : World) (h : RdBytes W (.slice A9 more.length c9) more) => any_calls _ more W h)
  obtain ⟨s, hs⟩ : ∃ s, (stopP more cu0).1 = s := ⟨_, rfl⟩
  rw [hs] at hsk HAC
  have hna := next_acc hso hsk hk0 hk1'
  have hla := last_acc hso hsk hk0 hk1'
  have hht := stops_hits hso hsk
  have hat := fun i (h : i < n) => stops_at hso hsk (i := i) (by omega)
  have hhl := hitsN_len t.moms s t.moms.length
  rw [hnn] at hna hla hht hhl
  obtain ⟨H, hH⟩ : ∃ H, (hitsN t.moms s n).length = H := ⟨_, rfl⟩
  rw [hH] at hhl
  have HSO := Lib.hid hso
  have HSK := Lib.hid hsk
  have HNA := Lib.hid hna
  have HLA := Lib.hid hla
  have HHT := Lib.hid hht
  have HAT := Lib.hid hat
  have HH := Lib.hid hH
  have HK := Lib.hid hk
  clear hso hsm hrd ht hnn hk hk1' hs hsk hna hla hht hat hH hbig hbig2
  go_enter Try.func15, Try.ntmps15
  go_wp2_with fail
  refine HDC.out.mono ?_; rintro e w1 ⟨gs, v2, rfl, hgs, hS, hM, hb⟩
  obtain ⟨A2, c2, rfl, -⟩ := hM.cap
  rw [HNN.out] at hM ⊢
  have HRT := Lib.hid (HRD.out _ _ _ _ hS hM)
  have HB := Lib.hid hb
  clear hS hM hb HDC HRD
  go_wp2_with fail
  have HX := Lib.hid (BoxAt.new w1 [.slice (some ⟨gs, 0, none⟩) 4 4, .slice A2 n c2] 35)
  have HQ := Lib.hid (bl_alloc (Below.refl _ w1) (.cells #[.slice (some ⟨gs, 0, none⟩) 4 4, .slice A2 n c2] 35))
  generalize World.alloc w1 _ = W at HX HQ ⊢
  have hlr : Below w1.heap.size w1 W := HQ.out
  clear HQ
  have HR3 := Lib.hid ((HR2.out.later HB.out).later hlr)
  replace HB := Lib.hid (bl_then HB.out hlr); replace HRT := Lib.hid (HRT.out.later hlr); clear hlr
  refine (HAC.out _ HR3.out).mono ?_; rintro e w2 ⟨rfl, hb⟩
  clear HAC
  unfold stopV
  replace HB := Lib.hid (bl_then HB.out hb); replace HX := Lib.hid (HX.out.later hb); replace HRT := Lib.hid (HRT.out.later hb); replace HR3 := Lib.hid (HR3.out.later hb); clear hb
  obtain ⟨x0, x1⟩ := HX.out.open2
  go_upto_region 5 with fail
  have HY := Lib.hid (BoxAt.new w2 [.int .i64 s.kind, .int .i64 s.fn, .int .i64 s.line, .string s.nm] 27)
  have HQ := Lib.hid (bl_alloc (Below.refl _ w2) (.cells #[.int .i64 s.kind, .int .i64 s.fn, .int .i64 s.line, .string s.nm] 27))
  generalize World.alloc w2 _ = W2 at HY HQ ⊢
  have hlr : Below w2.heap.size w2 W2 := HQ.out
  clear HQ x0 x1
  replace HB := Lib.hid (bl_then HB.out hlr); replace HRT := Lib.hid (HRT.out.later hlr); replace HX := Lib.hid (HX.out.later hlr); replace HR3 := Lib.hid (HR3.out.later hlr); clear hlr
  obtain ⟨x0, x1⟩ := HX.out.open2
  obtain ⟨y0, y1, y2, y3⟩ := HY.out.open4
  go_wp2_with fail
  clear x0 x1 y0 y1 y2 y3
  refine (impl_Hits_calls _ _ t s _ HRT.out HSM.out).mono ?_; rintro e w3 ⟨u3, rfl, hO, hb⟩
  rw [HHT.out, HH.out] at hO
  obtain ⟨A3, c3, rfl, -⟩ := hO.cap
  have HO := Lib.hid hO
  clear hO
  replace HB := Lib.hid (bl_then HB.out hb); replace HRT := Lib.hid (HRT.out.later hb); replace HX := Lib.hid (HX.out.later hb); replace HR3 := Lib.hid (HR3.out.later hb); replace HY := Lib.hid (HY.out.later hb); clear hb
  obtain ⟨x0, x1⟩ := HX.out.open2
  obtain ⟨y0, y1, y2, y3⟩ := HY.out.open4
  go_wp2_with fail
  clear x0 x1 y0 y1 y2 y3
  refine (spec_Hits_calls _ _ t s _ HRT.out HSM.out).mono ?_; rintro e w4 ⟨u4, rfl, hO, hb⟩
  rw [HHT.out, HH.out] at hO
  obtain ⟨A4, c4, rfl, -⟩ := hO.cap
  have HV := Lib.hid hO
  clear hO
  replace HB := Lib.hid (bl_then HB.out hb); replace HRT := Lib.hid (HRT.out.later hb); replace HX := Lib.hid (HX.out.later hb); replace HR3 := Lib.hid (HR3.out.later hb); replace HY := Lib.hid (HY.out.later hb); replace HO := Lib.hid (HO.out.later hb); clear hb
  obtain ⟨y0, y1, y2, y3⟩ := HY.out.open4
  have hmm : (((H : Nat) : Int) != (H : Int)) = false := by simp
  go_upto_region 7 with fail
  go_region_held3 (fun w' : World => Below w4.heap.size w4 w' ∧ w'.cell? ⟨w2.heap.size, 0, none⟩ = some (.int .i64 s.kind) ∧ w'.cell? ⟨w2.heap.size, 1, none⟩ = some (.int .i64 s.fn) ∧ w'.cell? ⟨w2.heap.size, 2, none⟩ = some (.int .i64 s.line) ∧ w'.cell? ⟨w2.heap.size, 3, none⟩ = some (.string s.nm))
      (first | exact ⟨bl_drew (Below.refl _ _), y0, y1, y2, y3⟩ | exact held4 ‹_› hb7)
      (first | (go_at_call 28; refine (impl_StopOk_un s _ HSK.out).mono ?_; rintro e w5 ⟨rfl, hb7⟩) | (go_at_call 26; refine (spec_StopOk_un s _ HSK.out).mono ?_; rintro e w6 ⟨rfl, hb7⟩))
  have hb : Below w4.heap.size w4 w6 := held4_bl ‹_›
  clear y0 y1 y2 y3 hb7
  replace HB := Lib.hid (bl_then HB.out hb); replace HRT := Lib.hid (HRT.out.later hb); replace HX := Lib.hid (HX.out.later hb); replace HR3 := Lib.hid (HR3.out.later hb); replace HY := Lib.hid (HY.out.later hb); replace HO := Lib.hid (HO.out.later hb); replace HV := Lib.hid (HV.out.later hb); clear hb
  obtain ⟨x0, x1⟩ := HX.out.open2
  have hkk := HK.out
  obtain ⟨r, hr⟩ : ∃ r, ((wb more 3 : Nat) : Int) % ((n : Int) + 2) = r := ⟨_, rfl⟩
  rw [hr] at hkk
  have HWB : Hid (∀ m, Calls Try.prog 29 #[.slice A9 more.length c9, .int .i64 3] (w6.drewN m) fun e w' => e = .returned (.int .i64 ((wb more 3 : Nat) : Int)) ∧ w' = w6.drewN m) := Lib.hid fun m => (wByte_calls _ more 3 _ (HR3.out.later (bl_drewN (Below.refl _ _) m)) (by omega)).mono fun _ _ h => ⟨h.1, h.2.symm⟩
  have hd3 : decide ((n : Int) + 2 = 0) = false := by simp; omega
  generalize wb more 3 = x at hx0 hr HWB ⊢
  go_wp2_with fail
  go_quiet ((go_at_call 29; exact Calls.quiet_of_same (HWB.out _)))
  generalize hwq : w6.drewN _ = wq
  have hb : Below w6.heap.size w6 wq := by rw [← hwq]; exact bl_drewN (Below.refl _ _) _
  clear hwq HWB x0 x1 hr hkk
  replace HB := Lib.hid (bl_then HB.out hb); replace HRT := Lib.hid (HRT.out.later hb); replace HX := Lib.hid (HX.out.later hb); replace HY := Lib.hid (HY.out.later hb); replace HO := Lib.hid (HO.out.later hb); replace HV := Lib.hid (HV.out.later hb); clear hb
  obtain ⟨x0, x1⟩ := HX.out.open2
  go_wp2_with fail
  clear x0 x1
  go_loopw [59, 10, 11, 12] (fun i s10 s11 s12 wr => ∃ q : Nat, q ≤ n ∧ i = .int .i64 q ∧ s10 = .int .i64 (accF (spNext t s k) n q : Nat) ∧ s11 = .int .i64 (lastB (spLast t s k) q) ∧ s12 = .int .i64 ((hitsN t.moms s q).length : Nat) ∧ Below wq.heap.size wq wr) (fun i _ _ _ _ => n - (intOf i).toNat)
  case atStart => exact ⟨0, Nat.zero_le _, rfl, rfl, rfl, rfl, Below.refl _ _⟩
  case round =>
    obtain ⟨q, hq, rfl, rfl, rfl, rfl, hbr⟩ := hrel
    obtain ⟨p0, e0⟩ : ∃ p, accF (spNext t s k) n q = p := ⟨_, rfl⟩
    obtain ⟨p1, e1⟩ : ∃ p, lastB (spLast t s k) q = p := ⟨_, rfl⟩
    obtain ⟨p2, e2⟩ : ∃ p, (hitsN t.moms s q).length = p := ⟨_, rfl⟩
    have l0 := accF_le2 (spNext t s k) n q hq
    have l2 := hitsN_len t.moms s q
    have hhs := hitsN_step t.moms s q
    have hha := fun h => hit_at t.moms s (i := q) (n := n) h
    rw [e0, e1, e2]
    rw [e0] at l0
    rw [e2] at l2 hhs hha
    rw [HH.out] at hha
    have HXr := Lib.hid (HX.out.later hbr)
    have HYr := Lib.hid (HY.out.later hbr)
    have HRr := Lib.hid (HRT.out.later hbr)
    have HBr := Lib.hid (bl_then HB.out hbr)
    have HOr := Lib.hid (HO.out.later hbr)
    have HVr := Lib.hid (HV.out.later hbr)
    have HLr := Lib.hid hbr
    clear hbr
    obtain ⟨x0, x1⟩ := HXr.out.open2
    by_cases hqn : q < n
    · have HN2 := Lib.hid hhs
      have hsN : spNext t s k q = (decide (k < (q : Int)) && holdsP t.moms s q) := rfl
      have hsL : spLast t s k q = (decide ((q : Int) < k) && holdsP t.moms s q) := rfl
      replace hha := hha hqn
      have hatq := HAT.out q hqn
      obtain ⟨y0, y1, y2, y3⟩ := HYr.out.open4
      cases hh9 : holdsP t.moms s q with
      | true =>
        rw [hh9] at hatq hha hsN hsL
        obtain ⟨hp2, hel⟩ := hha.2 rfl
        obtain ⟨A7, c7, e7, hop⟩ := HVr.out.open'
        obtain ⟨b7, e8, hb7, hb8, hcw, -⟩ := hop (by omega)
        cases e7
        cases e8
        have z0 : wr.cell? ⟨b7, p2, none⟩ = some (.int .i64 q) := by have := hcw p2 hp2 0 (by omega); simp only [intC, hel, Nat.mul_one, Nat.add_zero] at this; exact this
        obtain ⟨A6, c6, e7, hop⟩ := HOr.out.open'
        obtain ⟨b6, e8, hb6, hb9, hcw6, -⟩ := hop (by omega)
        cases e7
        cases e8
        have z1 : wr.cell? ⟨b6, p2, none⟩ = some (.int .i64 q) := by have := hcw6 p2 hp2 0 (by omega); simp only [intC, hel, Nat.mul_one, Nat.add_zero] at this; exact this
        have hp3 : (p2 : Int) < (H : Int) := by omega
        clear hop hcw hcw6 hel hha HVr HOr
        by_cases hk1' : k < (q : Int)
        · have hb1 : decide ((q : Int) > k) = true := by simp [hk1']
          have hb2 : decide ((q : Int) < k) = false := by simp; omega
          by_cases h10 : p0 = n
          · obtain rfl : n = p0 := h10.symm
            by_cases h30 : q < 30
            · have hb30 : decide ((q : Int) < 30) = true := by simp; omega
              have HN0 : Hid (accF (spNext t s k) n (q + 1) = q) := Lib.hid (by rw [accF_succ2, e0, hsN]; grind)
              have HN1 : Hid (lastB (spLast t s k) (q + 1) = p1) := Lib.hid (by rw [lastB_succ2, e1, hsL]; grind)
              replace HN2 : Hid ((hitsN t.moms s (q + 1)).length = p2 + 1) := Lib.hid (by rw [HN2.out]; grind)
              clear hsN hsL e0 e1 e2 hh9
              as_aux_lemma =>
                go_wp2_with fail
                refine (impl_StopsAt_calls _ _ t s q _ HRr.out HSM.out).mono ?_; rintro e w7 ⟨rfl, hb⟩
                rw [hatq]
                clear x0 x1 y0 y1 y2 y3
                replace HLr := Lib.hid (bl_then HLr.out hb); clear hb
                go_wp2
                go_roundw
                case rel => exact ⟨q + 1, by omega, by go_num, by rw [HN0.out], by rw [HN1.out], by rw [HN2.out]; try go_num, HLr.out⟩
                case measure => simp [intOf]; omega
            · have hb30 : decide ((q : Int) < 30) = false := by simp; omega
              have HN0 : Hid (accF (spNext t s k) n (q + 1) = q) := Lib.hid (by rw [accF_succ2, e0, hsN]; grind)
              have HN1 : Hid (lastB (spLast t s k) (q + 1) = p1) := Lib.hid (by rw [lastB_succ2, e1, hsL]; grind)
              replace HN2 : Hid ((hitsN t.moms s (q + 1)).length = p2 + 1) := Lib.hid (by rw [HN2.out]; grind)
              clear hsN hsL e0 e1 e2 hh9
              as_aux_lemma =>
                go_wp2
                go_roundw
                case rel => exact ⟨q + 1, by omega, by go_num, by rw [HN0.out], by rw [HN1.out], by rw [HN2.out]; try go_num, HLr.out⟩
                case measure => simp [intOf]; omega
          · have hb3 : ((p0 : Int) == (n : Int)) = false := by simp; omega
            by_cases h30 : q < 30
            · have hb30 : decide ((q : Int) < 30) = true := by simp; omega
              have HN0 : Hid (accF (spNext t s k) n (q + 1) = p0) := Lib.hid (by rw [accF_succ2, e0, hsN]; grind)
              have HN1 : Hid (lastB (spLast t s k) (q + 1) = p1) := Lib.hid (by rw [lastB_succ2, e1, hsL]; grind)
              replace HN2 : Hid ((hitsN t.moms s (q + 1)).length = p2 + 1) := Lib.hid (by rw [HN2.out]; grind)
              clear hsN hsL e0 e1 e2 hh9
              as_aux_lemma =>
                go_wp2_with fail
                refine (impl_StopsAt_calls _ _ t s q _ HRr.out HSM.out).mono ?_; rintro e w7 ⟨rfl, hb⟩
                rw [hatq]
                clear x0 x1 y0 y1 y2 y3
                replace HLr := Lib.hid (bl_then HLr.out hb); clear hb
                go_wp2
                go_roundw
                case rel => exact ⟨q + 1, by omega, by go_num, by rw [HN0.out], by rw [HN1.out], by rw [HN2.out]; try go_num, HLr.out⟩
                case measure => simp [intOf]; omega
            · have hb30 : decide ((q : Int) < 30) = false := by simp; omega
              have HN0 : Hid (accF (spNext t s k) n (q + 1) = p0) := Lib.hid (by rw [accF_succ2, e0, hsN]; grind)
              have HN1 : Hid (lastB (spLast t s k) (q + 1) = p1) := Lib.hid (by rw [lastB_succ2, e1, hsL]; grind)
              replace HN2 : Hid ((hitsN t.moms s (q + 1)).length = p2 + 1) := Lib.hid (by rw [HN2.out]; grind)
              clear hsN hsL e0 e1 e2 hh9
              as_aux_lemma =>
                go_wp2
                go_roundw
                case rel => exact ⟨q + 1, by omega, by go_num, by rw [HN0.out], by rw [HN1.out], by rw [HN2.out]; try go_num, HLr.out⟩
                case measure => simp [intOf]; omega
        · have hb1 : decide ((q : Int) > k) = false := by simp; omega
          by_cases hk2 : (q : Int) < k
          · have hb2 : decide ((q : Int) < k) = true := by simp [hk2]
            by_cases h30 : q < 30
            · have hb30 : decide ((q : Int) < 30) = true := by simp; omega
              have HN0 : Hid (accF (spNext t s k) n (q + 1) = p0) := Lib.hid (by rw [accF_succ2, e0, hsN]; grind)
              have HN1 : Hid (lastB (spLast t s k) (q + 1) = (q : Int)) := Lib.hid (by rw [lastB_succ2, e1, hsL]; grind)
              replace HN2 : Hid ((hitsN t.moms s (q + 1)).length = p2 + 1) := Lib.hid (by rw [HN2.out]; grind)
              clear hsN hsL e0 e1 e2 hh9
              as_aux_lemma =>
                go_wp2_with fail
                refine (impl_StopsAt_calls _ _ t s q _ HRr.out HSM.out).mono ?_; rintro e w7 ⟨rfl, hb⟩
                rw [hatq]
                clear x0 x1 y0 y1 y2 y3
                replace HLr := Lib.hid (bl_then HLr.out hb); clear hb
                go_wp2
                go_roundw
                case rel => exact ⟨q + 1, by omega, by go_num, by rw [HN0.out], by rw [HN1.out], by rw [HN2.out]; try go_num, HLr.out⟩
                case measure => simp [intOf]; omega
            · have hb30 : decide ((q : Int) < 30) = false := by simp; omega
              have HN0 : Hid (accF (spNext t s k) n (q + 1) = p0) := Lib.hid (by rw [accF_succ2, e0, hsN]; grind)
              have HN1 : Hid (lastB (spLast t s k) (q + 1) = (q : Int)) := Lib.hid (by rw [lastB_succ2, e1, hsL]; grind)
              replace HN2 : Hid ((hitsN t.moms s (q + 1)).length = p2 + 1) := Lib.hid (by rw [HN2.out]; grind)
              clear hsN hsL e0 e1 e2 hh9
              as_aux_lemma =>
                go_wp2
                go_roundw
                case rel => exact ⟨q + 1, by omega, by go_num, by rw [HN0.out], by rw [HN1.out], by rw [HN2.out]; try go_num, HLr.out⟩
                case measure => simp [intOf]; omega
          · have hb2 : decide ((q : Int) < k) = false := by simp; omega
            by_cases h30 : q < 30
            · have hb30 : decide ((q : Int) < 30) = true := by simp; omega
              have HN0 : Hid (accF (spNext t s k) n (q + 1) = p0) := Lib.hid (by rw [accF_succ2, e0, hsN]; grind)
              have HN1 : Hid (lastB (spLast t s k) (q + 1) = p1) := Lib.hid (by rw [lastB_succ2, e1, hsL]; grind)
              replace HN2 : Hid ((hitsN t.moms s (q + 1)).length = p2 + 1) := Lib.hid (by rw [HN2.out]; grind)
              clear hsN hsL e0 e1 e2 hh9
              as_aux_lemma =>
                go_wp2_with fail
                refine (impl_StopsAt_calls _ _ t s q _ HRr.out HSM.out).mono ?_; rintro e w7 ⟨rfl, hb⟩
                rw [hatq]
                clear x0 x1 y0 y1 y2 y3
                replace HLr := Lib.hid (bl_then HLr.out hb); clear hb
                go_wp2
                go_roundw
                case rel => exact ⟨q + 1, by omega, by go_num, by rw [HN0.out], by rw [HN1.out], by rw [HN2.out]; try go_num, HLr.out⟩
                case measure => simp [intOf]; omega
            · have hb30 : decide ((q : Int) < 30) = false := by simp; omega
              have HN0 : Hid (accF (spNext t s k) n (q + 1) = p0) := Lib.hid (by rw [accF_succ2, e0, hsN]; grind)
              have HN1 : Hid (lastB (spLast t s k) (q + 1) = p1) := Lib.hid (by rw [lastB_succ2, e1, hsL]; grind)
              replace HN2 : Hid ((hitsN t.moms s (q + 1)).length = p2 + 1) := Lib.hid (by rw [HN2.out]; grind)
              clear hsN hsL e0 e1 e2 hh9
              as_aux_lemma =>
                go_wp2
                go_roundw
                case rel => exact ⟨q + 1, by omega, by go_num, by rw [HN0.out], by rw [HN1.out], by rw [HN2.out]; try go_num, HLr.out⟩
                case measure => simp [intOf]; omega
      | false =>
        rw [hh9] at hatq hha hsN hsL
        by_cases hp2 : p2 < H
        · have hel : ((elt (hitsN t.moms s n) p2) == (q : Int)) = false := by
            have := fun h => hha.1 ⟨hp2, h⟩
            simp at this ⊢
            exact this
          obtain ⟨A7, c7, e7, hop⟩ := HVr.out.open'
          obtain ⟨b7, e8, hb7, hb8, hcw, -⟩ := hop (by omega)
          cases e7
          cases e8
          obtain ⟨el, hEL⟩ : ∃ e, elt (hitsN t.moms s n) p2 = e := ⟨_, rfl⟩
          have z0 : wr.cell? ⟨b7, p2, none⟩ = some (.int .i64 el) := by have := hcw p2 hp2 0 (by omega); simp only [intC, hEL, Nat.mul_one, Nat.add_zero] at this; exact this
          rw [hEL] at hel
          have hp3 : (p2 : Int) < (H : Int) := by omega
          clear hop hcw hha HVr HOr hEL
          by_cases h30 : q < 30
          · have hb30 : decide ((q : Int) < 30) = true := by simp; omega
            have HN0 : Hid (accF (spNext t s k) n (q + 1) = p0) := Lib.hid (by rw [accF_succ2, e0, hsN]; grind)
            have HN1 : Hid (lastB (spLast t s k) (q + 1) = p1) := Lib.hid (by rw [lastB_succ2, e1, hsL]; grind)
            replace HN2 : Hid ((hitsN t.moms s (q + 1)).length = p2) := Lib.hid (by rw [HN2.out]; grind)
            clear hsN hsL e0 e1 e2 hh9
            as_aux_lemma =>
              go_wp2_with fail
              refine (impl_StopsAt_calls _ _ t s q _ HRr.out HSM.out).mono ?_; rintro e w7 ⟨rfl, hb⟩
              rw [hatq]
              clear x0 x1 y0 y1 y2 y3
              replace HLr := Lib.hid (bl_then HLr.out hb); clear hb
              go_wp2
              go_roundw
              case rel => exact ⟨q + 1, by omega, by go_num, by rw [HN0.out], by rw [HN1.out], by rw [HN2.out]; try go_num, HLr.out⟩
              case measure => simp [intOf]; omega
          · have hb30 : decide ((q : Int) < 30) = false := by simp; omega
            have HN0 : Hid (accF (spNext t s k) n (q + 1) = p0) := Lib.hid (by rw [accF_succ2, e0, hsN]; grind)
            have HN1 : Hid (lastB (spLast t s k) (q + 1) = p1) := Lib.hid (by rw [lastB_succ2, e1, hsL]; grind)
            replace HN2 : Hid ((hitsN t.moms s (q + 1)).length = p2) := Lib.hid (by rw [HN2.out]; grind)
            clear hsN hsL e0 e1 e2 hh9
            as_aux_lemma =>
              go_wp2
              go_roundw
              case rel => exact ⟨q + 1, by omega, by go_num, by rw [HN0.out], by rw [HN1.out], by rw [HN2.out]; try go_num, HLr.out⟩
              case measure => simp [intOf]; omega
        · have hd2 : decide ((p2 : Int) < (H : Int)) = false := by simp; omega
          clear hha HVr HOr
          by_cases h30 : q < 30
          · have hb30 : decide ((q : Int) < 30) = true := by simp; omega
            have HN0 : Hid (accF (spNext t s k) n (q + 1) = p0) := Lib.hid (by rw [accF_succ2, e0, hsN]; grind)
            have HN1 : Hid (lastB (spLast t s k) (q + 1) = p1) := Lib.hid (by rw [lastB_succ2, e1, hsL]; grind)
            replace HN2 : Hid ((hitsN t.moms s (q + 1)).length = p2) := Lib.hid (by rw [HN2.out]; grind)
            clear hsN hsL e0 e1 e2 hh9
            as_aux_lemma =>
              go_wp2_with fail
              refine (impl_StopsAt_calls _ _ t s q _ HRr.out HSM.out).mono ?_; rintro e w7 ⟨rfl, hb⟩
              rw [hatq]
              clear x0 x1 y0 y1 y2 y3
              replace HLr := Lib.hid (bl_then HLr.out hb); clear hb
              go_wp2
              go_roundw
              case rel => exact ⟨q + 1, by omega, by go_num, by rw [HN0.out], by rw [HN1.out], by rw [HN2.out]; try go_num, HLr.out⟩
              case measure => simp [intOf]; omega
          · have hb30 : decide ((q : Int) < 30) = false := by simp; omega
            have HN0 : Hid (accF (spNext t s k) n (q + 1) = p0) := Lib.hid (by rw [accF_succ2, e0, hsN]; grind)
            have HN1 : Hid (lastB (spLast t s k) (q + 1) = p1) := Lib.hid (by rw [lastB_succ2, e1, hsL]; grind)
            replace HN2 : Hid ((hitsN t.moms s (q + 1)).length = p2) := Lib.hid (by rw [HN2.out]; grind)
            clear hsN hsL e0 e1 e2 hh9
            as_aux_lemma =>
              go_wp2
              go_roundw
              case rel => exact ⟨q + 1, by omega, by go_num, by rw [HN0.out], by rw [HN1.out], by rw [HN2.out]; try go_num, HLr.out⟩
              case measure => simp [intOf]; omega
    · obtain rfl : q = n := by omega
      have hi1 : nextP t [s] k = p0 := by rw [HNA.out, e0]
      have ho1 : lastP t [s] k = p1 := by rw [HLA.out, e1]
      have HI1 := Lib.hid hi1
      have HO1 := Lib.hid ho1
      clear HNA HLA HAT HHT hha hhs hi1 ho1 e0 e1 e2
      obtain ⟨y0, y1, y2, y3⟩ := HYr.out.open4
      go_wp2_with fail
      clear x0 x1 y0 y1 y2 y3
      refine (impl_Next_calls _ _ _ t [s] k _ (HRr.out.later (bl_alloc (Below.refl _ _) _)) HSM.out (rd_one wr s)).mono ?_; rintro e w8 ⟨rfl, hb⟩
      rw [HI1.out]
      replace hb := bl_then (bl_alloc (Below.refl _ wr) _) hb
      replace HBr := Lib.hid (bl_then HBr.out hb); replace HRr := Lib.hid (HRr.out.later hb); replace HXr := Lib.hid (HXr.out.later hb); replace HYr := Lib.hid (HYr.out.later hb); clear hb
      obtain ⟨x0, x1⟩ := HXr.out.open2
      obtain ⟨y0, y1, y2, y3⟩ := HYr.out.open4
      go_wp2_with fail
      clear x0 x1 y0 y1 y2 y3
      refine (impl_Last_calls _ _ _ t [s] k _ (HRr.out.later (bl_alloc (Below.refl _ _) _)) HSM.out (rd_one w8 s)).mono ?_; rintro e w9 ⟨rfl, hb⟩
      rw [HO1.out]
      replace hb := bl_then (bl_alloc (Below.refl _ w8) _) hb
      replace HBr := Lib.hid (bl_then HBr.out hb); clear hb
      go_wp2
      go_ret
      exact ⟨rfl, HBr.out⟩

set_option maxRecDepth 100000 in
theorem stops_walk (H : Type) (enc : TypeId × Value → H) (W : World) (base : Nat) (args : Array Value) (ds : List (DataW H)) (ps : List MemPlace)
    (hval : ∀ (j : Nat) t v, Try.f15.params[j]? = some t → args[j]? = some v → Value.okWide Try.prog W .any base t v)
    (h : DataW.TrodAll enc Try.prog W 0 (fun _ => true) true Try.f15.params.toList args.toList ds ps) :
    Calls Try.prog 15 args W fun e W' => e = .returned (.bool true) ∧ Below W.heap.size W W' := by
  rw [Try.params15] at h hval
  obtain ⟨v0, u0, d0, d1, p0, p1, ha, _, _, h0, h1⟩ := trodAll_two h
  have ha' : args = #[v0, u0] := by simpa using ha
  subst ha'
  obtain ⟨code, hr⟩ := rd_bytes (hval 0 _ _ rfl rfl) h0
  obtain ⟨more, hr2⟩ := rd_bytes (hval 1 _ _ rfl rfl) h1
  exact stops_law v0 u0 code more W hr hr2
end Go.Proofs.Ytcklnjjbhngbcaa
