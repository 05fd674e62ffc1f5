/- FnSteps's walk. -/
import Derived.Test.YtcklnjjbhngbcaaG4
import Derived.Test.YtcklnjjbhngbcaaL11
import Derived.Test.YtcklnjjbhngbcaaL12
import Derived.Test.YtcklnjjbhngbcaaI5
import Derived.Test.YtcklnjjbhngbcaaT11
namespace Go.Proofs.Ytcklnjjbhngbcaa
open Go.RowKit Go.Proofs.Lens Go.ChangeShapes Go.WideShapes

theorem accF_succ (p : Nat → Bool) (n i : Nat) : accF p n (i + 1) = if p i = true ∧ accF p n i = n then i else accF p n i := rfl
theorem accF_le (p : Nat → Bool) (n : Nat) : ∀ i, i ≤ n → accF p n i ≤ n
  | 0, _ => Nat.le_refl _
  | i + 1, h => by
    have := accF_le p n i (by omega)
    rw [accF_succ]
    split <;> omega
theorem lastB_succ (p : Nat → Bool) (i : Nat) : lastB p (i + 1) = if p i = true then (i : Int) else lastB p i := rfl
theorem wb_lt {w : World} {v : Value} {code : List Nat} (h : RdBytes w v code) (i : Nat) : wb code i < 256 := by
  unfold wb
  split
  · omega
  · exact h.2 _

set_option maxRecDepth 100000 in
set_option maxHeartbeats 40000000 in
theorem steps_law (u1 u2 : Value) (code more : List Nat) (w : World) (hr : RdBytes w u1 code) (hr2 : RdBytes w u2 more) :
    Calls Try.prog 8 #[u1, u2] w fun e w' => e = .returned (.bool true) ∧ Below w.heap.size w w' := by
  have HR := Lib.hid hr
  have HR2 := Lib.hid hr2
  obtain ⟨A0, c0, rfl, hn0, -⟩ := hr.open'
  obtain ⟨A9, c9, rfl, hn9, -⟩ := hr2.open'
  have hx0 := wb_lt hr2 0
  have hx1 := wb_lt hr2 1
  clear hr hr2
  by_cases hbig : 1048576 < code.length
  · have hd : decide ((code.length : Int) > 1048576) = true := by simp; omega
    go_enter Try.func8, Try.ntmps8
    go_wp2
    go_ret
    exact ⟨rfl, Below.refl _ _⟩
  have hd : decide ((code.length : Int) > 1048576) = false := by simp; omega
  by_cases hbig2 : 1048576 < more.length
  · have hd2 : decide ((more.length : Int) > 1048576) = true := by simp; omega
    go_enter Try.func8, Try.ntmps8
    go_wp2
    go_ret
    exact ⟨rfl, Below.refl _ _⟩
  have hd2 : decide ((more.length : Int) > 1048576) = false := by simp; omega
  have hcode : code.length ≤ 1048576 := by omega
  have hso := drawnT_sound hcode
  have hn := drawnT_len hcode
  have hsm := sm_sound hso
  have hrd : ∀ (W : World) (gs lo : Nat) (v2 : Value), Blk W gs 9 4 strsF → BMoms W lo v2 (drawnT code).moms → RdTr W (.slice (some ⟨gs, 0, none⟩) 4 4) v2 (drawnT code) := fun W gs lo v2 a b => drawn_rd a b
  have HDC := Lib.hid (drawn_calls _ code w HR.out hcode)
  obtain ⟨t, ht⟩ : ∃ t, drawnT code = t := ⟨_, rfl⟩
  rw [ht] at hso hn hsm hrd HDC
  have HRD := Lib.hid hrd
  have HSM := Lib.hid hsm
  obtain ⟨n, hnn⟩ : ∃ n, t.moms.length = n := ⟨_, rfl⟩
  rw [hnn] at hn
  have HNN := Lib.hid hnn
  obtain ⟨k, hk⟩ : ∃ k : Int, (((wb more 0 : Nat) : Int) + 256 * ((wb more 1 : Nat) : Int)) % ((n : Int) + 2) - 1 = k := ⟨_, rfl⟩
  have hk0 : -1 ≤ k := by
    have := Int.emod_nonneg (((wb more 0 : Nat) : Int) + 256 * ((wb more 1 : Nat) : Int)) (b := (n : Int) + 2) (by omega)
    omega
  have hk1 : k ≤ n := by
    have := Int.emod_lt_of_pos (((wb more 0 : Nat) : Int) + 256 * ((wb more 1 : Nat) : Int)) (b := (n : Int) + 2) (by omega)
    omega
  have hk1' : k ≤ t.moms.length := by omega
  have hrun : runP t k = (atP t k).cur := run_of hso hk0 hk1'
  have hq0 := (hso.inv (atN t k) (atN_le t k)).lo
  have hq1 := (hso.inv (atN t k) (atN_le t k)).hi
  obtain ⟨tk, htk⟩ : ∃ x, (atP t k).cur = x := ⟨_, rfl⟩
  have htk' : (stN t.moms (atN t k)).cur = tk := htk
  rw [htk'] at hq0 hq1
  rw [htk] at hrun
  have hstk : stackP t k tk = (atP t k).stk tk := stack_of hso hk0 hk1' hq0 hq1
  obtain ⟨dp, hdp⟩ : ∃ x, ((atP t k).stk tk).length = x := ⟨_, rfl⟩
  have HSO := Lib.hid hso
  have HRUN := Lib.hid hrun
  have HTK := Lib.hid htk
  have HDP : Hid (((atP t k).stk tk).length = dp ∧ (stackP t k tk).length = dp) := Lib.hid ⟨hdp, by rw [hstk]; exact hdp⟩
  have hia := into_acc hso hk0 hk1'
  have hoa := over_acc hso hk0 hk1'
  have hua := out_acc hso hk0 hk1'
  have hba := bef_acc hso hk0 hk1'
  rw [hnn] at hia hoa hua hba
  have HIA := Lib.hid hia
  have HOA := Lib.hid hoa
  have HUA := Lib.hid hua
  have HBA := Lib.hid hba
  have HK := Lib.hid hk
  clear hso hsm hrd ht hnn hk hk1' hrun htk htk' hstk hdp hia hoa hua hba hbig hbig2
  go_enter Try.func8, Try.ntmps8
  go_wp2_with fail
  refine HDC.out.mono ?_; rintro e w1 ⟨gs, v2, rfl, hgs, hS, hM, hb⟩
  obtain ⟨A2, c2, rfl, -⟩ := hM.cap
  rw [HNN.out] at hM ⊢
  have HRT := Lib.hid (HRD.out _ _ _ _ hS hM)
  have HB := Lib.hid hb
  clear hS hM hb HDC HRD
  go_wp2_with fail
  have HX := Lib.hid (BoxAt.new w1 [.slice (some ⟨gs, 0, none⟩) 4 4, .slice A2 n c2] 35)
  have HQ := Lib.hid (bl_alloc (Below.refl _ w1) (.cells #[.slice (some ⟨gs, 0, none⟩) 4 4, .slice A2 n c2] 35))
  generalize World.alloc w1 _ = W at HX HQ ⊢
  have hlr : Below w1.heap.size w1 W := HQ.out
  clear HQ
  have HR3 := Lib.hid ((HR2.out.later HB.out).later hlr)
  replace HB := Lib.hid (bl_then HB.out hlr); replace HRT := Lib.hid (HRT.out.later hlr); clear hlr
  refine (wByte_calls _ more 0 _ HR3.out (by omega)).mono ?_; rintro e w2 ⟨rfl, rfl⟩
  go_wp2_with fail
  refine (wByte_calls _ more 1 _ HR3.out (by omega)).mono ?_; rintro e w2 ⟨rfl, rfl⟩
  have hkk := HK.out
  generalize wb more 0 = x at hx0 hkk ⊢
  generalize wb more 1 = y at hx1 hkk ⊢
  obtain ⟨r, hr⟩ : ∃ r, ((x : Int) + 256 * (y : Int)) % ((n : Int) + 2) = r := ⟨_, rfl⟩
  rw [hr] at hkk
  have hd3 : decide ((n : Int) + 2 = 0) = false := by simp; omega
  obtain ⟨x0, x1⟩ := HX.out.open2
  clear HK HR3
  go_wp2_with fail
  refine (spec_RunningAt_calls _ _ t k _ HRT.out HSM.out).mono ?_; rintro e w2 ⟨rfl, hb⟩
  clear hr hkk
  rw [HRUN.out]
  replace HB := Lib.hid (bl_then HB.out hb); replace HRT := Lib.hid (HRT.out.later hb); replace HX := Lib.hid (HX.out.later hb); clear hb
  clear x0 x1
  obtain ⟨x0, x1⟩ := HX.out.open2
  go_wp2_with fail
  refine (spec_StackAt_calls _ _ t k tk _ HRT.out HSM.out).mono ?_; rintro e w3 ⟨u3, rfl, hu3, hb⟩
  rw [HDP.out.2] at hu3
  obtain ⟨A3, c3, rfl, -⟩ := hu3.cap
  clear hu3 x0 x1
  replace HB := Lib.hid (bl_then HB.out hb); replace HRT := Lib.hid (HRT.out.later hb); replace HX := Lib.hid (HX.out.later hb); clear hb
  obtain ⟨x0, x1⟩ := HX.out.open2
  go_wp2_with fail
  clear x0 x1
  go_loopw [54, 10, 11, 12, 13] (fun i s10 s11 s12 s13 wr => ∃ q : Nat, q ≤ n ∧ i = .int .i64 q ∧ s10 = .int .i64 (accF (stInto t k) n q : Nat) ∧ s11 = .int .i64 (accF (stOver t k) n q : Nat) ∧ s12 = .int .i64 (accF (stOut t k) n q : Nat) ∧ s13 = .int .i64 (lastB (stBef t k) q) ∧ Below w3.heap.size w3 wr) (fun i _ _ _ _ _ => n - (intOf i).toNat)
  case atStart => exact ⟨0, Nat.zero_le _, rfl, rfl, rfl, rfl, rfl, Below.refl _ _⟩
  case round =>
    obtain ⟨q, hq, rfl, rfl, rfl, rfl, rfl, hbr⟩ := hrel
    obtain ⟨p0, e0⟩ : ∃ p, accF (stInto t k) n q = p := ⟨_, rfl⟩
    obtain ⟨p1, e1⟩ : ∃ p, accF (stOver t k) n q = p := ⟨_, rfl⟩
    obtain ⟨p2, e2⟩ : ∃ p, accF (stOut t k) n q = p := ⟨_, rfl⟩
    obtain ⟨p3, e3⟩ : ∃ p, lastB (stBef t k) q = p := ⟨_, rfl⟩
    have l0 := accF_le (stInto t k) n q hq
    have l1 := accF_le (stOver t k) n q hq
    have l2 := accF_le (stOut t k) n q hq
    rw [e0, e1, e2, e3]
    rw [e0] at l0
    rw [e1] at l1
    rw [e2] at l2
    have HXr := Lib.hid (HX.out.later hbr)
    have HRr := Lib.hid (HRT.out.later hbr)
    have HBr := Lib.hid (bl_then HB.out hbr)
    have HLr := Lib.hid hbr
    clear hbr
    obtain ⟨x0, x1⟩ := HXr.out.open2
    by_cases hqn : q < n
    · obtain ⟨b, o, vk, hA, d0, d1, d2, d3, d4, d5, hvk⟩ := rd_moment HRr.out.2 (by rw [HNN.out]; exact hqn)
      obtain ⟨Av, cv, rfl, -⟩ := hvk
      have HA := Lib.hid hA
      subst hA
      have hint : intoQ t k q = (decide ((elt t.moms q).kind = 1) && decide ((elt t.moms q).task = tk)) := by unfold intoQ; rw [HTK.out]
      have hstk : ((stN t.moms (q + 1)).stk tk).length = (stackP t (q : Int) tk).length := by
        rw [stack_of HSO.out (by omega) (by have := HNN.out; omega) hq0 hq1, at_nat (by have := HNN.out; omega)]
      have hove : overQ t k q = (decide ((elt t.moms q).kind = 1) && decide ((elt t.moms q).task = tk) && decide ((stackP t (q : Int) tk).length ≤ dp)) := by unfold overQ; rw [HTK.out, HDP.out.1, hstk]
      have hout : outQ t k q = (decide ((elt t.moms q).kind = 3) && decide ((elt t.moms q).task = tk) && decide ((stackP t (q : Int) tk).length < dp)) := by unfold outQ; rw [HTK.out, HDP.out.1, hstk]
      have hsI : stInto t k q = (decide (k < (q : Int)) && intoQ t k q) := rfl
      have hsO : stOver t k q = (decide (k < (q : Int)) && overQ t k q) := rfl
      have hsU : stOut t k q = (decide (k < (q : Int)) && outQ t k q) := rfl
      have hsB : stBef t k q = (decide ((q : Int) < k) && intoQ t k q) := rfl
      rw [hint] at hsI hsB
      rw [hove] at hsO
      rw [hout] at hsU
      obtain ⟨dq, hdq⟩ : ∃ d, (stackP t (q : Int) tk).length = d := ⟨_, rfl⟩
      rw [hdq] at hsO hsU
      have HDQ := Lib.hid hdq
      clear hint hove hout hstk hdq
      go_upto_region 15 with fail
      generalize hW2 : World.alloc wr _ = W2
      have hbl : Below wr.heap.size wr W2 := by rw [← hW2]; exact bl_alloc (Below.refl _ _) _
      have y0 : W2.cell? ⟨wr.heap.size, 0, none⟩ = some (.int .i64 (elt t.moms q).kind) := by rw [← hW2]; clear hW2; go_simp
      have y1 : W2.cell? ⟨wr.heap.size, 1, none⟩ = some (.int .i64 (elt t.moms q).task) := by rw [← hW2]; clear hW2; go_simp
      have y2 : W2.cell? ⟨wr.heap.size, 2, none⟩ = some (.int .i64 (elt t.moms q).fn) := by rw [← hW2]; clear hW2; go_simp
      have y3 : W2.cell? ⟨wr.heap.size, 3, none⟩ = some (.int .i64 (elt t.moms q).line) := by rw [← hW2]; clear hW2; go_simp
      have y4 : W2.cell? ⟨wr.heap.size, 4, none⟩ = some (.string (elt t.moms q).text) := by rw [← hW2]; clear hW2; go_simp
      have y5 : W2.cell? ⟨wr.heap.size, 5, none⟩ = some (.slice Av (elt t.moms q).vars.length cv) := by rw [← hW2]; clear hW2; go_simp
      clear hW2
      replace HXr := Lib.hid (HXr.out.later hbl); replace HRr := Lib.hid (HRr.out.later hbl); replace HBr := Lib.hid (bl_then HBr.out hbl); replace HLr := Lib.hid (bl_then HLr.out hbl); clear hbl
      clear x0 x1 d0 d1 d2 d3 d4 d5 HA
      obtain ⟨x0, x1⟩ := HXr.out.open2
      obtain ⟨mk, hmk⟩ : ∃ m, (elt t.moms q).kind = m := ⟨_, rfl⟩
      obtain ⟨mt, hmt⟩ : ∃ m, (elt t.moms q).task = m := ⟨_, rfl⟩
      rw [hmk] at hsI hsO hsU hsB y0 ⊢
      rw [hmt] at hsI hsO hsU hsB y1 ⊢
      by_cases hT : mt = tk
      · have hb1 : (mt != tk) = false := by simp [hT]
        by_cases hk2 : (q : Int) < k
        · have hb2 : decide ((q : Int) < k) = true := by simp [hk2]
          have hb4 : decide ((q : Int) ≤ k) = true := by simp; omega
          by_cases h1 : mk = 1
          · subst h1
            have HN0 : Hid (accF (stInto t k) n (q + 1) = p0) := Lib.hid (by rw [accF_succ, e0, hsI]; grind)
            have HN1 : Hid (accF (stOver t k) n (q + 1) = p1) := Lib.hid (by rw [accF_succ, e1, hsO]; grind)
            have HN2 : Hid (accF (stOut t k) n (q + 1) = p2) := Lib.hid (by rw [accF_succ, e2, hsU]; grind)
            have HN3 : Hid (lastB (stBef t k) (q + 1) = (q : Int)) := Lib.hid (by rw [lastB_succ, e3, hsB]; grind)
            clear hsI hsO hsU hsB e0 e1 e2 e3 hmk hmt hk2 hT
            as_aux_lemma =>
              go_wp2
              go_roundw
              case rel => exact ⟨q + 1, by omega, by go_num, by rw [HN0.out], by rw [HN1.out], by rw [HN2.out], by rw [HN3.out], HLr.out⟩
              case measure => simp [intOf]; omega
          · have hb3 : (mk == 1) = false := by simp [h1]
            have HN0 : Hid (accF (stInto t k) n (q + 1) = p0) := Lib.hid (by rw [accF_succ, e0, hsI]; grind)
            have HN1 : Hid (accF (stOver t k) n (q + 1) = p1) := Lib.hid (by rw [accF_succ, e1, hsO]; grind)
            have HN2 : Hid (accF (stOut t k) n (q + 1) = p2) := Lib.hid (by rw [accF_succ, e2, hsU]; grind)
            have HN3 : Hid (lastB (stBef t k) (q + 1) = p3) := Lib.hid (by rw [lastB_succ, e3, hsB]; grind)
            clear hsI hsO hsU hsB e0 e1 e2 e3 hmk hmt hk2 hT h1
            as_aux_lemma =>
              go_wp2
              go_roundw
              case rel => exact ⟨q + 1, by omega, by go_num, by rw [HN0.out], by rw [HN1.out], by rw [HN2.out], by rw [HN3.out], HLr.out⟩
              case measure => simp [intOf]; omega
        · have hb2 : decide ((q : Int) < k) = false := by simp [hk2]
          by_cases hk3 : (q : Int) ≤ k
          · have hb4 : decide ((q : Int) ≤ k) = true := by simp [hk3]
            have hkq : ¬ k < (q : Int) := by omega
            have HN0 : Hid (accF (stInto t k) n (q + 1) = p0) := Lib.hid (by rw [accF_succ, e0, hsI]; grind)
            have HN1 : Hid (accF (stOver t k) n (q + 1) = p1) := Lib.hid (by rw [accF_succ, e1, hsO]; grind)
            have HN2 : Hid (accF (stOut t k) n (q + 1) = p2) := Lib.hid (by rw [accF_succ, e2, hsU]; grind)
            have HN3 : Hid (lastB (stBef t k) (q + 1) = p3) := Lib.hid (by rw [lastB_succ, e3, hsB]; grind)
            clear hsI hsO hsU hsB e0 e1 e2 e3 hmk hmt hk2 hT hk3 hkq
            as_aux_lemma =>
              go_wp2
              go_roundw
              case rel => exact ⟨q + 1, by omega, by go_num, by rw [HN0.out], by rw [HN1.out], by rw [HN2.out], by rw [HN3.out], HLr.out⟩
              case measure => simp [intOf]; omega
          · have hb4 : decide ((q : Int) ≤ k) = false := by simp [hk3]
            have hkq : k < (q : Int) := by omega
            go_wp2_with fail
            clear x0 x1 hb1 hb2 hb4
            refine (spec_StackAt_calls _ _ t q tk _ HRr.out HSM.out).mono ?_; rintro e w4 ⟨u4, rfl, hu4, hb⟩
            rw [HDQ.out] at hu4
            obtain ⟨A4, c4, rfl, -⟩ := hu4.cap
            clear hu4
            have y0' := cell_later hb y0
            clear y0 y1 y2 y3 y4 y5
            replace HLr := Lib.hid (bl_then HLr.out hb); clear hb
            by_cases h1 : mk = 1
            · subst h1
              by_cases h10 : p0 = n
              · obtain rfl : n = p0 := h10.symm
                by_cases hd4 : dq ≤ dp
                · have hb6 : decide ((dq : Int) ≤ (dp : Int)) = true := by simp [hd4]
                  by_cases h11 : p1 = n
                  · obtain rfl : n = p1 := h11.symm
                    have HN0 : Hid (accF (stInto t k) n (q + 1) = q) := Lib.hid (by rw [accF_succ, e0, hsI]; grind)
                    have HN1 : Hid (accF (stOver t k) n (q + 1) = q) := Lib.hid (by rw [accF_succ, e1, hsO]; grind)
                    have HN2 : Hid (accF (stOut t k) n (q + 1) = p2) := Lib.hid (by rw [accF_succ, e2, hsU]; grind)
                    have HN3 : Hid (lastB (stBef t k) (q + 1) = p3) := Lib.hid (by rw [lastB_succ, e3, hsB]; grind)
                    clear hsI hsO hsU hsB e0 e1 e2 e3 hmk hmt
                    as_aux_lemma =>
                      go_wp2
                      go_roundw
                      case rel => exact ⟨q + 1, by omega, by go_num, by rw [HN0.out], by rw [HN1.out], by rw [HN2.out], by rw [HN3.out], HLr.out⟩
                      case measure => simp [intOf]; omega
                  · have hb7 : ((p1 : Int) == (n : Int)) = false := by simp; omega
                    have HN0 : Hid (accF (stInto t k) n (q + 1) = q) := Lib.hid (by rw [accF_succ, e0, hsI]; grind)
                    have HN1 : Hid (accF (stOver t k) n (q + 1) = p1) := Lib.hid (by rw [accF_succ, e1, hsO]; grind)
                    have HN2 : Hid (accF (stOut t k) n (q + 1) = p2) := Lib.hid (by rw [accF_succ, e2, hsU]; grind)
                    have HN3 : Hid (lastB (stBef t k) (q + 1) = p3) := Lib.hid (by rw [lastB_succ, e3, hsB]; grind)
                    clear hsI hsO hsU hsB e0 e1 e2 e3 hmk hmt
                    as_aux_lemma =>
                      go_wp2
                      go_roundw
                      case rel => exact ⟨q + 1, by omega, by go_num, by rw [HN0.out], by rw [HN1.out], by rw [HN2.out], by rw [HN3.out], HLr.out⟩
                      case measure => simp [intOf]; omega
                · have hb6 : decide ((dq : Int) ≤ (dp : Int)) = false := by simp; omega
                  have HN0 : Hid (accF (stInto t k) n (q + 1) = q) := Lib.hid (by rw [accF_succ, e0, hsI]; grind)
                  have HN1 : Hid (accF (stOver t k) n (q + 1) = p1) := Lib.hid (by rw [accF_succ, e1, hsO]; grind)
                  have HN2 : Hid (accF (stOut t k) n (q + 1) = p2) := Lib.hid (by rw [accF_succ, e2, hsU]; grind)
                  have HN3 : Hid (lastB (stBef t k) (q + 1) = p3) := Lib.hid (by rw [lastB_succ, e3, hsB]; grind)
                  clear hsI hsO hsU hsB e0 e1 e2 e3 hmk hmt
                  as_aux_lemma =>
                    go_wp2
                    go_roundw
                    case rel => exact ⟨q + 1, by omega, by go_num, by rw [HN0.out], by rw [HN1.out], by rw [HN2.out], by rw [HN3.out], HLr.out⟩
                    case measure => simp [intOf]; omega
              · have hb5 : ((p0 : Int) == (n : Int)) = false := by simp; omega
                by_cases hd4 : dq ≤ dp
                · have hb6 : decide ((dq : Int) ≤ (dp : Int)) = true := by simp [hd4]
                  by_cases h11 : p1 = n
                  · obtain rfl : n = p1 := h11.symm
                    have HN0 : Hid (accF (stInto t k) n (q + 1) = p0) := Lib.hid (by rw [accF_succ, e0, hsI]; grind)
                    have HN1 : Hid (accF (stOver t k) n (q + 1) = q) := Lib.hid (by rw [accF_succ, e1, hsO]; grind)
                    have HN2 : Hid (accF (stOut t k) n (q + 1) = p2) := Lib.hid (by rw [accF_succ, e2, hsU]; grind)
                    have HN3 : Hid (lastB (stBef t k) (q + 1) = p3) := Lib.hid (by rw [lastB_succ, e3, hsB]; grind)
                    clear hsI hsO hsU hsB e0 e1 e2 e3 hmk hmt
                    as_aux_lemma =>
                      go_wp2
                      go_roundw
                      case rel => exact ⟨q + 1, by omega, by go_num, by rw [HN0.out], by rw [HN1.out], by rw [HN2.out], by rw [HN3.out], HLr.out⟩
                      case measure => simp [intOf]; omega
                  · have hb7 : ((p1 : Int) == (n : Int)) = false := by simp; omega
                    have HN0 : Hid (accF (stInto t k) n (q + 1) = p0) := Lib.hid (by rw [accF_succ, e0, hsI]; grind)
                    have HN1 : Hid (accF (stOver t k) n (q + 1) = p1) := Lib.hid (by rw [accF_succ, e1, hsO]; grind)
                    have HN2 : Hid (accF (stOut t k) n (q + 1) = p2) := Lib.hid (by rw [accF_succ, e2, hsU]; grind)
                    have HN3 : Hid (lastB (stBef t k) (q + 1) = p3) := Lib.hid (by rw [lastB_succ, e3, hsB]; grind)
                    clear hsI hsO hsU hsB e0 e1 e2 e3 hmk hmt
                    as_aux_lemma =>
                      go_wp2
                      go_roundw
                      case rel => exact ⟨q + 1, by omega, by go_num, by rw [HN0.out], by rw [HN1.out], by rw [HN2.out], by rw [HN3.out], HLr.out⟩
                      case measure => simp [intOf]; omega
                · have hb6 : decide ((dq : Int) ≤ (dp : Int)) = false := by simp; omega
                  have HN0 : Hid (accF (stInto t k) n (q + 1) = p0) := Lib.hid (by rw [accF_succ, e0, hsI]; grind)
                  have HN1 : Hid (accF (stOver t k) n (q + 1) = p1) := Lib.hid (by rw [accF_succ, e1, hsO]; grind)
                  have HN2 : Hid (accF (stOut t k) n (q + 1) = p2) := Lib.hid (by rw [accF_succ, e2, hsU]; grind)
                  have HN3 : Hid (lastB (stBef t k) (q + 1) = p3) := Lib.hid (by rw [lastB_succ, e3, hsB]; grind)
                  clear hsI hsO hsU hsB e0 e1 e2 e3 hmk hmt
                  as_aux_lemma =>
                    go_wp2
                    go_roundw
                    case rel => exact ⟨q + 1, by omega, by go_num, by rw [HN0.out], by rw [HN1.out], by rw [HN2.out], by rw [HN3.out], HLr.out⟩
                    case measure => simp [intOf]; omega
            · have hb5 : (mk == 1) = false := by simp [h1]
              by_cases h3 : mk = 3
              · subst h3
                by_cases hd4 : dq < dp
                · have hb6 : decide ((dq : Int) < (dp : Int)) = true := by simp [hd4]
                  by_cases h12 : p2 = n
                  · obtain rfl : n = p2 := h12.symm
                    have HN0 : Hid (accF (stInto t k) n (q + 1) = p0) := Lib.hid (by rw [accF_succ, e0, hsI]; grind)
                    have HN1 : Hid (accF (stOver t k) n (q + 1) = p1) := Lib.hid (by rw [accF_succ, e1, hsO]; grind)
                    have HN2 : Hid (accF (stOut t k) n (q + 1) = q) := Lib.hid (by rw [accF_succ, e2, hsU]; grind)
                    have HN3 : Hid (lastB (stBef t k) (q + 1) = p3) := Lib.hid (by rw [lastB_succ, e3, hsB]; grind)
                    clear hsI hsO hsU hsB e0 e1 e2 e3 hmk hmt
                    as_aux_lemma =>
                      go_wp2
                      go_roundw
                      case rel => exact ⟨q + 1, by omega, by go_num, by rw [HN0.out], by rw [HN1.out], by rw [HN2.out], by rw [HN3.out], HLr.out⟩
                      case measure => simp [intOf]; omega
                  · have hb7 : ((p2 : Int) == (n : Int)) = false := by simp; omega
                    have HN0 : Hid (accF (stInto t k) n (q + 1) = p0) := Lib.hid (by rw [accF_succ, e0, hsI]; grind)
                    have HN1 : Hid (accF (stOver t k) n (q + 1) = p1) := Lib.hid (by rw [accF_succ, e1, hsO]; grind)
                    have HN2 : Hid (accF (stOut t k) n (q + 1) = p2) := Lib.hid (by rw [accF_succ, e2, hsU]; grind)
                    have HN3 : Hid (lastB (stBef t k) (q + 1) = p3) := Lib.hid (by rw [lastB_succ, e3, hsB]; grind)
                    clear hsI hsO hsU hsB e0 e1 e2 e3 hmk hmt
                    as_aux_lemma =>
                      go_wp2
                      go_roundw
                      case rel => exact ⟨q + 1, by omega, by go_num, by rw [HN0.out], by rw [HN1.out], by rw [HN2.out], by rw [HN3.out], HLr.out⟩
                      case measure => simp [intOf]; omega
                · have hb6 : decide ((dq : Int) < (dp : Int)) = false := by simp; omega
                  have HN0 : Hid (accF (stInto t k) n (q + 1) = p0) := Lib.hid (by rw [accF_succ, e0, hsI]; grind)
                  have HN1 : Hid (accF (stOver t k) n (q + 1) = p1) := Lib.hid (by rw [accF_succ, e1, hsO]; grind)
                  have HN2 : Hid (accF (stOut t k) n (q + 1) = p2) := Lib.hid (by rw [accF_succ, e2, hsU]; grind)
                  have HN3 : Hid (lastB (stBef t k) (q + 1) = p3) := Lib.hid (by rw [lastB_succ, e3, hsB]; grind)
                  clear hsI hsO hsU hsB e0 e1 e2 e3 hmk hmt
                  as_aux_lemma =>
                    go_wp2
                    go_roundw
                    case rel => exact ⟨q + 1, by omega, by go_num, by rw [HN0.out], by rw [HN1.out], by rw [HN2.out], by rw [HN3.out], HLr.out⟩
                    case measure => simp [intOf]; omega
              · have hb6 : (mk == 3) = false := by simp [h3]
                have HN0 : Hid (accF (stInto t k) n (q + 1) = p0) := Lib.hid (by rw [accF_succ, e0, hsI]; grind)
                have HN1 : Hid (accF (stOver t k) n (q + 1) = p1) := Lib.hid (by rw [accF_succ, e1, hsO]; grind)
                have HN2 : Hid (accF (stOut t k) n (q + 1) = p2) := Lib.hid (by rw [accF_succ, e2, hsU]; grind)
                have HN3 : Hid (lastB (stBef t k) (q + 1) = p3) := Lib.hid (by rw [lastB_succ, e3, hsB]; grind)
                clear hsI hsO hsU hsB e0 e1 e2 e3 hmk hmt
                as_aux_lemma =>
                  go_wp2
                  go_roundw
                  case rel => exact ⟨q + 1, by omega, by go_num, by rw [HN0.out], by rw [HN1.out], by rw [HN2.out], by rw [HN3.out], HLr.out⟩
                  case measure => simp [intOf]; omega
      · have hb1 : (mt != tk) = true := by simp [hT]
        have HN0 : Hid (accF (stInto t k) n (q + 1) = p0) := Lib.hid (by rw [accF_succ, e0, hsI]; grind)
        have HN1 : Hid (accF (stOver t k) n (q + 1) = p1) := Lib.hid (by rw [accF_succ, e1, hsO]; grind)
        have HN2 : Hid (accF (stOut t k) n (q + 1) = p2) := Lib.hid (by rw [accF_succ, e2, hsU]; grind)
        have HN3 : Hid (lastB (stBef t k) (q + 1) = p3) := Lib.hid (by rw [lastB_succ, e3, hsB]; grind)
        clear hsI hsO hsU hsB e0 e1 e2 e3 hmk hmt hT
        as_aux_lemma =>
          go_wp2
          go_roundw
          case rel => exact ⟨q + 1, by omega, by go_num, by rw [HN0.out], by rw [HN1.out], by rw [HN2.out], by rw [HN3.out], HLr.out⟩
          case measure => simp [intOf]; omega
    · obtain rfl : q = n := by omega
      have HI := Lib.hid e0
      have HO := Lib.hid e1
      have HU := Lib.hid e2
      have HV := Lib.hid e3
      have hi1 : intoP t k = p0 := by rw [HIA.out, e0]
      have ho1 : overP t k = p1 := by rw [HOA.out, e1]
      have hu1 : outP t k = p2 := by rw [HUA.out, e2]
      have hv1 : beforeP t k = p3 := by rw [HBA.out, e3]
      have HI1 := Lib.hid hi1
      have HO1 := Lib.hid ho1
      have HU1 := Lib.hid hu1
      have HV1 := Lib.hid hv1
      clear HIA HOA HUA HBA hi1 ho1 hu1 hv1 e0 e1 e2 e3
      go_wp2_with fail
      refine (impl_Into_calls _ _ t k _ HRr.out HSM.out).mono ?_; rintro e w5 ⟨rfl, hb⟩
      rw [HI1.out]
      clear x0 x1
      replace HBr := Lib.hid (bl_then HBr.out hb); replace HRr := Lib.hid (HRr.out.later hb); replace HXr := Lib.hid (HXr.out.later hb); clear hb
      obtain ⟨x0, x1⟩ := HXr.out.open2
      go_wp2_with fail
      refine (impl_Over_calls _ _ t k _ HRr.out HSM.out).mono ?_; rintro e w6 ⟨rfl, hb⟩
      rw [HO1.out]
      clear x0 x1
      replace HBr := Lib.hid (bl_then HBr.out hb); replace HRr := Lib.hid (HRr.out.later hb); replace HXr := Lib.hid (HXr.out.later hb); clear hb
      obtain ⟨x0, x1⟩ := HXr.out.open2
      go_wp2_with fail
      refine (impl_Out_calls _ _ t k _ HRr.out HSM.out).mono ?_; rintro e w7 ⟨rfl, hb⟩
      rw [HU1.out]
      clear x0 x1
      replace HBr := Lib.hid (bl_then HBr.out hb); replace HRr := Lib.hid (HRr.out.later hb); replace HXr := Lib.hid (HXr.out.later hb); clear hb
      obtain ⟨x0, x1⟩ := HXr.out.open2
      go_wp2_with fail
      refine (impl_Before_calls _ _ t k _ HRr.out HSM.out).mono ?_; rintro e w8 ⟨rfl, hb⟩
      rw [HV1.out]
      clear x0 x1
      replace HBr := Lib.hid (bl_then HBr.out hb); clear hb
      go_wp2
      go_ret
      exact ⟨rfl, HBr.out⟩

set_option maxRecDepth 100000 in
theorem steps_walk (H : Type) (enc : TypeId × Value → H) (W : World) (base : Nat) (args : Array Value) (ds : List (DataW H)) (ps : List MemPlace)
    (hval : ∀ (j : Nat) t v, Try.f8.params[j]? = some t → args[j]? = some v → Value.okWide Try.prog W .any base t v)
    (h : DataW.TrodAll enc Try.prog W 0 (fun _ => true) true Try.f8.params.toList args.toList ds ps) :
    Calls Try.prog 8 args W fun e W' => e = .returned (.bool true) ∧ Below W.heap.size W W' := by
  rw [Try.params8] at h hval
  obtain ⟨v0, u0, d0, d1, p0, p1, ha, _, _, h0, h1⟩ := trodAll_two h
  have ha' : args = #[v0, u0] := by simpa using ha
  subst ha'
  obtain ⟨code, hr⟩ := rd_bytes (hval 0 _ _ rfl rfl) h0
  obtain ⟨more, hr2⟩ := rd_bytes (hval 1 _ _ rfl rfl) h1
  exact steps_law v0 u0 code more W hr hr2
end Go.Proofs.Ytcklnjjbhngbcaa
