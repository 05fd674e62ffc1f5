/- LineCounts. (Written by exp.py from I13.in.) -/
import Derived.Test.YtcklnjjbhngbcaaI13a
import Derived.Test.YtcklnjjbhngbcaaF4
import Derived.Test.YtcklnjjbhngbcaaI7a
import Derived.Test.YtcklnjjbhngbcaaB8
import Derived.Test.YtcklnjjbhngbcaaB4
import Derived.Deep.DeepCutAuto
namespace Go.Proofs.Ytcklnjjbhngbcaa
open Go.RowKit Go.Proofs.Lens

theorem bl_grown0 {w w' : World} (h : w.grownBy w' none) : Below w.heap.size w w' := ⟨h.os, h.tape, h.output, h.size, fun k hk => h.block k hk (by simp)⟩
theorem wrap_succ {c : Int} (h0 : 0 ≤ c) (h1 : c ≤ 1048576) : IntKind.i64.wrap (c + 1) = c + 1 := by
  simp [IntKind.wrap, IntKind.bits, IntKind.signed]
  omega
theorem bl_trans9' {lo lo2 : Nat} {a b c : World} (h : Below lo a b) (k : Below lo2 b c) (hl : lo ≤ lo2) : Below lo a c := ⟨k.os.trans h.os, k.tape.trans h.tape, k.output.trans h.output, Nat.le_trans h.size k.size, fun j hj => (k.block j (Nat.lt_of_lt_of_le hj hl)).trans (h.block j hj)⟩
theorem lcC_old (l : List PLc) (x : PLc) {i : Nat} (h : i < l.length) (j : Nat) : lcC (l ++ [x]) i j = lcC l i j := by
  unfold lcC
  rw [elt_eq (xs := l ++ [x]) (by simp; omega), elt_eq h, List.getElem_append_left h]
theorem lcC_last (l : List PLc) (x : PLc) (j : Nat) : lcC (l ++ [x]) l.length j = lcC [x] 0 j := by
  unfold lcC
  rw [elt_eq (xs := l ++ [x]) (by simp), elt_eq (xs := [x]) (by simp)]
  simp
theorem i_lc1 : (Try.prog.info? 94).map (fun i => (i.zero, i.size, i.bytes)) = some (some (.agg #[.int .i64 0, .int .i64 0, .int .i64 0]), 3, 24) := by kernel_rfl
set_option maxRecDepth 100000 in
set_option maxHeartbeats 2000000 in
theorem impl_LineCounts_bad (v1 v2 : Value) (t : PTr) (w : World) (h : RdTr w v1 v2 t) (hsm : smTr t) (hs : soundP t = false) :
    Calls Try.prog 80 #[.agg #[v1, v2]] w (OwRet w 94 3 (lcP t).length (lcC (lcP t))) := by
  have HT := Lib.hid h
  have HS := Lib.hid hsm
  obtain ⟨⟨A1, c1, rfl, hn1, -⟩, ⟨vv, ⟨A2, c2, rfl, hn2, -⟩, -⟩⟩ := h
  have HR : Hid (lcP t = []) := Lib.hid (by unfold lcP; rw [hs]; rfl)
  have HQ := Lib.hid hs
  clear hs hsm
  go_enter Try.func80, Try.ntmps80
  go_wp2_with fail
  refine (sound_is _ _ t _ (HT.out.later (by repeat (with_reducible first | exact Below.refl _ _ | exact HL.out | refine bl_drewN ?_ _ | refine bl_drew ?_ | refine bl_alloc ?_ _ | refine bl_set ?_ (by dsimp only; omega) _))) HS.out HQ.out).mono ?_; rintro e w1 ⟨rfl, hb⟩
  have HB := Lib.hid (bl_then (bl_alloc (Below.refl _ w) _) hb)
  clear hb
  go_wp2
  go_ret
  rw [HR.out]
  exact ⟨_, rfl, OwR.nil, HB.out⟩

set_option maxRecDepth 100000 in
set_option maxHeartbeats 8000000 in
theorem impl_LineCounts_good (v1 v2 : Value) (t : PTr) (w : World) (h : RdTr w v1 v2 t) (hsm : smTr t) (hs : soundP t = true) :
    Calls Try.prog 80 #[.agg #[v1, v2]] w (OwRet w 94 3 (lcP t).length (lcC (lcP t))) := by
  have HT := Lib.hid h
  have HS := Lib.hid hsm
  obtain ⟨⟨A1, c1, rfl, hn1, -⟩, ⟨vv, ⟨A2, c2, rfl, hn2, -⟩, -⟩⟩ := h
  have HR : Hid (lcP t = lcN t.moms t.moms.length) := Lib.hid (by unfold lcP; rw [hs]; rfl)
  have HQ := Lib.hid hs
  have hso := sound_iff hs
  obtain ⟨nf0, nf1, nm1⟩ := sound_fns hso
  have SO := Lib.hid hso
  have hmm := @run_makeMap Try.prog
  clear hs hsm hso
  go_enter Try.func80, Try.ntmps80
  go_wp2_with fail
  refine (sound_is _ _ t _ (HT.out.later (by repeat (with_reducible first | exact Below.refl _ _ | exact HL.out | refine bl_drewN ?_ _ | refine bl_drew ?_ | refine bl_alloc ?_ _ | refine bl_set ?_ (by dsimp only; omega) _))) HS.out HQ.out).mono ?_; rintro e w1 ⟨rfl, hb⟩
  have HX := Lib.hid ((Blk.made w #[.slice A1 t.fns.length c1, .slice A2 t.moms.length c2] 35).later hb)
  have HB := Lib.hid (bl_then (bl_alloc (Below.refl _ w) _) hb)
  have hw1 : w.heap.size < w1.heap.size := HX.out.lt
  clear hb
  go_upto_region 4 with fail
  have HM0 : Hid (OwMs (w1.alloc (.map #[] 0)) w1.heap.size 0 (fun _ => none)) := Lib.hid (OwM.made w1)
  have hbl : Below w1.heap.size w1 (w1.alloc (.map #[] 0)) := bl_alloc (Below.refl _ _) _
  generalize hW : World.alloc w1 _ = W at HM0 hbl ⊢
  clear hW
  replace HB := Lib.hid (bl_then HB.out hbl); replace HX := Lib.hid (HX.out.later hbl); clear hbl
  generalize w1.heap.size = gk at *
  have x1 : W.cell? ⟨w.heap.size, 1, none⟩ = some (.slice A2 t.moms.length c2) := HX.out.cell (j := 1) (by simp)
  go_wp2_with fail
  clear x1 hmm
  go_loopw [16] (fun i wr => ∃ (n kn : Nat), n ≤ t.moms.length ∧ i = .int .i64 n ∧ OwMs wr gk kn (lcM t.moms n) ∧ kn ≤ n ∧ Below w.heap.size w wr) (fun i _ => t.moms.length - (intOf i).toNat)
  case atStart => exact ⟨0, 0, Nat.zero_le _, rfl, HM0.out.congr fun x _ => (lcM_zero _ x).symm, Nat.le_refl _, HB.out⟩
  case round =>
    clear HM0 HB HX
    obtain ⟨n, kn, hn, rfl, hM, hkn, hB⟩ := hrel
    have hgw : gk < wr.heap.size := hM.lt
    have HM := Lib.hid hM
    have HB := Lib.hid hB
    clear hM hB
    by_cases hlt : n < t.moms.length
    · obtain ⟨b, o, vk, hA, d0, d1, d2, d3, d4, d5, hvk⟩ := rd_moment (HT.out.2.later HB.out) hlt
      obtain ⟨Av, cv, rfl, -⟩ := hvk
      subst hA
      go_upto_region 7 with fail
      generalize hW2 : World.alloc wr _ = W2
      have hbl : Below wr.heap.size wr W2 := by rw [← hW2]; exact bl_alloc (Below.refl _ _) _
      have y0 : W2.cell? ⟨wr.heap.size, 0, none⟩ = some (.int .i64 (elt t.moms n).kind) := by rw [← hW2]; clear hW2; go_simp
      have y1 : W2.cell? ⟨wr.heap.size, 1, none⟩ = some (.int .i64 (elt t.moms n).task) := by rw [← hW2]; clear hW2; go_simp
      have y2 : W2.cell? ⟨wr.heap.size, 2, none⟩ = some (.int .i64 (elt t.moms n).fn) := by rw [← hW2]; clear hW2; go_simp
      have y3 : W2.cell? ⟨wr.heap.size, 3, none⟩ = some (.int .i64 (elt t.moms n).line) := by rw [← hW2]; clear hW2; go_simp
      have y4 : W2.cell? ⟨wr.heap.size, 4, none⟩ = some (.string (elt t.moms n).text) := by rw [← hW2]; clear hW2; go_simp
      have y5 : W2.cell? ⟨wr.heap.size, 5, none⟩ = some (.slice Av (elt t.moms n).vars.length cv) := by rw [← hW2]; clear hW2; go_simp
      clear hW2
      have hsz : w.heap.size ≤ wr.heap.size := HB.out.size
      replace HM := Lib.hid (HM.out.later hbl)
      replace HB := Lib.hid (bl_then HB.out hbl); clear hbl
      clear d0 d1 d2 d3 d4 d5
      have hfn := mom_fn' (SO.out.moms n hlt)
      have hln := mom_line (SO.out.moms n hlt)
      by_cases k1 : (elt t.moms n).kind = 1
      · have hd1 : ((elt t.moms n).kind == 1) = true := by simp [k1]
        have HK1 := Lib.hid k1
        clear k1
        go_upto_region 8 with fail
        obtain ⟨fn, hfnn⟩ : ∃ f, (elt t.moms n).fn = f := ⟨_, rfl⟩
        obtain ⟨ln, hlnn⟩ : ∃ f, (elt t.moms n).line = f := ⟨_, rfl⟩
        have HFN := Lib.hid hfnn
        have HLN := Lib.hid hlnn
        have hbk := lcK_bd t.moms fn ln n
        obtain ⟨c, hc⟩ : ∃ c, lcK t.moms fn ln n = c := ⟨_, rfl⟩
        rw [hc] at hbk
        have hgd := lcM_getD t.moms n (fn, ln)
        rw [show lcK t.moms (fn, ln).1 (fn, ln).2 n = c from hc] at hgd
        have HC := Lib.hid hc
        rw [hfnn] at hfn y2
        rw [hlnn] at hln y3
        have okx : okP (fn, ln) := ⟨by unfold ok64; dsimp only; omega, by unfold ok64; dsimp only; omega⟩
        have HD : Hid (OwMs W2.drew gk kn (lcM t.moms n)) := Lib.hid (HM.out.later (bl_drew (Below.refl _ _)))
        have hlk := HD.out.look m_spot okx
        rw [hgd] at hlk
        replace hlk : (Instr.lookup 159 (.map (some gk)) (.agg #[.int .i64 fn, .int .i64 ln]) false).run Try.prog W2.drew = .ok (.int .i64 c) W2.drew := hlk
        obtain ⟨v0, st, wE, he1, he2, he3, he4, he5⟩ := HD.out.entry m_spot k_spot okx (by rw [hgd]; unfold ok64; omega) (by simp only [maxLen]; omega)
        rw [hgd] at he3
        replace he3 : (Instr.lookup 159 (.map (some gk)) (.agg #[.int .i64 fn, .int .i64 ln]) false).run Try.prog wE = .ok (.int .i64 c) wE := he3
        replace he1 : (Instr.mapEntry 159 (.map (some gk)) (.agg #[.int .i64 fn, .int .i64 ln])).run Try.prog W2.drew = .ok (.tuple #[v0, goInt st]) wE := he1
        obtain ⟨wF, hf1, hf2, hf3⟩ := he5 wE (c + 1) (by unfold ok64; omega) rfl
        have hwc := wrap_succ hbk.1 (show c ≤ 1048576 by omega)
        replace hf1 : (Instr.entryStore 159 (.map (some gk)) (.int .i64 st) (.int .i64 (IntKind.i64.wrap (c + 1)))).run Try.prog wE = .ok () wF := by rw [hwc]; exact hf1
        clear hwc
        have hwr : wr.heap.size < W2.heap.size := World.block_lt_of_cell? _ _ y2
        have hne : wr.heap.size ≠ gk := by omega
        have zE2 : wE.cell? ⟨wr.heap.size, 2, none⟩ = some (.int .i64 fn) := by rw [World.cell?_of_block (w := W2) (w' := wE) (he2.block _ hwr (fun e => hne (Option.some.inj e)))]; exact y2
        have zE3 : wE.cell? ⟨wr.heap.size, 3, none⟩ = some (.int .i64 ln) := by rw [World.cell?_of_block (w := W2) (w' := wE) (he2.block _ hwr (fun e => hne (Option.some.inj e)))]; exact y3
        have HS0 : Hid (W2.drew.cell? ⟨wr.heap.size, 2, none⟩ = some (.int .i64 fn) ∧ W2.drew.cell? ⟨wr.heap.size, 3, none⟩ = some (.int .i64 ln) ∧ (Instr.lookup 159 (.map (some gk)) (.agg #[.int .i64 fn, .int .i64 ln]) false).run Try.prog W2.drew = .ok (.int .i64 c) W2.drew) := Lib.hid ⟨y2, y3, hlk⟩
        have HS1 : Hid (wE.cell? ⟨wr.heap.size, 2, none⟩ = some (.int .i64 fn) ∧ wE.cell? ⟨wr.heap.size, 3, none⟩ = some (.int .i64 ln) ∧ (Instr.lookup 159 (.map (some gk)) (.agg #[.int .i64 fn, .int .i64 ln]) false).run Try.prog wE = .ok (.int .i64 c) wE) := Lib.hid ⟨zE2, zE3, he3⟩
        have HB9 : Hid (Below w.heap.size w wF) := Lib.hid (bl_grown (bl_grown (bl_drew HB.out) he2 (by omega)) hf3 (by omega))
        have HM9 : Hid (OwMs wF gk (kn + 1) (lcM t.moms (n + 1))) := Lib.hid (hf2.congr fun x _ => by
          have := lcM_step HK1.out x
          rw [HFN.out, HLN.out, HC.out] at this
          exact this)
        have HE1 := Lib.hid he1
        have HF1 := Lib.hid hf1
        clear y0 y1 y2 y3 y4 y5 hlk he1 he2 he3 he4 he5 hf1 hf2 hf3 zE2 zE3 hc hgd hfnn hlnn hd1 HM HB HD hne okx
        refine wp_region_F 10 (fun w' : World => w'.cell? ⟨wr.heap.size, 2, none⟩ = some (.int .i64 fn) ∧ w'.cell? ⟨wr.heap.size, 3, none⟩ = some (.int .i64 ln) ∧ (Instr.lookup 159 (.map (some gk)) (.agg #[.int .i64 fn, .int .i64 ln]) false).run Try.prog w' = .ok (.int .i64 c) w') (by kernel_rfl) ?_
        refine wpAnyF_take 0 (v := ?v0) (by rfl) (by kernel_rfl) (by intro _ _ _ h; exact h) HS0.out (by rfl) ?hy0 ?rest0
        case hy0 =>
          intro w' hSw
          obtain ⟨s0, s1, s2⟩ := hSw
          go_simp
          try with_reducible rfl
        simp only [Act.put, List.setIfInBounds_toArray, List.set_cons_zero, List.set_cons_succ]
        refine wpAnyF_take 1 (v := ?v1) (by rfl) (by kernel_rfl) (by intro _ _ _ h; exact h) HS0.out (by rfl) ?hy1 ?rest1
        case hy1 =>
          intro w' hSw
          obtain ⟨s0, s1, s2⟩ := hSw
          go_simp
          try with_reducible rfl
        simp only [Act.put, List.setIfInBounds_toArray, List.set_cons_zero, List.set_cons_succ]
        refine wpAnyF_take 2 (v := ?v2) (by rfl) (by kernel_rfl) (by intro _ _ _ h; exact h) HS0.out (by rfl) ?hy2 ?rest2
        case hy2 =>
          intro w' hSw
          obtain ⟨s0, s1, s2⟩ := hSw
          go_simp
          try with_reducible rfl
        simp only [Act.put, List.setIfInBounds_toArray, List.set_cons_zero, List.set_cons_succ]
        refine wpAnyF_take 3 (v := ?v3) (by rfl) (by kernel_rfl) (by intro _ _ _ h; exact h) HS0.out (by rfl) ?hy3 ?rest3
        case hy3 =>
          intro w' hSw
          obtain ⟨s0, s1, s2⟩ := hSw
          go_simp
          try with_reducible rfl
        simp only [Act.put, List.setIfInBounds_toArray, List.set_cons_zero, List.set_cons_succ]
        refine wpAnyF_take 4 (v := ?v4) (by rfl) (by kernel_rfl) (by intro _ _ _ h; exact h) HS0.out (by rfl) ?hy4 ?rest4
        case hy4 =>
          intro w' hSw
          obtain ⟨s0, s1, s2⟩ := hSw
          go_simp
          try with_reducible rfl
        simp only [Act.put, List.setIfInBounds_toArray, List.set_cons_zero, List.set_cons_succ]
        refine wpAnyF_take 5 (v := ?v5) (by rfl) (by kernel_rfl) (by intro _ _ _ h; exact h) HS0.out (by rfl) ?hy5 ?rest5
        case hy5 =>
          intro w' hSw
          obtain ⟨s0, s1, s2⟩ := hSw
          go_simp
          try with_reducible rfl
        simp only [Act.put, List.setIfInBounds_toArray, List.set_cons_zero, List.set_cons_succ]
        refine wpAnyF_take 6 (v := ?v6) (by rfl) (by kernel_rfl) (by intro _ _ _ h; exact h) HS0.out (by rfl) ?hy6 ?rest6
        case hy6 =>
          intro w' hSw
          obtain ⟨s0, s1, s2⟩ := hSw
          go_simp
          try with_reducible rfl
        simp only [Act.put, List.setIfInBounds_toArray, List.set_cons_zero, List.set_cons_succ]
        refine wpAnyF_take 7 (v := ?v7) (by rfl) (by kernel_rfl) (by intro _ _ _ h; exact h) HS0.out (by rfl) ?hy7 ?rest7
        case hy7 =>
          intro w' hSw
          obtain ⟨s0, s1, s2⟩ := hSw
          go_simp
          try with_reducible rfl
        simp only [Act.put, List.setIfInBounds_toArray, List.set_cons_zero, List.set_cons_succ]
        refine wpAnyF_one 8 (by rfl) (by kernel_rfl) rfl ?_
        intro K hK
        have he1 := HE1.out
        go_simp
        refine hK.out _ _ (fun _ => HS1.out) ?_
        clear hK K he1
        refine wpAnyF_take 9 (v := ?v9) (by rfl) (by kernel_rfl) (by intro _ _ _ h; exact h) HS1.out (by rfl) ?hy9 ?rest9
        case hy9 =>
          intro w' hSw
          obtain ⟨s0, s1, s2⟩ := hSw
          go_simp
          try with_reducible rfl
        simp only [Act.put, List.setIfInBounds_toArray, List.set_cons_zero, List.set_cons_succ]
        refine wpAnyF_one 10 (by rfl) (by kernel_rfl) rfl ?_
        intro K hK
        have hf1 := HF1.out
        go_simp
        refine hK.out _ _ (fun h => absurd rfl h) ?_
        clear hK K hf1
        refine wpAnyF_done (by kernel_rfl) ?_ _
        go_wp2
        go_roundw
        case rel => exact ⟨n + 1, kn + 1, by omega, by go_num, HM9.out, by omega, HB9.out⟩
        case measure => simp [intOf]; omega
      · have hd1 : ((elt t.moms n).kind == 1) = false := by simp [k1]
        have HK1 := Lib.hid k1
        clear k1
        go_wp2
        go_roundw
        case rel => exact ⟨n + 1, kn, by omega, by go_num, by rw [lcM_skip HK1.out]; exact HM.out, by omega, HB.out⟩
        case measure => simp [intOf]; omega
    · obtain rfl : n = t.moms.length := by omega
      obtain ⟨wG, cnt, hrg, hRg, hcnt, hgG, -⟩ := OwM.range m_spot HM.out
      have HRG := Lib.hid hRg
      have HBG := Lib.hid (bl_then HB.out (bl_grown0 hgG))
      have HSO : Hid (LcSo t.moms t.moms.length [] (fun x => (lcM t.moms t.moms.length x).isSome) cnt) := Lib.hid (lcSo0 _ _ (by omega))
      replace hrg : (Instr.range 159 (.map (some gk))).run Try.prog wr = .ok (.pointer (some ⟨wr.heap.size, 0, none⟩)) wG := hrg
      have hgr : gk < wr.heap.size := hgw
      clear hRg hcnt hgG HM HB hkn hlt hn hgw
      generalize wr.heap.size = gr at *
      go_wp2_with fail
      clear hrg
      go_loopw [6] (fun ov wx => ∃ (l : List PLc) (left : Int × Int → Bool) (cnt : Nat), OwR wx gk 94 3 l.length (lcC l) ov ∧ OwRs wx gk gr kn (lcM t.moms t.moms.length) left cnt ∧ LcSo t.moms t.moms.length l left cnt ∧ Below w.heap.size w wx) (fun _ wx => wx.rangeLeft gk gr)
      case atStart => exact ⟨[], _, cnt, OwR.nil, HRG.out, HSO.out, HBG.out⟩
      case round =>
        clear HRG HSO HBG
        obtain ⟨l, left, cnt, hO, hR, hL, hB⟩ := hrel
        have HO := Lib.hid hO
        have HL := Lib.hid hL
        have HB := Lib.hid hB
        have hsz := hB.size
        have hgr2 : gr < wr.heap.size := hR.lt
        have hle : cnt = wr.rangeLeft gk gr := hR.left_eq.symm
        have hll := hL.len
        rcases OwRg.next m_spot spot_inv hR 0 with ⟨hz, hrun⟩ | ⟨x, y, w2, cnt', hx, hlf, hMx, hrun, hR2, hlt2, hg2, hs2, hent⟩
        · obtain ⟨hm, hok⟩ := HL.out.done SO.out (fun x hx => hz x hx)
          have HM := Lib.hid hm
          have HK := Lib.hid hok
          have HA := Lib.hid hL.apart
          clear hm hok hz hR hL hO hB HL hle
          go_wp2_with fail
          clear hrun
          refine (lcSort_calls gk _ l (lcN t.moms t.moms.length) _ HO.out HA.out HK.out (lcN_sorted _ _) HM.out (by omega)).mono ?_; rintro e w5 ⟨rfl, hO5, hb5⟩
          have HO5 := Lib.hid (hO5.lower (lo' := w.heap.size) (by omega))
          have HB5 := Lib.hid (bl_trans9' HB.out hb5 (by omega))
          clear hO5 hb5
          go_wp2
          go_ret
          rw [HR.out]
          exact ⟨_, rfl, HO5.out, HB5.out⟩
        · obtain ⟨x1, x2⟩ := x
          obtain ⟨A6, c6, rfl, -⟩ := hO.cap
          replace hrun : (Instr.next (.pointer (some ⟨gr, 0, none⟩)) false 0).run Try.prog wr = .ok (.tuple #[.bool true, .agg #[.int .i64 x1, .int .i64 x2], .int .i64 y]) w2 := hrun
          replace hent : (Instr.entry (.pointer (some ⟨gr, 0, none⟩))).run Try.prog w2 = .ok (.tuple #[.agg #[.int .i64 x1, .int .i64 x2], .int .i64 y]) w2 := hent
          have HN := Lib.hid (HL.out.push hlf hMx hlt2)
          have hb2 : Below gr wr w2 := ⟨hg2.os, hg2.tape, hg2.output, hg2.size, fun k hk => hg2.block k (by omega) (fun e => by cases e; omega)⟩
          have HO2 := Lib.hid (hO.grown hg2 (fun b hb hh => by obtain ⟨N, F, hBk⟩ := hO.block hb; exact (hR.ne hBk).2 (Option.some.inj hh).symm))
          have HB2 := Lib.hid (bl_trans9' hB hb2 (by omega))
          have HR2 := Lib.hid hR2
          have HLE := Lib.hid hle
          have HLT := Lib.hid hlt2
          have hs3 : gr < w2.heap.size := by omega
          obtain ⟨nl, hnl⟩ : ∃ nl, l.length = nl := ⟨_, rfl⟩
          have HNL := Lib.hid hnl
          clear hR hO hB hb2 hg2 hR2 hlf hMx HO HB HL hle hlt2 hx hL
          rw [hnl] at hll HO2 ⊢
          clear hnl
          go_upto_region 14 with fail
          clear hrun hent
          have s0 : (w2.alloc (.cells #[.int .i64 x1, .int .i64 x2] 161)).cell? ⟨w2.heap.size, 0, none⟩ = some (.int .i64 x1) := by go_simp
          have s1 : (w2.alloc (.cells #[.int .i64 x1, .int .i64 x2] 161)).cell? ⟨w2.heap.size, 1, none⟩ = some (.int .i64 x2) := by go_simp
          have hbl : Below w2.heap.size w2 (w2.alloc (.cells #[.int .i64 x1, .int .i64 x2] 161)) := bl_alloc (Below.refl _ _) _
          generalize World.alloc w2 _ = W3 at s0 s1 hbl ⊢
          rw [hs2] at s0 s1
          replace HO2 := Lib.hid (HO2.out.later hbl); replace HB2 := Lib.hid (bl_then HB2.out hbl); replace HR2 := Lib.hid (HR2.out.later hbl); clear hbl
          have hs4 : gr < W3.heap.size := HR2.out.lt
          have hs5 : w.heap.size ≤ W3.heap.size := HB2.out.size
          go_wp2_with (at_builtin; refine stopped ?_)
          unfold Stopped
          refine wpList_append1 _ (by rfl) _ _ 95 (by rfl) gk 94 _ 3 24 Try.underlying95 i_lc1 rfl (by omega) _ nl _ (lcC (l ++ [⟨x1, x2, y⟩])) (by rfl) HO2.out [.int .i64 x1, .int .i64 x2, .int .i64 y] rfl (by simp [Value.oneCell']) (by rfl) (fun i hi j _ => (lcC_old l _ (by rw [HNL.out]; exact hi) j).symm) ?hN (by omega) (by omega) (by omega) ?_
          case hN =>
            intro j hj
            have h := fun j => lcC_last l ⟨x1, x2, y⟩ j
            rw [HNL.out] at h
            rw [h]
            match j, hj with
            | 0, _ => rfl
            | 1, _ => rfl
            | 2, _ => rfl
          intro ga cap w5 hO5 hG5 _ _
          have HO5 := Lib.hid hO5
          have HR5 := Lib.hid (HR2.out.kept hG5 (fun hh => by obtain ⟨N, F, hBk⟩ := HO2.out.block hh.symm; exact (HR2.out.ne hBk).1 rfl) (fun hh => by obtain ⟨N, F, hBk⟩ := HO2.out.block hh.symm; exact (HR2.out.ne hBk).2 rfl))
          have HB5 := Lib.hid (bl_own HB2.out hs5 (HO2.out.lower (lo' := w.heap.size) (by omega)) hG5)
          have HME : Hid (w5.rangeLeft gk gr < wr.rangeLeft gk gr) := Lib.hid (by rw [HR5.out.left_eq, ← HLE.out]; exact HLT.out)
          clear hO5 hG5 s0 s1
          go_wp2
          go_roundw
          case rel => exact ⟨l ++ [⟨x1, x2, y⟩], _, cnt', by rw [List.length_append, HNL.out]; exact HO5.out, HR5.out, HN.out, HB5.out⟩
          case measure => exact HME.out
theorem impl_LineCounts_calls (v1 v2 : Value) (t : PTr) (w : World) (h : RdTr w v1 v2 t) (hsm : smTr t) :
    Calls Try.prog 80 #[.agg #[v1, v2]] w (OwRet w 94 3 (lcP t).length (lcC (lcP t))) := by
  cases hs : soundP t with
  | false => exact impl_LineCounts_bad v1 v2 t w h hsm hs
  | true => exact impl_LineCounts_good v1 v2 t w h hsm hs
end Go.Proofs.Ytcklnjjbhngbcaa
