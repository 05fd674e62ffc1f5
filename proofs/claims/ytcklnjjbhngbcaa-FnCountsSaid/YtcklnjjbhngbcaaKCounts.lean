/- FnCounts's walk. -/
import Derived.Test.YtcklnjjbhngbcaaG4
import Derived.Test.YtcklnjjbhngbcaaL11
import Derived.Test.YtcklnjjbhngbcaaL12
import Derived.Test.YtcklnjjbhngbcaaI13M
import Derived.Test.YtcklnjjbhngbcaaI8
import Derived.Test.YtcklnjjbhngbcaaT12M
import Derived.Deep.QuietTactic
import Derived.BigQuiet
namespace Go.Proofs.Ytcklnjjbhngbcaa
open Go.RowKit Go.Proofs.Lens Go.ChangeShapes Go.WideShapes

def lastP (l : List PLc) (q : Nat) : PLc := if q = 0 then ⟨-1, 0, 0⟩ else elt l (q - 1)
def lastF (l : List PLc) (q j : Nat) : Value := lcC [lastP l q] 0 j
theorem lastF_set (l : List PLc) (q : Nat) (f : Nat → Value) {j : Nat} (hj : j < 3) : upd (upd (upd f 0 (.int .i64 (elt l q).fn)) 1 (.int .i64 (elt l q).line)) 2 (.int .i64 (elt l q).cnt) j = lastF l (q + 1) j := by
  have e : lastP l (q + 1) = elt l q := by unfold lastP; rw [if_neg (by omega)]; rfl
  unfold lastF
  rw [e]
  match j, hj with
  | 0, _ => rfl
  | 1, _ => rfl
  | 2, _ => rfl
theorem last_ord {l : List PLc} {n : Int} (h : LcRead l n) {q : Nat} (hq : q < l.length) : (lastP l q).fn < (elt l q).fn ∨ ((lastP l q).fn = (elt l q).fn ∧ (lastP l q).line < (elt l q).line) := by
  unfold lastP
  by_cases h0 : q = 0
  · subst h0
    have := h.pos 0 hq
    left
    show (-1 : Int) < _
    omega
  · rw [if_neg h0]
    have := h.ord (q - 1) (by omega)
    rw [show q - 1 + 1 = q by omega] at this
    exact this
set_option maxRecDepth 100000 in
set_option maxHeartbeats 20000000 in
theorem counts_law (u1 : Value) (code : List Nat) (w : World) (hr : RdBytes w u1 code) :
    Calls Try.prog 23 #[u1] w fun e w' => e = .returned (.bool true) ∧ Below w.heap.size w w' := by
  have HR := Lib.hid hr
  obtain ⟨A0, c0, rfl, hn0, -⟩ := hr.open'
  clear hr
  by_cases hbig : 1048576 < code.length
  · have hd : decide ((code.length : Int) > 1048576) = true := by simp; omega
    go_enter Try.func23, Try.ntmps23
    go_wp2
    go_ret
    exact ⟨rfl, Below.refl _ _⟩
  have hd : decide ((code.length : Int) > 1048576) = false := by simp; omega
  have hcode : code.length ≤ 1048576 := by omega
  have hso := drawnT_sound hcode
  have hn := drawnT_len hcode
  have hsm := sm_sound hso
  have hrd : ∀ (W : World) (gs lo : Nat) (v2 : Value), Blk W gs 9 4 strsF → BMoms W lo v2 (drawnT code).moms → RdTr W (.slice (some ⟨gs, 0, none⟩) 4 4) v2 (drawnT code) := fun W gs lo v2 a b => drawn_rd a b
  have HDC := Lib.hid (drawn_calls _ code w HR.out hcode)
  obtain ⟨t, ht⟩ : ∃ t, drawnT code = t := ⟨_, rfl⟩
  rw [ht] at hso hn hsm hrd HDC
  have HLR := Lib.hid (lc_read hso)
  have HFR := Lib.hid (fc_read hso)
  have HCR := Lib.hid (ct_read hso)
  have HLP : Hid (lcP t = lcN t.moms t.moms.length) := Lib.hid (by unfold lcP; rw [hso.is]; rfl)
  have HFP : Hid (fcP t = fcList (fcN t.moms t.moms.length) t.fns.length) := Lib.hid (by unfold fcP; rw [hso.is]; rfl)
  have HCP : Hid (ctP t = (ctN t.moms t.moms.length).br) := Lib.hid (by unfold ctP; rw [hso.is]; rfl)
  have HRD := Lib.hid hrd
  have HSM := Lib.hid hsm
  obtain ⟨n, hnn⟩ : ∃ n, t.moms.length = n := ⟨_, rfl⟩
  rw [hnn] at hn HLR HFR HCR HLP HFP HCP
  have HNN := Lib.hid hnn
  clear hso hsm hrd ht hnn hbig
  go_enter Try.func23, Try.ntmps23
  go_wp2_with fail
  refine HDC.out.mono ?_; rintro e w1 ⟨gs, v2, rfl, hgs, hS, hM, hb⟩
  obtain ⟨A2, c2, rfl, -⟩ := hM.cap
  rw [HNN.out] at hM ⊢
  have HRT := Lib.hid (HRD.out _ _ _ _ hS hM)
  have HB := Lib.hid hb
  clear hS hM hb HDC HRD
  go_upto_region 4 with fail
  have HX := Lib.hid (BoxAt.new w1 [.slice (some ⟨gs, 0, none⟩) 4 4, .slice A2 n c2] 35)
  have HQ := Lib.hid (bl_alloc (Below.refl _ w1) (.cells #[.slice (some ⟨gs, 0, none⟩) 4 4, .slice A2 n c2] 35))
  generalize World.alloc w1 _ = W at HX HQ ⊢
  have hlr : Below w1.heap.size w1 W := HQ.out
  clear HQ
  replace HB := Lib.hid (bl_then HB.out hlr); replace HRT := Lib.hid (HRT.out.later hlr); clear hlr
  obtain ⟨x0, x1⟩ := HX.out.open2
  have hsx : w1.heap.size < W.heap.size := World.block_lt_of_cell? _ _ x0
  go_wp2_with fail
  clear x0 x1
  go_loopw [4, 5, 30] (fun s4 s5 i wr => ∃ q : Nat, q ≤ n ∧ i = .int .i64 q ∧ s4 = .int .i64 (lnN t.moms q) ∧ s5 = .int .i64 (clN t.moms q) ∧ Below W.heap.size W wr) (fun _ _ i _ => n - (intOf i).toNat)
  case atStart => exact ⟨0, by omega, rfl, rfl, rfl, Below.refl _ _⟩
  case round =>
    obtain ⟨q, hq, rfl, rfl, rfl, hb⟩ := hrel
    have HWr := Lib.hid hb
    have HRr := Lib.hid (HRT.out.later hb)
    have HXr := Lib.hid (HX.out.later hb)
    have hl := lnN_bd t.moms q
    have hc := clN_bd t.moms q
    clear hb
    by_cases hqn : q < n
    · obtain ⟨b, o, vk, hA, d0, d1, d2, d3, d4, d5, hvk⟩ := rd_moment HRr.out.2 (by rw [HNN.out]; exact hqn)
      obtain ⟨Av, cv, rfl, -⟩ := hvk
      have HA := Lib.hid hA
      subst hA
      go_upto_region 9 with fail
      generalize hW2 : World.alloc wr _ = W2
      have hbl : Below wr.heap.size wr W2 := by rw [← hW2]; exact bl_alloc (Below.refl _ _) _
      have y0 : W2.cell? ⟨wr.heap.size, 0, none⟩ = some (.int .i64 (elt t.moms q).kind) := by rw [← hW2]; clear hW2; go_simp
      have y1 : W2.cell? ⟨wr.heap.size, 1, none⟩ = some (.int .i64 (elt t.moms q).task) := by rw [← hW2]; clear hW2; go_simp
      have y2 : W2.cell? ⟨wr.heap.size, 2, none⟩ = some (.int .i64 (elt t.moms q).fn) := by rw [← hW2]; clear hW2; go_simp
      have y3 : W2.cell? ⟨wr.heap.size, 3, none⟩ = some (.int .i64 (elt t.moms q).line) := by rw [← hW2]; clear hW2; go_simp
      have y4 : W2.cell? ⟨wr.heap.size, 4, none⟩ = some (.string (elt t.moms q).text) := by rw [← hW2]; clear hW2; go_simp
      have y5 : W2.cell? ⟨wr.heap.size, 5, none⟩ = some (.slice Av (elt t.moms q).vars.length cv) := by rw [← hW2]; clear hW2; go_simp
      clear hW2
      replace HWr := Lib.hid (bl_then HWr.out hbl)
      clear d0 d1 d2 d3 d4 d5 HA hbl
      have HE1 : Hid (lnN t.moms (q + 1) = if (elt t.moms q).kind = 1 then lnN t.moms q + 1 else lnN t.moms q) := Lib.hid rfl
      have HE2 : Hid (clN t.moms (q + 1) = if (elt t.moms q).kind = 2 then clN t.moms q + 1 else clN t.moms q) := Lib.hid rfl
      generalize lnN t.moms q = a at hl HE1 ⊢
      generalize clN t.moms q = c at hc HE2 ⊢
      by_cases k1 : (elt t.moms q).kind = 1
      · have q1 : ((elt t.moms q).kind == 1) = true := by simp [k1]
        have q2 : ((elt t.moms q).kind == 2) = false := by simp [k1]
        have HF1 : Hid (lnN t.moms (q + 1) = a + 1) := Lib.hid (by rw [HE1.out, if_pos k1])
        have HF2 : Hid (clN t.moms (q + 1) = c) := Lib.hid (by rw [HE2.out, if_neg (by omega)])
        clear k1 HE1 HE2
        go_wp2
        go_roundw
        case rel => exact ⟨q + 1, by omega, by go_num, by rw [HF1.out], by rw [HF2.out], HWr.out⟩
        case measure => simp [intOf]; omega
      · have q1 : ((elt t.moms q).kind == 1) = false := by simp [k1]
        by_cases k2 : (elt t.moms q).kind = 2
        · have q2 : ((elt t.moms q).kind == 2) = true := by simp [k2]
          have HF1 : Hid (lnN t.moms (q + 1) = a) := Lib.hid (by rw [HE1.out, if_neg k1])
          have HF2 : Hid (clN t.moms (q + 1) = c + 1) := Lib.hid (by rw [HE2.out, if_pos k2])
          clear k1 k2 HE1 HE2
          go_wp2
          go_roundw
          case rel => exact ⟨q + 1, by omega, by go_num, by rw [HF1.out], by rw [HF2.out], HWr.out⟩
          case measure => simp [intOf]; omega
        · have q2 : ((elt t.moms q).kind == 2) = false := by simp [k2]
          have HF1 : Hid (lnN t.moms (q + 1) = a) := Lib.hid (by rw [HE1.out, if_neg k1])
          have HF2 : Hid (clN t.moms (q + 1) = c) := Lib.hid (by rw [HE2.out, if_neg k2])
          clear k1 k2 HE1 HE2
          go_wp2
          go_roundw
          case rel => exact ⟨q + 1, by omega, by go_num, by rw [HF1.out], by rw [HF2.out], HWr.out⟩
          case measure => simp [intOf]; omega
    · obtain rfl : q = n := by omega
      obtain ⟨a, ha⟩ : ∃ a, lnN t.moms q = a := ⟨_, rfl⟩
      obtain ⟨c, hcc⟩ : ∃ c, clN t.moms q = c := ⟨_, rfl⟩
      rw [ha] at hl HLR HFR HCR ⊢
      rw [hcc] at hc HFR HCR ⊢
      clear ha hcc
      obtain ⟨x0, x1⟩ := HXr.out.open2
      go_upto_region 16 with fail
      obtain ⟨L, hL⟩ : ∃ L, lcN t.moms q = L := ⟨_, rfl⟩
      obtain ⟨F, hF⟩ : ∃ F, fcList (fcN t.moms q) t.fns.length = F := ⟨_, rfl⟩
      obtain ⟨T, hT⟩ : ∃ T, (ctN t.moms q).br = T := ⟨_, rfl⟩
      rw [hL] at HLP HLR
      rw [hF] at HFP HFR
      rw [hT] at HCP HCR
      clear hL hF hT x0 x1
      have HKB : Hid (Blk (wr.alloc (.cells #[.int .i64 (-1), .int .i64 0, .int .i64 0] 94)) wr.heap.size 94 3 (lastF L 0)) := Lib.hid ((Blk.made wr #[.int .i64 (-1), .int .i64 0, .int .i64 0] 94).congr (fun j hj => by
        match j, hj with
        | 0, _ => rfl
        | 1, _ => rfl
        | 2, _ => rfl))
      have hbl : Below wr.heap.size wr (wr.alloc (.cells #[.int .i64 (-1), .int .i64 0, .int .i64 0] 94)) := bl_alloc (Below.refl _ _) _
      generalize World.alloc wr _ = W5 at HKB hbl ⊢
      have hWlb : W.heap.size ≤ wr.heap.size := HWr.out.size
      generalize hlbq : wr.heap.size = lb at HKB hWlb ⊢
      have HLQ := Lib.hid hlbq
      clear hlbq
      replace HWr := Lib.hid (bl_then HWr.out hbl)
      replace HRr := Lib.hid (HRr.out.later hbl)
      replace HXr := Lib.hid (HXr.out.later hbl)
      have hlb5 : lb < W5.heap.size := HKB.out.lt
      clear hbl
      obtain ⟨x0, x1⟩ := HXr.out.open2
      go_wp2_with fail
      clear x0 x1
      refine (impl_LineCounts_calls _ _ t _ HRr.out HSM.out).mono ?_; rintro e w6 ⟨v6, rfl, hO, hb⟩
      rw [HLP.out] at hO
      generalize W5.heap.size = lw at *
      obtain ⟨A6, c6, rfl, -⟩ := hO.cap
      have HO := Lib.hid hO
      replace HKB := Lib.hid (HKB.out.keep (hb.block lb hlb5))
      have hWlw : W.heap.size ≤ lw := by omega
      replace HWr := Lib.hid (bl_trans9 HWr.out (bl_low9 hb hWlw))
      clear hO hb HXr HRr
      obtain ⟨nl, hnl⟩ : ∃ nl, L.length = nl := ⟨_, rfl⟩
      have HNL := Lib.hid hnl
      have hnl3 : nl ≤ 3000 := by rw [← hnl]; exact HLR.out.len
      rw [hnl] at HO ⊢
      clear hnl
      go_wp2_with fail
      go_loopw [8, 49] (fun s8 i wr => ∃ k : Nat, k ≤ nl ∧ i = .int .i64 k ∧ s8 = .int .i64 (sumI PLc.cnt (L.take k)) ∧ Blk wr lb 94 3 (lastF L k) ∧ OwR wr lw 94 3 nl (lcC L) (.slice A6 nl c6) ∧ Below W.heap.size W wr) (fun _ i _ => nl - (intOf i).toNat)
      case atStart => exact ⟨0, by omega, rfl, rfl, HKB.out, HO.out, HWr.out⟩
      case round =>
        clear HKB HO HWr
        obtain ⟨k, hk, rfl, rfl, hLB, hO, hb⟩ := hrel
        have HKB := Lib.hid hLB
        have HO := Lib.hid hO
        have HWr := Lib.hid hb
        have hlbr : lb < wr.heap.size := hLB.lt
        clear hLB hO hb
        by_cases hkn : k < nl
        · obtain ⟨A', c', he, hop⟩ := OwR.open' HO.out
          cases he
          obtain ⟨b6, rfl, hb6, -, hcell, -⟩ := hop (by omega)
          have d0 : wr.cell? ⟨b6, k * 3, none⟩ = some (.int .i64 (elt L k).fn) := hcell k hkn 0 (by omega)
          have d1 : wr.cell? ⟨b6, k * 3 + 1, none⟩ = some (.int .i64 (elt L k).line) := hcell k hkn 1 (by omega)
          have d2 : wr.cell? ⟨b6, k * 3 + 2, none⟩ = some (.int .i64 (elt L k).cnt) := hcell k hkn 2 (by omega)
          have hkI : (k : Int) < (nl : Int) := by omega
          clear hcell hop
          go_upto_region 19 with fail
          clear d0 d1 d2
          have HBX : Hid (Blk (wr.alloc _) wr.heap.size 94 3 _) := Lib.hid (Blk.made wr #[.int .i64 (elt L k).fn, .int .i64 (elt L k).line, .int .i64 (elt L k).cnt] 94)
          have hbl : Below wr.heap.size wr (wr.alloc (.cells #[.int .i64 (elt L k).fn, .int .i64 (elt L k).line, .int .i64 (elt L k).cnt] 94)) := bl_alloc (Below.refl _ _) _
          generalize World.alloc wr _ = W7 at HBX hbl ⊢
          replace HWr := Lib.hid (bl_then HWr.out hbl)
          replace HKB := Lib.hid (HKB.out.later hbl); replace HO := Lib.hid (HO.out.later hbl); clear hbl
          have hpos := HLR.out.pos k (by rw [HNL.out]; exact hkn)
          have hord := last_ord HLR.out (q := k) (by rw [HNL.out]; exact hkn)
          have hpart := HLR.out.part k
          have HSU : Hid (sumI PLc.cnt (L.take (k + 1)) = sumI PLc.cnt (L.take k) + (elt L k).cnt) := Lib.hid (sumI_take PLc.cnt L (by rw [HNL.out]; exact hkn))
          have HLF := Lib.hid (fun (f : Nat → Value) (j : Nat) (hj : j < 3) => lastF_set L k f hj)
          have y0 : W7.cell? ⟨wr.heap.size, 0, none⟩ = some (.int .i64 (elt L k).fn) := HBX.out.cell (j := 0) (by simp)
          have y1 : W7.cell? ⟨wr.heap.size, 1, none⟩ = some (.int .i64 (elt L k).line) := HBX.out.cell (j := 1) (by simp)
          have y2 : W7.cell? ⟨wr.heap.size, 2, none⟩ = some (.int .i64 (elt L k).cnt) := HBX.out.cell (j := 2) (by simp)
          have z0 : W7.cell? ⟨lb, 0, none⟩ = some (.int .i64 (lastP L k).fn) := HKB.out.cell (j := 0) (by omega)
          have z1 : W7.cell? ⟨lb, 1, none⟩ = some (.int .i64 (lastP L k).line) := HKB.out.cell (j := 1) (by omega)
          have z2 : W7.cell? ⟨lb, 2, none⟩ = some (.int .i64 (lastP L k).cnt) := HKB.out.cell (j := 2) (by omega)
          have f0 := HKB.out.free 0
          have f1 := HKB.out.free 1
          have f2 := HKB.out.free 2
          have hne : ¬ wr.heap.size = lb := by omega
          have hne6 : ¬ b6 = lb := by omega
          have hob : (Value.slice (some ⟨b6, 0, none⟩) nl c6).ownBlock ≠ some lb := fun h => hne6 (Option.some.inj h)
          clear HBX
          obtain ⟨x, hx⟩ : ∃ x, elt L k = x := ⟨_, rfl⟩
          obtain ⟨g, hg⟩ : ∃ g, lastP L k = g := ⟨_, rfl⟩
          obtain ⟨sm, hsm⟩ : ∃ sm, sumI PLc.cnt (L.take k) = sm := ⟨_, rfl⟩
          rw [hx] at hpos hord HSU HLF y0 y1 y2 ⊢
          rw [hg] at hord z0 z1 z2
          rw [hsm] at hpart HSU ⊢
          clear hx hg hsm
          obtain ⟨xf, xl, xc⟩ := x
          obtain ⟨gf, gl, gc⟩ := g
          dsimp only at hpos hord HSU HLF y0 y1 y2 z0 z1 z2 ⊢
          have hA : decide (xc < 1) = false := by simp; omega
          have hxc : 0 ≤ xc ∧ xc ≤ 3000 := by omega
          have hB : decide (xf < gf) = false := by simp; omega
          by_cases hC : xf = gf
          · have hC' : (xf == gf) = true := by simp [hC]
            have hD : decide (xl ≤ gl) = false := by simp; omega
            clear hpos hord hC
            go_wp2
            go_roundw
            case rel =>
              have hset := ((HKB.out.set (j := 0) (by omega) (.int .i64 xf)).set (j := 1) (by omega) (.int .i64 xl)).set (j := 2) (by omega) (.int .i64 xc)
              refine ⟨k + 1, by omega, by go_num, by rw [HSU.out], hset.congr (fun j hj => HLF.out _ j hj), ?_, bl_set (bl_set (bl_set HWr.out (by dsimp only; omega) _) (by dsimp only; omega) _) (by dsimp only; omega) _⟩
              exact ((HO.out.far (p := ⟨lb, 0, none⟩) hob _).far (p := ⟨lb, 1, none⟩) hob _).far (p := ⟨lb, 2, none⟩) hob _
            case measure => simp [intOf]; omega
          · have hC' : (xf == gf) = false := by simp [hC]
            clear hpos hord hC
            go_wp2
            go_roundw
            case rel =>
              have hset := ((HKB.out.set (j := 0) (by omega) (.int .i64 xf)).set (j := 1) (by omega) (.int .i64 xl)).set (j := 2) (by omega) (.int .i64 xc)
              refine ⟨k + 1, by omega, by go_num, by rw [HSU.out], hset.congr (fun j hj => HLF.out _ j hj), ?_, bl_set (bl_set (bl_set HWr.out (by dsimp only; omega) _) (by dsimp only; omega) _) (by dsimp only; omega) _⟩
              exact ((HO.out.far (p := ⟨lb, 0, none⟩) hob _).far (p := ⟨lb, 1, none⟩) hob _).far (p := ⟨lb, 2, none⟩) hob _
            case measure => simp [intOf]; omega
        · obtain rfl : k = nl := by omega
          have HS8 : Hid (sumI PLc.cnt (L.take k) = a) := Lib.hid (by rw [List.take_of_length_le (by rw [HNL.out]; omega)]; exact HLR.out.all)
          rw [HS8.out]
          have HRr := Lib.hid (HRT.out.later HWr.out)
          have HXr := Lib.hid (HX.out.later HWr.out)
          clear HKB HO hk
          obtain ⟨x0, x1⟩ := HXr.out.open2
          go_wp2_with fail
          clear x0 x1
          refine (impl_FnCounts_calls _ _ t _ HRr.out HSM.out).mono ?_; rintro e w8 ⟨v8, rfl, hO, hb⟩
          rw [HFP.out] at hO
          obtain ⟨A8, c8, rfl, -⟩ := hO.cap
          have H8 := Lib.hid hO.rd
          replace HWr := Lib.hid (bl_then HWr.out hb)
          clear hO
          replace HRr := Lib.hid (HRr.out.later hb); replace HXr := Lib.hid (HXr.out.later hb); clear hb
          obtain ⟨x0, x1⟩ := HXr.out.open2
          go_wp2_with fail
          clear x0 x1
          refine (spec_FnCounts_calls _ _ t _ HRr.out HSM.out).mono ?_; rintro e w9 ⟨v9, rfl, hO, hb⟩
          rw [HFP.out] at hO
          obtain ⟨A9, c9, rfl, -⟩ := hO.cap
          have H9 := Lib.hid hO.rd
          replace H8 := Lib.hid (RdSl.later H8.out hb)
          replace HWr := Lib.hid (bl_then HWr.out hb)
          clear hO hb HRr HXr
          obtain ⟨nf, hnf⟩ : ∃ nf, F.length = nf := ⟨_, rfl⟩
          have HNF := Lib.hid hnf
          have hnf3 : nf ≤ 300 := by rw [← hnf]; exact HFR.out.len
          rw [hnf] at H8 H9 ⊢
          have hdl : ((nf : Int) != (nf : Int)) = false := by simp
          clear hnf
          go_wp2_with fail
          go_loopw [12, 13, 94] (fun s12 s13 i wr => ∃ k : Nat, k ≤ nf ∧ i = .int .i64 k ∧ s12 = .int .i64 (sumI PFc.slf (F.take k)) ∧ s13 = .int .i64 (sumI PFc.cal (F.take k)) ∧ Below w9.heap.size w9 wr) (fun _ _ i _ => nf - (intOf i).toNat)
          case atStart => exact ⟨0, by omega, rfl, rfl, rfl, Below.refl _ _⟩
          case round =>
            obtain ⟨k, hk, rfl, rfl, rfl, hb⟩ := hrel
            have HW9 := Lib.hid hb
            by_cases hkn : k < nf
            · obtain ⟨A', c', he, _, hrow⟩ := RdSl.later H8.out hb
              cases he
              obtain ⟨b8, o8, rfl, hc8⟩ := hrow (by omega)
              obtain ⟨A', c', he, _, hrow9⟩ := RdSl.later H9.out hb
              cases he
              obtain ⟨b9, o9, rfl, hc9⟩ := hrow9 (by omega)
              have d0 : wr.cell? ⟨b8, o8 + k * 4, none⟩ = some (.int .i64 (elt F k).fn) := hc8 k hkn 0 (by omega)
              have d1 : wr.cell? ⟨b8, o8 + k * 4 + 1, none⟩ = some (.int .i64 (elt F k).cal) := hc8 k hkn 1 (by omega)
              have d2 : wr.cell? ⟨b8, o8 + k * 4 + 2, none⟩ = some (.int .i64 (elt F k).slf) := hc8 k hkn 2 (by omega)
              have d3 : wr.cell? ⟨b8, o8 + k * 4 + 3, none⟩ = some (.int .i64 (elt F k).tot) := hc8 k hkn 3 (by omega)
              have e0 : wr.cell? ⟨b9, o9 + k * 4, none⟩ = some (.int .i64 (elt F k).fn) := hc9 k hkn 0 (by omega)
              have e1 : wr.cell? ⟨b9, o9 + k * 4 + 1, none⟩ = some (.int .i64 (elt F k).cal) := hc9 k hkn 1 (by omega)
              have e2 : wr.cell? ⟨b9, o9 + k * 4 + 2, none⟩ = some (.int .i64 (elt F k).slf) := hc9 k hkn 2 (by omega)
              have e3 : wr.cell? ⟨b9, o9 + k * 4 + 3, none⟩ = some (.int .i64 (elt F k).tot) := hc9 k hkn 3 (by omega)
              have hkI : (k : Int) < (nf : Int) := by omega
              have hpos := HFR.out.pos k (by rw [HNF.out]; exact hkn)
              have hp1 := HFR.out.slf k
              have hp2 := HFR.out.cal k
              have HS1 : Hid (sumI PFc.slf (F.take (k + 1)) = sumI PFc.slf (F.take k) + (elt F k).slf) := Lib.hid (sumI_take PFc.slf F (by rw [HNF.out]; exact hkn))
              have HS2 : Hid (sumI PFc.cal (F.take (k + 1)) = sumI PFc.cal (F.take k) + (elt F k).cal) := Lib.hid (sumI_take PFc.cal F (by rw [HNF.out]; exact hkn))
              clear hrow hrow9 hc8 hc9 hb
              generalize elt F k = x at *
              generalize sumI PFc.slf (F.take k) = sm1 at *
              generalize sumI PFc.cal (F.take k) = sm2 at *
              obtain ⟨x0, x1, x2, x3⟩ := x
              dsimp only at hpos HS1 HS2 d0 d1 d2 d3 e0 e1 e2 e3 ⊢
              have hA : decide (x3 < x2) = false := by simp; omega
              have hB : decide (x3 > a) = false := by simp; omega
              go_upto_region 33 with fail
              clear d0 d1 d2 d3
              have HBX : Hid (Blk (wr.alloc _) wr.heap.size 50 4 _) := Lib.hid (Blk.made wr #[.int .i64 x0, .int .i64 x1, .int .i64 x2, .int .i64 x3] 50)
              have hbl : Below wr.heap.size wr (wr.alloc (.cells #[.int .i64 x0, .int .i64 x1, .int .i64 x2, .int .i64 x3] 50)) := bl_alloc (Below.refl _ _) _
              generalize World.alloc wr _ = W10 at HBX hbl ⊢
              replace e0 := cell_later hbl e0
              replace e1 := cell_later hbl e1
              replace e2 := cell_later hbl e2
              replace e3 := cell_later hbl e3
              replace HW9 := Lib.hid (bl_then HW9.out hbl)
              have u0 : W10.cell? ⟨wr.heap.size, 0, none⟩ = some (.int .i64 x0) := HBX.out.cell (j := 0) (by simp)
              have u1 : W10.cell? ⟨wr.heap.size, 1, none⟩ = some (.int .i64 x1) := HBX.out.cell (j := 1) (by simp)
              have u2 : W10.cell? ⟨wr.heap.size, 2, none⟩ = some (.int .i64 x2) := HBX.out.cell (j := 2) (by simp)
              have u3 : W10.cell? ⟨wr.heap.size, 3, none⟩ = some (.int .i64 x3) := HBX.out.cell (j := 3) (by simp)
              clear HBX hbl
              go_upto_region 35 with fail
              go_quiet (fail)
              go_wp2
              go_roundw
              case rel => exact ⟨k + 1, by omega, by go_num, by rw [HS1.out], by rw [HS2.out], bl_drewN HW9.out _⟩
              case measure => simp [intOf]; omega
            · obtain rfl : k = nf := by omega
              have HE1 : Hid (sumI PFc.slf (F.take k) = a) := Lib.hid (by rw [List.take_of_length_le (by rw [HNF.out]; omega)]; exact HFR.out.all.1)
              have HE2 : Hid (sumI PFc.cal (F.take k) = c) := Lib.hid (by rw [List.take_of_length_le (by rw [HNF.out]; omega)]; exact HFR.out.all.2)
              rw [HE1.out, HE2.out]
              replace HWr := Lib.hid (bl_then HWr.out hb)
              have HRr := Lib.hid (HRT.out.later HWr.out)
              have HXr := Lib.hid (HX.out.later HWr.out)
              clear hk hb HW9 H8 H9
              obtain ⟨x0, x1⟩ := HXr.out.open2
              go_wp2_with fail
              clear x0 x1
              refine (impl_CallTree_calls _ _ t _ HRr.out HSM.out).mono ?_; rintro e w12 ⟨v12, rfl, hO, hb⟩
              rw [HCP.out] at hO
              obtain ⟨A12, c12, rfl, -⟩ := hO.cap
              have H12 := Lib.hid hO.rd
              replace HWr := Lib.hid (bl_then HWr.out hb)
              clear hO hb HRr HXr
              obtain ⟨nt, hnt⟩ : ∃ nt, T.length = nt := ⟨_, rfl⟩
              have HNT := Lib.hid hnt
              have hnt3 : nt ≤ 3001 := by rw [← hnt]; exact HCR.out.len
              rw [hnt] at H12 ⊢
              clear hnt
              go_wp2_with fail
              go_loopw [18, 19, 130] (fun s18 s19 i wr => ∃ k : Nat, k ≤ nt ∧ i = .int .i64 k ∧ s18 = .int .i64 (sumI PBr.slf (T.take k)) ∧ s19 = .int .i64 (sumI PBr.cal (T.take k)) ∧ Below w12.heap.size w12 wr) (fun _ _ i _ => nt - (intOf i).toNat)
              case atStart => exact ⟨0, by omega, rfl, rfl, rfl, Below.refl _ _⟩
              case round =>
                obtain ⟨k, hk, rfl, rfl, rfl, hb⟩ := hrel
                have HW9 := Lib.hid hb
                by_cases hkn : k < nt
                · obtain ⟨A', c', he, _, hrow⟩ := RdSl.later H12.out hb
                  cases he
                  obtain ⟨b8, o8, rfl, hc8⟩ := hrow (by omega)
                  have d0 : wr.cell? ⟨b8, o8 + k * 4, none⟩ = some (.int .i64 (elt T k).fn) := hc8 k hkn 0 (by omega)
                  have d1 : wr.cell? ⟨b8, o8 + k * 4 + 1, none⟩ = some (.int .i64 (elt T k).par) := hc8 k hkn 1 (by omega)
                  have d2 : wr.cell? ⟨b8, o8 + k * 4 + 2, none⟩ = some (.int .i64 (elt T k).cal) := hc8 k hkn 2 (by omega)
                  have d3 : wr.cell? ⟨b8, o8 + k * 4 + 3, none⟩ = some (.int .i64 (elt T k).slf) := hc8 k hkn 3 (by omega)
                  have hkI : (k : Int) < (nt : Int) := by omega
                  have hpos := HCR.out.pos k (by rw [HNT.out]; exact hkn)
                  have hp1 := HCR.out.slf k
                  have hp2 := HCR.out.cal k
                  have HS1 : Hid (sumI PBr.slf (T.take (k + 1)) = sumI PBr.slf (T.take k) + (elt T k).slf) := Lib.hid (sumI_take PBr.slf T (by rw [HNT.out]; exact hkn))
                  have HS2 : Hid (sumI PBr.cal (T.take (k + 1)) = sumI PBr.cal (T.take k) + (elt T k).cal) := Lib.hid (sumI_take PBr.cal T (by rw [HNT.out]; exact hkn))
                  clear hrow hc8 hb
                  generalize elt T k = x at *
                  generalize sumI PBr.slf (T.take k) = sm1 at *
                  generalize sumI PBr.cal (T.take k) = sm2 at *
                  obtain ⟨x0, x1, x2, x3⟩ := x
                  dsimp only at hpos HS1 HS2 d0 d1 d2 d3 ⊢
                  have hA : decide (x1 ≥ (k : Int)) = false := by simp; omega
                  have hB : decide (x2 < 1) = false := by simp; omega
                  go_upto_region 43 with fail
                  clear d0 d1 d2 d3
                  have HBX : Hid (Blk (wr.alloc _) wr.heap.size 52 4 _) := Lib.hid (Blk.made wr #[.int .i64 x0, .int .i64 x1, .int .i64 x2, .int .i64 x3] 52)
                  have hbl : Below wr.heap.size wr (wr.alloc (.cells #[.int .i64 x0, .int .i64 x1, .int .i64 x2, .int .i64 x3] 52)) := bl_alloc (Below.refl _ _) _
                  generalize World.alloc wr _ = W10 at HBX hbl ⊢
                  replace HW9 := Lib.hid (bl_then HW9.out hbl)
                  have u1 : W10.cell? ⟨wr.heap.size, 1, none⟩ = some (.int .i64 x1) := HBX.out.cell (j := 1) (by simp)
                  have u2 : W10.cell? ⟨wr.heap.size, 2, none⟩ = some (.int .i64 x2) := HBX.out.cell (j := 2) (by simp)
                  have u3 : W10.cell? ⟨wr.heap.size, 3, none⟩ = some (.int .i64 x3) := HBX.out.cell (j := 3) (by simp)
                  clear HBX hbl
                  go_wp2
                  go_roundw
                  case rel => exact ⟨k + 1, by omega, by go_num, by rw [HS1.out], by rw [HS2.out], HW9.out⟩
                  case measure => simp [intOf]; omega
                · obtain rfl : k = nt := by omega
                  have HE1 : Hid (sumI PBr.slf (T.take k) = a) := Lib.hid (by rw [List.take_of_length_le (by rw [HNT.out]; omega)]; exact HCR.out.all.1)
                  have HE2 : Hid (sumI PBr.cal (T.take k) = c) := Lib.hid (by rw [List.take_of_length_le (by rw [HNT.out]; omega)]; exact HCR.out.all.2)
                  rw [HE1.out, HE2.out]
                  go_wp2
                  go_ret
                  exact ⟨rfl, bl_then HB.out (bl_then HWr.out HW9.out)⟩

set_option maxRecDepth 100000 in
theorem counts_walk (H : Type) (enc : TypeId × Value → H) (W : World) (base : Nat) (args : Array Value) (ds : List (DataW H)) (ps : List MemPlace)
    (hval : ∀ (j : Nat) t v, Try.f23.params[j]? = some t → args[j]? = some v → Value.okWide Try.prog W .any base t v)
    (h : DataW.TrodAll enc Try.prog W 0 (fun _ => true) true Try.f23.params.toList args.toList ds ps) :
    Calls Try.prog 23 args W fun e W' => e = .returned (.bool true) ∧ Below W.heap.size W W' := by
  rw [Try.params23] at h hval
  obtain ⟨v0, d0, ha, _, h0⟩ := trodAll_one h
  have ha' : args = #[v0] := by simpa using ha
  subst ha'
  obtain ⟨code, hr⟩ := rd_bytes (hval 0 _ _ rfl rfl) h0
  exact counts_law v0 code W hr
end Go.Proofs.Ytcklnjjbhngbcaa
