/- The specification's TraceOk. (Turned from I3.) -/
import Derived.Test.YtcklnjjbhngbcaaT6
import Derived.Test.YtcklnjjbhngbcaaI2
import Derived.Deep.DeepCutAuto
import Derived.Deep.CutBlock
namespace Go.Proofs.Ytcklnjjbhngbcaa
open Go.RowKit Go.Proofs.Lens

theorem bl_trans {lo : Nat} {a b c : World} (h : Below lo a b) (k : Below lo b c) : Below lo a c := ⟨k.os.trans h.os, k.tape.trans h.tape, k.output.trans h.output, Nat.le_trans h.size k.size, fun j hj => (k.block j hj).trans (h.block j hj)⟩
set_option maxRecDepth 100000 in
set_option maxHeartbeats 2000000 in
theorem spec_TraceOk_calls (v1 v2 : Value) (t : PTr) (w : World) (h : RdTr w v1 v2 t) (hsm : smTr t) :
    Calls Try.prog 45 #[.agg #[v1, v2]] w fun e w' => e = .returned (.agg #[.int .i64 (faultP t).1, .int .i64 (faultP t).2]) ∧ Below w.heap.size w w' := by
  have HT := Lib.hid h
  have HT0 := Lib.hid h
  have HSM := Lib.hid hsm
  obtain ⟨⟨A1, c1, rfl, hn1, -⟩, ⟨vv, ⟨A2, c2, rfl, hn2, -⟩, -⟩⟩ := h
  obtain ⟨⟨hs1, -⟩, ⟨hs2, -⟩⟩ := hsm
  go_enter Try.func45, Try.ntmps45
  go_upto_region 1 with fail
  generalize hW : World.alloc (World.alloc w _) _ = W
  have HB : Hid (Below w.heap.size w W) := by rw [← hW]; exact Lib.hid (by repeat (with_reducible first | exact Below.refl _ _ | exact HL.out | refine bl_drewN ?_ _ | refine bl_drew ?_ | refine bl_alloc ?_ _ | refine bl_set ?_ (by dsimp only; omega) _))
  have HX : Hid (BoxAt W w.heap.size [.slice A1 t.fns.length c1, .slice A2 t.moms.length c2]) := by rw [← hW]; exact Lib.hid ((BoxAt.new w _ _).later (bl_alloc (Below.refl _ _) _))
  have HR : Hid (Blk W (w.heap.size + 1) 67 2 (fun _ => .int .i64 0)) := by
    rw [← hW]
    have := Blk.made (w.alloc (.cells #[.slice A1 t.fns.length c1, .slice A2 t.moms.length c2] 35)) #[.int .i64 0, .int .i64 0] 67
    rw [World.size_alloc] at this
    exact Lib.hid <| this.congr fun j hj => by match j, hj with | 0, _ => rfl | 1, _ => rfl
  clear hW
  obtain ⟨x0, x1⟩ := HX.out.open2
  go_wp2_with fail
  refine (l1sizes_calls _ _ t _ (HT.out.later HB.out)).mono ?_
  rintro e w0 ⟨rfl, hb0⟩
  have hr := HR.out.later hb0
  have r0 := hr.cell (j := 0) (by omega)
  have r1 := hr.cell (j := 1) (by omega)
  have rf0 := hr.free 0
  have rf1 := hr.free 1
  have HR1 := Lib.hid hr
  have HL := Lib.hid hb0
  have HB1 := Lib.hid (bl_then HB.out HL.out)
  clear hr hb0 x0 x1
  obtain ⟨x0, x1⟩ := (HX.out.later HL.out).open2
  generalize hq : sizesOk t = q
  have HSO := Lib.hid hq
  clear hq
  cases q with
  | false =>
    go_wp2
    have hf : faultP t = (1, 0) := by unfold faultP; rw [if_pos HSO.out]
    refine bodyPost_ret (v := .agg #[.int .i64 1, .int .i64 0]) (by simp [results, Try.results45, go_sem, r0, r1]) rfl ⟨by rw [hf], ?_⟩
    have HL := HB1
    exact (by repeat (with_reducible first | exact Below.refl _ _ | exact HL.out | refine bl_drewN ?_ _ | refine bl_drew ?_ | refine bl_alloc ?_ _ | refine bl_set ?_ (by dsimp only; omega) _))
  | true =>
    have HT1 := Lib.hid (HT.out.later HB1.out)
    have HX1 := Lib.hid (HX.out.later HL.out)
    clear HL HB HT HX HR x0 x1
    obtain ⟨x0, x1⟩ := HX1.out.open2
    go_wp2_with fail
    go_loopw [16] (fun i wy => ∃ k : Nat, k ≤ t.moms.length ∧ i = .int .i64 k ∧ firstNZ (momCode t) (t.moms.length - 0) 0 = firstNZ (momCode t) (t.moms.length - k) k ∧ Below w0.heap.size w0 wy) (fun i _ => t.moms.length - (intOf i).toNat)
    case atStart => exact ⟨0, Nat.zero_le _, rfl, rfl, Below.refl _ _⟩
    case round =>
      obtain ⟨k, hk, rfl, hq, hb⟩ := hrel
      have HL := Lib.hid hb
      have HQ := Lib.hid hq
      clear hq
      by_cases hlt : k < t.moms.length
      · obtain ⟨b, o, vk, hA, c0, c1', c2', c3, c4, c5, hvk⟩ := rd_moment (HT1.out.2.later hb) hlt
        have HA := Lib.hid hA
        have HVK := Lib.hid hvk
        obtain ⟨Av, cv, rfl, -⟩ := hvk
        have HX2 := Lib.hid (HX1.out.later HL.out)
        have HR2 := Lib.hid (HR1.out.later HL.out)
        have HT2 := Lib.hid (HT1.out.later HL.out)
        have HB2 := Lib.hid (bl_then HB1.out HL.out)
        have hsm := HSM.out.2.2 k hlt
        have hsz : w.heap.size + 1 < wr.heap.size := HR2.out.lt
        clear hb x0 x1 r0 r1 rf0 rf1 hA
        subst A2
        obtain ⟨x0, x1⟩ := HX2.out.open2
        go_upto_region 6 with fail
        generalize hW2 : World.alloc wr _ = W2
        have hbl : Below wr.heap.size wr W2 := by rw [← hW2]; exact bl_alloc (Below.refl _ _) _
        have y0 : W2.cell? ⟨wr.heap.size, 0, none⟩ = some (.int .i64 (elt t.moms k).kind) := by rw [← hW2]; clear hW2; go_simp
        have y1 : W2.cell? ⟨wr.heap.size, 1, none⟩ = some (.int .i64 (elt t.moms k).task) := by rw [← hW2]; clear hW2; go_simp
        have y2 : W2.cell? ⟨wr.heap.size, 2, none⟩ = some (.int .i64 (elt t.moms k).fn) := by rw [← hW2]; clear hW2; go_simp
        have y3 : W2.cell? ⟨wr.heap.size, 3, none⟩ = some (.int .i64 (elt t.moms k).line) := by rw [← hW2]; clear hW2; go_simp
        have y4 : W2.cell? ⟨wr.heap.size, 4, none⟩ = some (.string (elt t.moms k).text) := by rw [← hW2]; clear hW2; go_simp
        have y5 : W2.cell? ⟨wr.heap.size, 5, none⟩ = some (.slice Av (elt t.moms k).vars.length cv) := by rw [← hW2]; clear hW2; go_simp
        have HX3 := Lib.hid (HX2.out.later hbl)
        have HR3 := Lib.hid (HR2.out.later hbl)
        have HT3 := Lib.hid (HT2.out.later hbl)
        have HV3 := Lib.hid (HVK.out.later hbl)
        have HB3 := Lib.hid (bl_then HB2.out hbl)
        have HL3 := Lib.hid (bl_then HL.out hbl)
        clear hbl hW2 x0 x1 HX2 HR2 HT2 HVK HB2 HL
        obtain ⟨x0, x1⟩ := HX3.out.open2
        go_wp2_with fail
        refine (l1moment_calls _ _ _ t (elt t.moms k) _ HT3.out HV3.out hsm hs1).mono ?_
        rintro e w1 ⟨rfl, hb⟩
        have HL2 := Lib.hid (bl_then HL3.out hb)
        have hr := HR3.out.later hb
        have r0 := hr.cell (j := 0) (by omega)
        have r1 := hr.cell (j := 1) (by omega)
        have rf0 := hr.free 0
        have rf1 := hr.free 1
        have HB4 := Lib.hid (bl_then HB3.out hb)
        generalize hmo : momOk t.fns.length (elt t.moms k) = mo
        have HMO := Lib.hid hmo
        clear hr hb x0 x1 y0 y1 y2 y3 y4 y5 c0 c1' c2' c3 c4 c5 hmo
        cases mo with
        | true =>
          go_wp2
          go_roundw
          case rel => exact ⟨k + 1, by omega, by go_num, HQ.out.trans (firstNZ_skip hlt (by unfold momCode; rw [if_pos HMO.out])), HL2.out⟩
          case measure => simp [intOf]; omega
        | false =>
          go_wp2
          have hf : faultP t = (2, (k : Int)) := by
            have h2 : firstNZ (momCode t) (t.moms.length - 0) 0 = (2, (k : Int)) := by
              rw [HQ.out, firstNZ_hit hlt (by unfold momCode; rw [if_neg (by rw [HMO.out]; simp)]; omega)]
              unfold momCode; rw [if_neg (by rw [HMO.out]; simp)]
            unfold faultP
            rw [if_neg (by rw [HSO.out]; simp), h2, if_pos (by simp)]
          refine bodyPost_ret (v := .agg #[.int .i64 2, .int .i64 k]) (by simp [results, Try.results45, go_sem, r0, r1]) rfl ⟨by rw [hf], ?_⟩
          have HL := HB4
          exact (by repeat (with_reducible first | exact Below.refl _ _ | exact HL.out | refine bl_drewN ?_ _ | refine bl_drew ?_ | refine bl_alloc ?_ _ | refine bl_set ?_ (by dsimp only; omega) _))
      · obtain rfl : k = t.moms.length := by omega
        clear hb x0 x1 r0 r1
        have HT2 := Lib.hid (HT1.out.later HL.out)
        have HX2 := Lib.hid (HX1.out.later HL.out)
        have HR2 := Lib.hid (HR1.out.later HL.out)
        have HB2 := Lib.hid (bl_then HB1.out HL.out)
        have HQ2 : Hid (firstNZ (momCode t) (t.moms.length - 0) 0 = (0, 0)) := Lib.hid (HQ.out.trans firstNZ_end)
        clear HB1 HX1 HR1 HQ HT1 rf0 rf1 HL
        obtain ⟨x0, x1⟩ := HX2.out.open2
        go_wp2_with fail
        refine (l1begin_calls _).mono ?_
        rintro e w1 ⟨g, T, f, rfl, hW, hb⟩
        have HW := Lib.hid hW
        have HL1 := Lib.hid hb
        have HX3 := Lib.hid (HX2.out.later hb)
        clear hW hb x0 x1
        obtain ⟨x0, x1⟩ := HX3.out.open2
        go_wp2_with fail
        go_loopw [32] (fun i wz => ∃ (k : Nat) (f : Nat → Value), k ≤ t.moms.length ∧ i = .int .i64 k ∧ firstNZ (moveCode t) (t.moms.length - 0) 0 = firstNZ (moveCode t) (t.moms.length - k) k ∧
          Inv (stN t.moms k) k ∧ IsS wz wr.heap.size g T (stN t.moms k) f ∧ Below wr.heap.size wr wz) (fun i _ => t.moms.length - (intOf i).toNat)
        case atStart => exact ⟨0, f, Nat.zero_le _, rfl, rfl, inv0, HW.out, HL1.out⟩
        case round =>
          obtain ⟨k, f, hk, rfl, hq, hinv, hW, hb⟩ := hrel
          have HQ := Lib.hid hq
          have HI := Lib.hid hinv
          have HW := Lib.hid hW
          have HL := Lib.hid hb
          clear hq hinv hW hb x0 x1
          by_cases hlt : k < t.moms.length
          · have HM := Lib.hid (HT2.out.2.later HL.out)
            obtain ⟨b, o, vk, hA, c0, c1', c2', c3, c4, c5, hvk⟩ := rd_moment HM.out hlt
            have HA := Lib.hid hA
            obtain ⟨Av, cv, rfl, -⟩ := hvk
            clear hA
            subst A2
            go_upto_region 13 with fail
            generalize hW2 : World.alloc wr _ = W2
            have hbl : Below wr.heap.size wr W2 := by rw [← hW2]; exact bl_alloc (Below.refl _ _) _
            have y0 : W2.cell? ⟨wr.heap.size, 0, none⟩ = some (.int .i64 (elt t.moms k).kind) := by rw [← hW2]; clear hW2; go_simp
            have y1 : W2.cell? ⟨wr.heap.size, 1, none⟩ = some (.int .i64 (elt t.moms k).task) := by rw [← hW2]; clear hW2; go_simp
            have y2 : W2.cell? ⟨wr.heap.size, 2, none⟩ = some (.int .i64 (elt t.moms k).fn) := by rw [← hW2]; clear hW2; go_simp
            have y3 : W2.cell? ⟨wr.heap.size, 3, none⟩ = some (.int .i64 (elt t.moms k).line) := by rw [← hW2]; clear hW2; go_simp
            have y4 : W2.cell? ⟨wr.heap.size, 4, none⟩ = some (.string (elt t.moms k).text) := by rw [← hW2]; clear hW2; go_simp
            have y5 : W2.cell? ⟨wr.heap.size, 5, none⟩ = some (.slice Av (elt t.moms k).vars.length cv) := by rw [← hW2]; clear hW2; go_simp
            have HS2 := Lib.hid (HW.out.later hbl)
            have HL2 := Lib.hid (bl_then HL.out hbl)
            clear hbl hW2
            go_wp2_with fail
            refine (move_calls _ g T _ _ (elt t.moms k) _ _ _ k k _ HS2.out HI.out).mono ?_
            rintro e w2 ⟨rfl, hb, hst⟩
            have HB3 := Lib.hid (bl_trans HL2.out hb.bl)
            have hr := HR2.out.later HB3.out
            have r0 := hr.cell (j := 0) (by omega)
            have r1 := hr.cell (j := 1) (by omega)
            have rf0 := hr.free 0
            have rf1 := hr.free 1
            have HBw := Lib.hid (bl_then HB2.out HB3.out)
            have HST := Lib.hid hst
            clear hr hb hst y0 y1 y2 y3 y4 y5 c0 c1' c2' c3 c4 c5
            have HMC : Hid (moveCode t k = checkP (stN t.moms k) (elt t.moms k)) := Lib.hid rfl
            generalize hcc : checkP (stN t.moms k) (elt t.moms k) = cc at HMC HST
            have HCC := Lib.hid hcc
            clear hcc
            by_cases hz : cc = 0
            · have hd : (cc != 0) = false := by simp [hz]
              have HZ := Lib.hid hz
              clear hz r0 r1 rf0 rf1
              have hmo : momOk t.fns.length (elt t.moms k) = true := by
                have := firstNZ_zero (f := momCode t) (d := t.moms.length - 0) (k := 0) (by rw [HQ2.out]) k (by omega) (by omega)
                unfold momCode at this
                by_cases h4 : momOk t.fns.length (elt t.moms k) = true
                · exact h4
                · rw [if_neg h4] at this; cases this
              have HI3 := Lib.hid (inv_step HI.out hmo (HCC.out.trans HZ.out))
              clear hmo
              go_wp2
              go_roundw
              case rel =>
                obtain ⟨f', hf'⟩ := HST.out HZ.out
                exact ⟨k + 1, f', by omega, by go_num, HQ.out.trans (firstNZ_skip hlt (by rw [HMC.out, HZ.out])), HI3.out, hf', HB3.out⟩
              case measure => simp [intOf]; omega
            · have hd : (cc != 0) = true := by simp [hz]
              have HZ := Lib.hid hz
              clear hz
              go_wp2
              have hf : faultP t = (cc, (k : Int)) := by
                unfold faultP
                rw [if_neg (by rw [HSO.out]; simp), HQ2.out, if_neg (by simp), HQ.out, firstNZ_hit hlt (by rw [HMC.out]; exact HZ.out), HMC.out]
              refine bodyPost_ret (v := .agg #[.int .i64 cc, .int .i64 k]) (by simp [results, Try.results45, go_sem, r0, r1]) rfl ⟨by rw [hf], ?_⟩
              have HL := HBw
              exact (by repeat (with_reducible first | exact Below.refl _ _ | exact HL.out | refine bl_drewN ?_ _ | refine bl_drew ?_ | refine bl_alloc ?_ _ | refine bl_set ?_ (by dsimp only; omega) _))
          · obtain rfl : k = t.moms.length := by omega
            have hr := HR2.out.later HL.out
            have r0 := hr.cell (j := 0) (by omega)
            have r1 := hr.cell (j := 1) (by omega)
            have rf0 := hr.free 0
            have rf1 := hr.free 1
            have HB3 := Lib.hid (bl_then HB2.out HL.out)
            clear hr
            go_wp2
            have hf : faultP t = (0, 0) := by
              unfold faultP
              rw [if_neg (by rw [HSO.out]; simp), HQ2.out, if_neg (by simp), HQ.out, firstNZ_end]
            refine bodyPost_ret (v := .agg #[.int .i64 0, .int .i64 0]) (by simp [results, Try.results45, go_sem, r0, r1]) rfl ⟨by rw [hf], ?_⟩
            have HL := HB3
            exact (by repeat (with_reducible first | exact Below.refl _ _ | exact HL.out | refine bl_drewN ?_ _ | refine bl_drew ?_ | refine bl_alloc ?_ _ | refine bl_set ?_ (by dsimp only; omega) _))
end Go.Proofs.Ytcklnjjbhngbcaa
