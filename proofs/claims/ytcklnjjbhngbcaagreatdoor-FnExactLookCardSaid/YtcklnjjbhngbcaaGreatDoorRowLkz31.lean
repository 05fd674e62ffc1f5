/- Lemmas and contracts of functions that the theorem of this claim leans on (texts T7, T8, T9, T11). -/
import Derived.Deep.DeepCutAuto
import Derived.Deep.CutBlock
import Derived.Test.YtcklnjjbhngbcaaGreatDoorRowLkz30
import Derived.Test.YtcklnjjbhngbcaaGreatDoorRowLkz10
import Derived.Test.YtcklnjjbhngbcaaGreatDoorRowLkz02
import Derived.Test.YtcklnjjbhngbcaaGreatDoorRowLkz05
namespace Go.Proofs.YtcklnjjbhngbcaaGreatDoor
open Go.RowKit Go.Proofs.Lens

theorem bl_trans {lo : Nat} {a b c : World} (h : Below lo a b) (k : Below lo b c) : Below lo a c := ⟨k.os.trans h.os, k.tape.trans h.tape, k.output.trans h.output, Nat.le_trans h.size k.size, fun j hj => (k.block j hj).trans (h.block j hj)⟩
set_option maxRecDepth 100000 in
set_option maxHeartbeats 2000000 in
theorem spec_TraceOk_calls (v1 v2 : Value) (t : PTr) (w : World) (h : RdTr w v1 v2 t) (hsm : smTr t) :
    Calls Tryz.prog 28 #[.agg #[v1, v2]] w fun e w' => e = .returned (.agg #[.int .i64 (faultP t).1, .int .i64 (faultP t).2]) ∧ Below w.heap.size w w' := by
  have HT := Lib.hid h
  have HT0 := Lib.hid h
  have HSM := Lib.hid hsm
  obtain ⟨⟨A1, c1, rfl, hn1, -⟩, ⟨vv, ⟨A2, c2, rfl, hn2, -⟩, -⟩⟩ := h
  obtain ⟨⟨hs1, -⟩, ⟨hs2, -⟩⟩ := hsm
  go_enter Tryz.func28, Tryz.ntmps28
  go_upto_region 1 with fail
  generalize hW : World.alloc (World.alloc w _) _ = W
  have HB : Hid (Below w.heap.size w W) := by rw [← hW]; exact Lib.hid (by repeat (with_reducible first | exact Below.refl _ _ | exact HL.out | refine bl_drewN ?_ _ | refine bl_drew ?_ | refine bl_alloc ?_ _ | refine bl_set ?_ (by dsimp only; omega) _))
  have HX : Hid (BoxAt W w.heap.size [.slice A1 t.fns.length c1, .slice A2 t.moms.length c2]) := by rw [← hW]; exact Lib.hid ((BoxAt.new w _ _).later (bl_alloc (Below.refl _ _) _))
  have HR : Hid (Blk W (w.heap.size + 1) 62 2 (fun _ => .int .i64 0)) := by
    rw [← hW]
    have := Blk.made (w.alloc (.cells #[.slice A1 t.fns.length c1, .slice A2 t.moms.length c2] 26)) #[.int .i64 0, .int .i64 0] 62
    rw [World.size_alloc] at this
    exact Lib.hid <| this.congr fun j hj => by match j, hj with | 0, _ => rfl | 1, _ => rfl
  clear hW
  obtain ⟨x0, x1⟩ := HX.out.open2
  go_wp2_with fail
  refine (l1sizes_calls _ _ t _ (HT.out.later HB.out)).mono ?_
  rintro e w0 ⟨rfl, hb0⟩
  have hr := HR.out.later hb0
  have r0 := hr.cell (j := 0) (by omega)
  have r1 := hr.cell (j := 1) (by omega)
  have rf0 := hr.free 0
  have rf1 := hr.free 1
  have HR1 := Lib.hid hr
  have HL := Lib.hid hb0
  have HB1 := Lib.hid (bl_then HB.out HL.out)
  clear hr hb0 x0 x1
  obtain ⟨x0, x1⟩ := (HX.out.later HL.out).open2
  generalize hq : sizesOk t = q
  have HSO := Lib.hid hq
  clear hq
  cases q with
  | false =>
    go_wp2
    have hf : faultP t = (1, 0) := by unfold faultP; rw [if_pos HSO.out]
    refine bodyPost_ret (v := .agg #[.int .i64 1, .int .i64 0]) (by simp [results, Tryz.results28, go_sem, r0, r1]) rfl ⟨by rw [hf], ?_⟩
    have HL := HB1
    exact (by repeat (with_reducible first | exact Below.refl _ _ | exact HL.out | refine bl_drewN ?_ _ | refine bl_drew ?_ | refine bl_alloc ?_ _ | refine bl_set ?_ (by dsimp only; omega) _))
  | true =>
    have HT1 := Lib.hid (HT.out.later HB1.out)
    have HX1 := Lib.hid (HX.out.later HL.out)
    clear HL HB HT HX HR x0 x1
    obtain ⟨x0, x1⟩ := HX1.out.open2
    go_wp2_with fail
    go_loopw [16] (fun i wy => ∃ k : Nat, k ≤ t.moms.length ∧ i = .int .i64 k ∧ firstNZ (momCode t) (t.moms.length - 0) 0 = firstNZ (momCode t) (t.moms.length - k) k ∧ Below w0.heap.size w0 wy) (fun i _ => t.moms.length - (intOf i).toNat)
    case atStart => exact ⟨0, Nat.zero_le _, rfl, rfl, Below.refl _ _⟩
    case round =>
      obtain ⟨k, hk, rfl, hq, hb⟩ := hrel
      have HL := Lib.hid hb
      have HQ := Lib.hid hq
      clear hq
      by_cases hlt : k < t.moms.length
      · obtain ⟨b, o, vk, hA, c0, c1', c2', c3, c4, c5, hvk⟩ := rd_moment (HT1.out.2.later hb) hlt
        have HA := Lib.hid hA
        have HVK := Lib.hid hvk
        obtain ⟨Av, cv, rfl, -⟩ := hvk
        have HX2 := Lib.hid (HX1.out.later HL.out)
        have HR2 := Lib.hid (HR1.out.later HL.out)
        have HT2 := Lib.hid (HT1.out.later HL.out)
        have HB2 := Lib.hid (bl_then HB1.out HL.out)
        have hsm := HSM.out.2.2 k hlt
        have hsz : w.heap.size + 1 < wr.heap.size := HR2.out.lt
        clear hb x0 x1 r0 r1 rf0 rf1 hA
        subst A2
        obtain ⟨x0, x1⟩ := HX2.out.open2
        go_upto_region 6 with fail
        generalize hW2 : World.alloc wr _ = W2
        have hbl : Below wr.heap.size wr W2 := by rw [← hW2]; exact bl_alloc (Below.refl _ _) _
        have y0 : W2.cell? ⟨wr.heap.size, 0, none⟩ = some (.int .i64 (elt t.moms k).kind) := by rw [← hW2]; clear hW2; go_simp
        have y1 : W2.cell? ⟨wr.heap.size, 1, none⟩ = some (.int .i64 (elt t.moms k).task) := by rw [← hW2]; clear hW2; go_simp
        have y2 : W2.cell? ⟨wr.heap.size, 2, none⟩ = some (.int .i64 (elt t.moms k).fn) := by rw [← hW2]; clear hW2; go_simp
        have y3 : W2.cell? ⟨wr.heap.size, 3, none⟩ = some (.int .i64 (elt t.moms k).line) := by rw [← hW2]; clear hW2; go_simp
        have y4 : W2.cell? ⟨wr.heap.size, 4, none⟩ = some (.string (elt t.moms k).text) := by rw [← hW2]; clear hW2; go_simp
        have y5 : W2.cell? ⟨wr.heap.size, 5, none⟩ = some (.slice Av (elt t.moms k).vars.length cv) := by rw [← hW2]; clear hW2; go_simp
        have HX3 := Lib.hid (HX2.out.later hbl)
        have HR3 := Lib.hid (HR2.out.later hbl)
        have HT3 := Lib.hid (HT2.out.later hbl)
        have HV3 := Lib.hid (HVK.out.later hbl)
        have HB3 := Lib.hid (bl_then HB2.out hbl)
        have HL3 := Lib.hid (bl_then HL.out hbl)
        clear hbl hW2 x0 x1 HX2 HR2 HT2 HVK HB2 HL
        obtain ⟨x0, x1⟩ := HX3.out.open2
        go_wp2_with fail
        refine (l1moment_calls _ _ _ t (elt t.moms k) _ HT3.out HV3.out hsm hs1).mono ?_
        rintro e w1 ⟨rfl, hb⟩
        have HL2 := Lib.hid (bl_then HL3.out hb)
        have hr := HR3.out.later hb
        have r0 := hr.cell (j := 0) (by omega)
        have r1 := hr.cell (j := 1) (by omega)
        have rf0 := hr.free 0
        have rf1 := hr.free 1
        have HB4 := Lib.hid (bl_then HB3.out hb)
        generalize hmo : momOk t.fns.length (elt t.moms k) = mo
        have HMO := Lib.hid hmo
        clear hr hb x0 x1 y0 y1 y2 y3 y4 y5 c0 c1' c2' c3 c4 c5 hmo
        cases mo with
        | true =>
          go_wp2
          go_roundw
          case rel => exact ⟨k + 1, by omega, by go_num, HQ.out.trans (firstNZ_skip hlt (by unfold momCode; rw [if_pos HMO.out])), HL2.out⟩
          case measure => simp [intOf]; omega
        | false =>
          go_wp2
          have hf : faultP t = (2, (k : Int)) := by
            have h2 : firstNZ (momCode t) (t.moms.length - 0) 0 = (2, (k : Int)) := by
              rw [HQ.out, firstNZ_hit hlt (by unfold momCode; rw [if_neg (by rw [HMO.out]; simp)]; omega)]
              unfold momCode; rw [if_neg (by rw [HMO.out]; simp)]
            unfold faultP
            rw [if_neg (by rw [HSO.out]; simp), h2, if_pos (by simp)]
          refine bodyPost_ret (v := .agg #[.int .i64 2, .int .i64 k]) (by simp [results, Tryz.results28, go_sem, r0, r1]) rfl ⟨by rw [hf], ?_⟩
          have HL := HB4
          exact (by repeat (with_reducible first | exact Below.refl _ _ | exact HL.out | refine bl_drewN ?_ _ | refine bl_drew ?_ | refine bl_alloc ?_ _ | refine bl_set ?_ (by dsimp only; omega) _))
      · obtain rfl : k = t.moms.length := by omega
        clear hb x0 x1 r0 r1
        have HT2 := Lib.hid (HT1.out.later HL.out)
        have HX2 := Lib.hid (HX1.out.later HL.out)
        have HR2 := Lib.hid (HR1.out.later HL.out)
        have HB2 := Lib.hid (bl_then HB1.out HL.out)
        have HQ2 : Hid (firstNZ (momCode t) (t.moms.length - 0) 0 = (0, 0)) := Lib.hid (HQ.out.trans firstNZ_end)
        clear HB1 HX1 HR1 HQ HT1 rf0 rf1 HL
        obtain ⟨x0, x1⟩ := HX2.out.open2
        go_wp2_with fail
        refine (l1begin_calls _).mono ?_
        rintro e w1 ⟨g, T, f, rfl, hW, hb⟩
        have HW := Lib.hid hW
        have HL1 := Lib.hid hb
        have HX3 := Lib.hid (HX2.out.later hb)
        clear hW hb x0 x1
        obtain ⟨x0, x1⟩ := HX3.out.open2
        go_wp2_with fail
        go_loopw [32] (fun i wz => ∃ (k : Nat) (f : Nat → Value), k ≤ t.moms.length ∧ i = .int .i64 k ∧ firstNZ (moveCode t) (t.moms.length - 0) 0 = firstNZ (moveCode t) (t.moms.length - k) k ∧
          Inv (stN t.moms k) k ∧ IsS wz wr.heap.size g T (stN t.moms k) f ∧ Below wr.heap.size wr wz) (fun i _ => t.moms.length - (intOf i).toNat)
        case atStart => exact ⟨0, f, Nat.zero_le _, rfl, rfl, inv0, HW.out, HL1.out⟩
        case round =>
          obtain ⟨k, f, hk, rfl, hq, hinv, hW, hb⟩ := hrel
          have HQ := Lib.hid hq
          have HI := Lib.hid hinv
          have HW := Lib.hid hW
          have HL := Lib.hid hb
          clear hq hinv hW hb x0 x1
          by_cases hlt : k < t.moms.length
          · have HM := Lib.hid (HT2.out.2.later HL.out)
            obtain ⟨b, o, vk, hA, c0, c1', c2', c3, c4, c5, hvk⟩ := rd_moment HM.out hlt
            have HA := Lib.hid hA
            obtain ⟨Av, cv, rfl, -⟩ := hvk
            clear hA
            subst A2
            go_upto_region 13 with fail
            generalize hW2 : World.alloc wr _ = W2
            have hbl : Below wr.heap.size wr W2 := by rw [← hW2]; exact bl_alloc (Below.refl _ _) _
            have y0 : W2.cell? ⟨wr.heap.size, 0, none⟩ = some (.int .i64 (elt t.moms k).kind) := by rw [← hW2]; clear hW2; go_simp
            have y1 : W2.cell? ⟨wr.heap.size, 1, none⟩ = some (.int .i64 (elt t.moms k).task) := by rw [← hW2]; clear hW2; go_simp
            have y2 : W2.cell? ⟨wr.heap.size, 2, none⟩ = some (.int .i64 (elt t.moms k).fn) := by rw [← hW2]; clear hW2; go_simp
            have y3 : W2.cell? ⟨wr.heap.size, 3, none⟩ = some (.int .i64 (elt t.moms k).line) := by rw [← hW2]; clear hW2; go_simp
            have y4 : W2.cell? ⟨wr.heap.size, 4, none⟩ = some (.string (elt t.moms k).text) := by rw [← hW2]; clear hW2; go_simp
            have y5 : W2.cell? ⟨wr.heap.size, 5, none⟩ = some (.slice Av (elt t.moms k).vars.length cv) := by rw [← hW2]; clear hW2; go_simp
            have HS2 := Lib.hid (HW.out.later hbl)
            have HL2 := Lib.hid (bl_then HL.out hbl)
            clear hbl hW2
            go_wp2_with fail
            refine (move_calls _ g T _ _ (elt t.moms k) _ _ _ k k _ HS2.out HI.out).mono ?_
            rintro e w2 ⟨rfl, hb, hst⟩
            have HB3 := Lib.hid (bl_trans HL2.out hb.bl)
            have hr := HR2.out.later HB3.out
            have r0 := hr.cell (j := 0) (by omega)
            have r1 := hr.cell (j := 1) (by omega)
            have rf0 := hr.free 0
            have rf1 := hr.free 1
            have HBw := Lib.hid (bl_then HB2.out HB3.out)
            have HST := Lib.hid hst
            clear hr hb hst y0 y1 y2 y3 y4 y5 c0 c1' c2' c3 c4 c5
            have HMC : Hid (moveCode t k = checkP (stN t.moms k) (elt t.moms k)) := Lib.hid rfl
            generalize hcc : checkP (stN t.moms k) (elt t.moms k) = cc at HMC HST
            have HCC := Lib.hid hcc
            clear hcc
            by_cases hz : cc = 0
            · have hd : (cc != 0) = false := by simp [hz]
              have HZ := Lib.hid hz
              clear hz r0 r1 rf0 rf1
              have hmo : momOk t.fns.length (elt t.moms k) = true := by
                have := firstNZ_zero (f := momCode t) (d := t.moms.length - 0) (k := 0) (by rw [HQ2.out]) k (by omega) (by omega)
                unfold momCode at this
                by_cases h4 : momOk t.fns.length (elt t.moms k) = true
                · exact h4
                · rw [if_neg h4] at this; cases this
              have HI3 := Lib.hid (inv_step HI.out hmo (HCC.out.trans HZ.out))
              clear hmo
              go_wp2
              go_roundw
              case rel =>
                obtain ⟨f', hf'⟩ := HST.out HZ.out
                exact ⟨k + 1, f', by omega, by go_num, HQ.out.trans (firstNZ_skip hlt (by rw [HMC.out, HZ.out])), HI3.out, hf', HB3.out⟩
              case measure => simp [intOf]; omega
            · have hd : (cc != 0) = true := by simp [hz]
              have HZ := Lib.hid hz
              clear hz
              go_wp2
              have hf : faultP t = (cc, (k : Int)) := by
                unfold faultP
                rw [if_neg (by rw [HSO.out]; simp), HQ2.out, if_neg (by simp), HQ.out, firstNZ_hit hlt (by rw [HMC.out]; exact HZ.out), HMC.out]
              refine bodyPost_ret (v := .agg #[.int .i64 cc, .int .i64 k]) (by simp [results, Tryz.results28, go_sem, r0, r1]) rfl ⟨by rw [hf], ?_⟩
              have HL := HBw
              exact (by repeat (with_reducible first | exact Below.refl _ _ | exact HL.out | refine bl_drewN ?_ _ | refine bl_drew ?_ | refine bl_alloc ?_ _ | refine bl_set ?_ (by dsimp only; omega) _))
          · obtain rfl : k = t.moms.length := by omega
            have hr := HR2.out.later HL.out
            have r0 := hr.cell (j := 0) (by omega)
            have r1 := hr.cell (j := 1) (by omega)
            have rf0 := hr.free 0
            have rf1 := hr.free 1
            have HB3 := Lib.hid (bl_then HB2.out HL.out)
            clear hr
            go_wp2
            have hf : faultP t = (0, 0) := by
              unfold faultP
              rw [if_neg (by rw [HSO.out]; simp), HQ2.out, if_neg (by simp), HQ.out, firstNZ_end]
            refine bodyPost_ret (v := .agg #[.int .i64 0, .int .i64 0]) (by simp [results, Tryz.results28, go_sem, r0, r1]) rfl ⟨by rw [hf], ?_⟩
            have HL := HB3
            exact (by repeat (with_reducible first | exact Below.refl _ _ | exact HL.out | refine bl_drewN ?_ _ | refine bl_drew ?_ | refine bl_alloc ?_ _ | refine bl_set ?_ (by dsimp only; omega) _))
end Go.Proofs.YtcklnjjbhngbcaaGreatDoor

namespace Go.Proofs.YtcklnjjbhngbcaaGreatDoor
open Go.RowKit Go.Proofs.Lens

set_option maxRecDepth 100000 in
set_option maxHeartbeats 400000 in
theorem l1ok_calls (v1 v2 : Value) (t : PTr) (w : World) (h : RdTr w v1 v2 t) (hsm : smTr t) :
    Calls Tryz.prog 36 #[.agg #[v1, v2]] w fun e w' => e = .returned (.bool (soundP t)) ∧ Below w.heap.size w w' := by
  have HT := Lib.hid h
  have HS := Lib.hid hsm
  obtain ⟨⟨A1, c1, rfl, hn1, -⟩, ⟨vv, ⟨A2, c2, rfl, hn2, -⟩, -⟩⟩ := h
  clear hsm
  go_enter Tryz.func36, Tryz.ntmps36
  go_wp2_with fail
  refine (spec_TraceOk_calls _ _ t _ (HT.out.later (by repeat (with_reducible first | exact Below.refl _ _ | exact HL.out | refine bl_drewN ?_ _ | refine bl_drew ?_ | refine bl_alloc ?_ _ | refine bl_set ?_ (by dsimp only; omega) _))) HS.out).mono ?_; rintro e w1 ⟨rfl, hb⟩
  have HB := Lib.hid (bl_then (bl_alloc (Below.refl _ w) _) hb)
  clear hb
  go_wp2
  go_ret
  have HL := HB
  exact ⟨ret_bool (by unfold soundP; exact Bool.beq_eq_decide_eq _ _), (by repeat (with_reducible first | exact Below.refl _ _ | exact HL.out | refine bl_drewN ?_ _ | refine bl_drew ?_ | refine bl_alloc ?_ _ | refine bl_set ?_ (by dsimp only; omega) _))⟩
theorem l1ok_is (v1 v2 : Value) (t : PTr) (w : World) {b : Bool} (h : RdTr w v1 v2 t) (hsm : smTr t) (hs : soundP t = b) :
    Calls Tryz.prog 36 #[.agg #[v1, v2]] w fun e w' => e = .returned (.bool b) ∧ Below w.heap.size w w' := hs ▸ l1ok_calls v1 v2 t w h hsm

def StPost (w : World) (s : PS) (e : Ending) (w' : World) : Prop := ∃ g T f, e = .returned (.pointer (some ⟨g, 0, none⟩)) ∧ IsS w' w.heap.size g T s f ∧ Below w.heap.size w w'
set_option maxRecDepth 100000 in
set_option maxHeartbeats 2000000 in
theorem l1at_calls (v1 v2 : Value) (t : PTr) (k : Int) (w : World) (h : RdTr w v1 v2 t) (hsm : smTr t) (hg : soundP t = true) (hk0 : -1 ≤ k) (hk1 : k < t.moms.length) :
    Calls Tryz.prog 143 #[.agg #[v1, v2], .int .i64 k] w (StPost w (stN t.moms (k + 1).toNat)) := by
  have HT := Lib.hid h
  obtain ⟨⟨A1, c1, rfl, hn1, -⟩, ⟨vv, ⟨A2, c2, rfl, hn2, -⟩, -⟩⟩ := h
  obtain ⟨⟨hs1, -⟩, ⟨hs2, -⟩⟩ := hsm
  have SO := Lib.hid (sound_iff hg)
  clear hg
  go_enter Tryz.func143, Tryz.ntmps143
  go_wp2_with fail
  generalize hW : World.alloc w _ = W
  have HB : Hid (Below w.heap.size w W) := by rw [← hW]; exact Lib.hid (by repeat (with_reducible first | exact Below.refl _ _ | exact HL.out | refine bl_drewN ?_ _ | refine bl_drew ?_ | refine bl_alloc ?_ _ | refine bl_set ?_ (by dsimp only; omega) _))
  have HX : Hid (BoxAt W w.heap.size [.slice A1 t.fns.length c1, .slice A2 t.moms.length c2]) := by rw [← hW]; exact Lib.hid (BoxAt.new w _ _)
  clear hW
  refine (l1begin_calls _).mono ?_
  rintro e w1 ⟨g, T, f, rfl, hS, hb⟩
  have HW := Lib.hid hS
  have HL := Lib.hid hb
  clear hS hb
  go_wp2_with fail
  go_loopw [6] (fun i wr => ∃ (n : Nat) (f : Nat → Value), n ≤ t.moms.length ∧ (n : Int) ≤ k + 1 ∧ i = .int .i64 n ∧ IsS wr W.heap.size g T (stN t.moms n) f ∧ Below W.heap.size W wr) (fun i _ => t.moms.length - (intOf i).toNat)
  case atStart => exact ⟨0, f, Nat.zero_le _, by omega, rfl, HW.out, HL.out⟩
  case round =>
    obtain ⟨n, f, hn, hn2, rfl, hS, hb⟩ := hrel
    clear HW HL
    have HW := Lib.hid hS
    have HL := Lib.hid hb
    clear hS hb
    by_cases h1 : (n : Int) ≤ k
    · have h2 : n < t.moms.length := by omega
      have HI := Lib.hid (SO.out.inv n hn)
      have HM := Lib.hid ((HT.out.2.later HB.out).later HL.out)
      obtain ⟨b, o, vk, hA, c0, c1', c2', c3, c4, c5, hvk⟩ := rd_moment HM.out h2
      obtain ⟨Av, cv, rfl, -⟩ := hvk
      subst hA
      obtain ⟨x0, x1⟩ := (HX.out.later HL.out).open2
      go_wp2_with fail
      refine (move_calls _ g T _ _ (elt t.moms n) _ _ _ n n _ HW.out HI.out).mono ?_
      rintro e w2 ⟨rfl, hb, hst⟩
      have HL2 := Lib.hid (bl_trans HL.out hb.bl)
      have HST := Lib.hid (hst (SO.out.moves n h2))
      clear hb hst x0 x1 c0 c1' c2' c3 c4 c5
      go_wp2
      go_roundw
      case rel =>
        obtain ⟨f', hf'⟩ := HST.out
        exact ⟨n + 1, f', by omega, by omega, by go_num, hf', HL2.out⟩
      case measure => simp [intOf]; omega
    · go_wp2
      go_ret
      have e : (k + 1).toNat = n := by omega
      rw [e]
      exact ⟨g, T, f, rfl, HW.out.lower HB.out.size, bl_then HB.out HL.out⟩

set_option maxRecDepth 100000 in
set_option maxHeartbeats 2000000 in
theorem l1stand_calls (v1 v2 : Value) (t : PTr) (k : Int) (w : World) (h : RdTr w v1 v2 t) (hsm : smTr t) (hg : goodP t k = true) :
    Calls Tryz.prog 95 #[.agg #[v1, v2], .int .i64 k] w (StPost w (atP t k)) := by
  have HT := Lib.hid h
  have HS := Lib.hid hsm
  obtain ⟨⟨A1, c1, rfl, hn1, -⟩, ⟨vv, ⟨A2, c2, rfl, hn2, -⟩, -⟩⟩ := h
  obtain ⟨⟨hs1, -⟩, ⟨hs2, -⟩⟩ := hsm
  unfold goodP at hg
  rw [Bool.and_eq_true] at hg
  have hp := inB_true.1 hg.2
  have HQ := Lib.hid hg.1
  clear hg
  by_cases hk : k = t.moms.length
  · have e : atP t k = stN t.moms (k - 1 + 1).toNat := by unfold atP atN; congr 1; omega
    have hd : (k == (t.moms.length : Int)) = true := by simp [hk]
    have HE := Lib.hid e
    have hk1 : 0 ≤ k := by omega
    have hk2 : k - 1 < t.moms.length := by omega
    clear hk e
    go_enter Tryz.func95, Tryz.ntmps95
    go_wp2_with fail
    refine (l1at_calls _ _ t _ _ (HT.out.later (by repeat (with_reducible first | exact Below.refl _ _ | exact HL.out | refine bl_drewN ?_ _ | refine bl_drew ?_ | refine bl_alloc ?_ _ | refine bl_set ?_ (by dsimp only; omega) _))) HS.out HQ.out (by omega) (by omega)).mono ?_
    rintro e w1 ⟨g, T, f, rfl, hS, hb⟩
    have HW := Lib.hid (hS.lower (lo' := w.heap.size) (by simp))
    have HB := Lib.hid (bl_then (bl_alloc (Below.refl _ w) _) hb)
    clear hS hb
    go_wp2
    go_ret
    exact ⟨g, T, f, rfl, by rw [HE.out]; exact HW.out, HB.out⟩
  · have e : atP t k = stN t.moms (k + 1).toNat := by unfold atP atN; congr 1; omega
    have hd : (k == (t.moms.length : Int)) = false := by simp [hk]
    have HE := Lib.hid e
    have hk2 : k < t.moms.length := by omega
    clear hk e
    go_enter Tryz.func95, Tryz.ntmps95
    go_wp2_with fail
    refine (l1at_calls _ _ t _ _ (HT.out.later (by repeat (with_reducible first | exact Below.refl _ _ | exact HL.out | refine bl_drewN ?_ _ | refine bl_drew ?_ | refine bl_alloc ?_ _ | refine bl_set ?_ (by dsimp only; omega) _))) HS.out HQ.out (by omega) (by omega)).mono ?_
    rintro e w1 ⟨g, T, f, rfl, hS, hb⟩
    have HW := Lib.hid (hS.lower (lo' := w.heap.size) (by simp))
    have HB := Lib.hid (bl_then (bl_alloc (Below.refl _ w) _) hb)
    clear hS hb
    go_wp2
    go_ret
    exact ⟨g, T, f, rfl, by rw [HE.out]; exact HW.out, HB.out⟩

theorem IsS.mv {w w' : World} {lo lo' g T : Nat} {s : PS} {f : Nat → Value} {ts : List TypeId} (h : IsS w lo g T s f) (hm : Mv ts lo' w w') (h1 : 161 ∉ ts) (h2 : 35 ∉ ts) (h3 : 42 ∉ ts) : IsS w' lo g T s f :=
  ⟨h.lo1, h.lo2, h.blk.mv hm h1, h.tb.mv hm h2, fun i hi => (h.row i hi).mv hm h3, h.ne⟩
end Go.Proofs.YtcklnjjbhngbcaaGreatDoor

namespace Go.Proofs.YtcklnjjbhngbcaaGreatDoor
open Go.RowKit Go.Proofs.Lens

theorem IsS.at {w : World} {lo g T : Nat} {s : PS} {f : Nat → Value} (h : IsS w lo g T s f) {i : Int} (h0 : 0 ≤ i) (h1 : i ≤ 100) :
    ∃ A cap, w.cell? ⟨g, 0, none⟩ = some (.slice (some ⟨T, 0, none⟩) 101 101) ∧ w.cell? ⟨T, i.toNat, none⟩ = some (.slice A (s.stk i).length cap) ∧ (s.stk i).length ≤ cap ∧ cap ≤ 9223372036854775807 ∧
      OwR w lo 42 3 (s.stk i).length (frC (s.stk i).reverse) (.slice A (s.stk i).length cap) := by
  have hr := h.row i.toNat (by omega)
  rw [Int.toNat_of_nonneg h0] at hr
  obtain ⟨A, cap, hv, hc1, hc2⟩ := hr.cap
  rw [hv] at hr
  exact ⟨A, cap, h.blk.cell (j := 0) (by omega), (h.tb.cell (by omega)).trans (by rw [hv]), hc1, hc2, hr⟩

theorem good_cur {t : PTr} {k : Int} (h : goodP t k = true) : Inv (atP t k) (atN t k) := by
  unfold goodP at h
  rw [Bool.and_eq_true] at h
  exact (sound_iff h.1).inv _ (atN_le t k)
theorem good_bd {t : PTr} {k : Int} (h : goodP t k = true) : -1 ≤ k ∧ k ≤ t.moms.length := by
  unfold goodP at h
  rw [Bool.and_eq_true] at h
  exact inB_true.1 h.2
theorem good_sound {t : PTr} {k : Int} (h : goodP t k = true) : soundP t = true := by
  unfold goodP at h
  rw [Bool.and_eq_true] at h
  exact h.1

set_option maxRecDepth 100000 in
set_option maxHeartbeats 2000000 in
theorem l4into_calls (v1 v2 : Value) (t : PTr) (k : Int) (w : World) (h : RdTr w v1 v2 t) (hsm : smTr t) (hg : goodP t k = true) :
    Calls Tryz.prog 93 #[.agg #[v1, v2], .int .i64 k] w fun e w' => e = .returned (.int .i64 (intoP t k)) ∧ Below w.heap.size w w' := by
  have HT := Lib.hid h
  have HS := Lib.hid hsm
  obtain ⟨⟨A1, c1, rfl, hn1, -⟩, ⟨vv, ⟨A2, c2, rfl, hn2, -⟩, -⟩⟩ := h
  obtain ⟨⟨hs1, -⟩, ⟨hs2, -⟩⟩ := hsm
  obtain ⟨k0, k1⟩ := good_bd hg
  have HP : Hid (intoP t k = (firstB (intoQ t k) t.moms.length (t.moms.length - (k + 1).toNat) (k + 1).toNat : Nat)) := Lib.hid (by unfold intoP seekP; rw [if_pos hg])
  have HG := Lib.hid hg
  clear hg
  go_enter Tryz.func93, Tryz.ntmps93
  go_wp2_with fail
  refine (l1stand_calls _ _ t _ _ (HT.out.later (by repeat (with_reducible first | exact Below.refl _ _ | exact HL.out | refine bl_drewN ?_ _ | refine bl_drew ?_ | refine bl_alloc ?_ _ | refine bl_set ?_ (by dsimp only; omega) _))) HS.out HG.out).mono ?_; rintro e w1 ⟨g, T, f, rfl, hS, hb⟩
  have HX := Lib.hid ((BoxAt.new w [.slice A1 t.fns.length c1, .slice A2 t.moms.length c2] 26).later hb)
  have HB := Lib.hid (bl_then (bl_alloc (Below.refl _ w) _) hb)
  have cc : w1.cell? ⟨g, 1, none⟩ = some (.int .i64 (atP t k).cur) := hS.blk.cell (j := 1) (by omega)
  clear hb hS
  obtain ⟨x0, x1⟩ := HX.out.open2
  obtain ⟨j, hj⟩ : ∃ j : Nat, k + 1 = (j : Int) := ⟨(k + 1).toNat, by omega⟩
  have HJ := Lib.hid hj
  clear hj
  go_wp2_with fail
  go_loop [7] (fun i => ∃ n : Nat, j ≤ n ∧ i = .int .i64 n ∧ firstB (intoQ t k) t.moms.length (t.moms.length - j) j = firstB (intoQ t k) t.moms.length (t.moms.length - n) n) (fun i => t.moms.length - (intOf i).toNat)
  case atStart => exact ⟨j, Nat.le_refl _, by rw [← HJ.out], rfl⟩
  case round =>
    obtain ⟨n, hn, rfl, hq⟩ := hrel
    have HQ := Lib.hid hq
    clear hq
    by_cases h2 : n < t.moms.length
    · obtain ⟨b, o, vk, hA, c0, c1', -, -, -, -, -⟩ := rd_moment (HT.out.2.later HB.out) h2
      subst hA
      have HI : Hid (intoQ t k n = (((elt t.moms n).kind == 1) && ((elt t.moms n).task == (atP t k).cur))) := Lib.hid (by unfold intoQ; rw [Bool.beq_eq_decide_eq, Bool.beq_eq_decide_eq])
      generalize hk1 : ((elt t.moms n).kind == 1) = q1 at HI
      generalize hk2 : ((elt t.moms n).task == (atP t k).cur) = q2 at HI
      cases q1 <;> cases q2
      all_goals
        go_wp2
      · go_round
        case rel => exact ⟨n + 1, by omega, by go_num, HQ.out.trans (firstB_skip h2 HI.out)⟩
        case measure => simp [intOf]; omega
      · go_round
        case rel => exact ⟨n + 1, by omega, by go_num, HQ.out.trans (firstB_skip h2 HI.out)⟩
        case measure => simp [intOf]; omega
      · go_round
        case rel => exact ⟨n + 1, by omega, by go_num, HQ.out.trans (firstB_skip h2 HI.out)⟩
        case measure => simp [intOf]; omega
      · go_ret
        refine ⟨ret_int ?_, HB.out⟩
        rw [HP.out, HJ.out, Int.toNat_natCast, HQ.out, firstB_hit h2 HI.out]
    · go_wp2
      go_ret
      refine ⟨ret_int ?_, HB.out⟩
      rw [HP.out, HJ.out, Int.toNat_natCast, HQ.out, firstB_end (by omega)]

/-- What the reference's l4leave asks of moment i. -/
def leaveQ (t : PTr) (k kd ls : Int) (i : Nat) : Bool := decide ((elt t.moms i).kind = kd) && decide ((elt t.moms i).task = (atP t k).cur) && decide ((((stN t.moms (i + 1)).stk (atP t k).cur).length : Int) ≤ ((atP t k).stk (atP t k).cur).length - ls)
theorem over_leave (t : PTr) (k : Int) (i : Nat) : overQ t k i = leaveQ t k 1 0 i := by
  unfold overQ leaveQ
  congr 1
  apply decide_eq_decide.2
  omega
theorem out_leave (t : PTr) (k : Int) (i : Nat) : outQ t k i = leaveQ t k 3 1 i := by
  unfold outQ leaveQ
  congr 1
  apply decide_eq_decide.2
  omega
set_option maxRecDepth 100000 in
set_option maxHeartbeats 2000000 in
theorem l4leave_calls (v1 v2 : Value) (t : PTr) (k kd ls : Int) (w : World) (h : RdTr w v1 v2 t) (hsm : smTr t) (hg : goodP t k = true) (hl0 : 0 ≤ ls) (hl1 : ls ≤ 1) :
    Calls Tryz.prog 94 #[.agg #[v1, v2], .int .i64 k, .int .i64 kd, .int .i64 ls] w fun e w' => e = .returned (.int .i64 (seekP t k (leaveQ t k kd ls))) ∧ Below w.heap.size w w' := by
  have HT := Lib.hid h
  have HS := Lib.hid hsm
  obtain ⟨⟨A1, c1, rfl, hn1, -⟩, ⟨vv, ⟨A2, c2, rfl, hn2, -⟩, -⟩⟩ := h
  obtain ⟨⟨hs1, -⟩, ⟨hs2, -⟩⟩ := hsm
  obtain ⟨k0, k1⟩ := good_bd hg
  have HP : Hid (seekP t k (leaveQ t k kd ls) = (firstB (leaveQ t k kd ls) t.moms.length (t.moms.length - (k + 1).toNat) (k + 1).toNat : Nat)) := Lib.hid (by unfold seekP; rw [if_pos hg])
  have HG := Lib.hid hg
  have hi := good_cur hg
  have i0 := hi.lo
  have i1 := hi.hi
  have i2 := hi.deep (atP t k).cur
  have SO := Lib.hid (sound_iff (good_sound hg))
  clear hg hi
  go_enter Tryz.func94, Tryz.ntmps94
  go_wp2_with fail
  generalize hW : World.alloc w _ = W
  have HBW : Hid (Below w.heap.size w W) := by rw [← hW]; exact Lib.hid (by repeat (with_reducible first | exact Below.refl _ _ | exact HL.out | refine bl_drewN ?_ _ | refine bl_drew ?_ | refine bl_alloc ?_ _ | refine bl_set ?_ (by dsimp only; omega) _))
  have HX : Hid (BoxAt W w.heap.size [.slice A1 t.fns.length c1, .slice A2 t.moms.length c2]) := by rw [← hW]; exact Lib.hid (BoxAt.new w _ _)
  clear hW
  refine (l1stand_calls _ _ t _ _ (HT.out.later HBW.out) HS.out HG.out).mono ?_; rintro e w1 ⟨g, T, f, rfl, hS, hb⟩
  have HW := Lib.hid hS
  have HL := Lib.hid hb
  have cc : w1.cell? ⟨g, 1, none⟩ = some (.int .i64 (atP t k).cur) := hS.blk.cell (j := 1) (by omega)
  obtain ⟨Ad, cpd, c0, cr, -, -, -⟩ := hS.at i0 i1
  clear hb hS
  obtain ⟨x0, x1⟩ := (HX.out.later HL.out).open2
  obtain ⟨j, hj⟩ : ∃ j : Nat, k + 1 = (j : Int) := ⟨(k + 1).toNat, by omega⟩
  have HJ := Lib.hid hj
  clear hj
  have hcx : (atP t k).cur < 101 := by omega
  go_wp2_with fail
  clear x0 x1 cc c0 cr
  go_loopw [12] (fun i wr => ∃ (n : Nat) (f : Nat → Value), j ≤ n ∧ i = .int .i64 n ∧ firstB (leaveQ t k kd ls) t.moms.length (t.moms.length - j) j = firstB (leaveQ t k kd ls) t.moms.length (t.moms.length - n) n ∧
    (n ≤ t.moms.length → IsS wr W.heap.size g T (stN t.moms n) f) ∧ Below W.heap.size W wr) (fun i _ => t.moms.length - (intOf i).toNat)
  case atStart =>
    refine ⟨j, f, Nat.le_refl _, by rw [← HJ.out], rfl, fun hj => ?_, HL.out⟩
    have e : atP t k = stN t.moms j := by
      have := HJ.out
      unfold atP atN; congr 1; omega
    rw [← e]; exact HW.out
  case round =>
    obtain ⟨n, f, hn, rfl, hq, hS, hb⟩ := hrel
    clear HW HL
    have HQ := Lib.hid hq
    have HL := Lib.hid hb
    by_cases h2 : n < t.moms.length
    · have HW := Lib.hid (hS (by omega))
      clear hq hS hb
      obtain ⟨b, o, vk, hA, c0, c1', c2', c3, c4, c5, hvk⟩ := rd_moment ((HT.out.2.later HBW.out).later HL.out) h2
      obtain ⟨Av, cv, rfl, -⟩ := hvk
      subst hA
      obtain ⟨x0, x1⟩ := (HX.out.later HL.out).open2
      have hlo := HL.out.size
      go_upto_region 8 with fail
      have HMB : Hid (Blk (wr.alloc _) wr.heap.size 114 6 _) := Lib.hid (Blk.made wr #[.int .i64 (elt t.moms n).kind, .int .i64 (elt t.moms n).task, .int .i64 (elt t.moms n).fn, .int .i64 (elt t.moms n).line, .string (elt t.moms n).text, .slice Av (elt t.moms n).vars.length cv] 114)
      generalize hW2 : World.alloc wr _ = W2 at HMB ⊢
      have hbl : Below wr.heap.size wr W2 := by rw [← hW2]; exact bl_alloc (Below.refl _ _) _
      clear hW2 x0 x1 c0 c1' c2' c3 c4 c5
      have y0 : W2.cell? ⟨wr.heap.size, 0, none⟩ = some (.int .i64 (elt t.moms n).kind) := HMB.out.cell (j := 0) (by omega)
      have y1 : W2.cell? ⟨wr.heap.size, 1, none⟩ = some (.int .i64 (elt t.moms n).task) := HMB.out.cell (j := 1) (by omega)
      have y2 : W2.cell? ⟨wr.heap.size, 2, none⟩ = some (.int .i64 (elt t.moms n).fn) := HMB.out.cell (j := 2) (by omega)
      have y3 : W2.cell? ⟨wr.heap.size, 3, none⟩ = some (.int .i64 (elt t.moms n).line) := HMB.out.cell (j := 3) (by omega)
      have y4 : W2.cell? ⟨wr.heap.size, 4, none⟩ = some (.string (elt t.moms n).text) := HMB.out.cell (j := 4) (by omega)
      have y5 : W2.cell? ⟨wr.heap.size, 5, none⟩ = some (.slice Av (elt t.moms n).vars.length cv) := HMB.out.cell (j := 5) (by omega)
      have HI := Lib.hid (SO.out.inv n (by omega))
      replace HW := Lib.hid (HW.out.later hbl); replace HL := Lib.hid (bl_then HL.out hbl); clear hbl
      go_wp2_with fail
      refine (move_calls _ g T _ _ (elt t.moms n) _ _ _ n n _ HW.out HI.out).mono ?_
      rintro e w2 ⟨rfl, hb, hst⟩
      clear y0 y1 y2 y3 y4 y5
      replace HL := Lib.hid (bl_trans HL.out hb.bl)
      replace HMB := Lib.hid (HMB.out.mv hb (by decide))
      obtain ⟨f', hS'⟩ := hst (SO.out.moves n h2)
      replace hS' : IsS w2 W.heap.size g T (stN t.moms (n + 1)) f' := hS'
      clear HW
      have HW := Lib.hid hS'
      have y0 : w2.cell? ⟨wr.heap.size, 0, none⟩ = some (.int .i64 (elt t.moms n).kind) := HMB.out.cell (j := 0) (by omega)
      have y1 : w2.cell? ⟨wr.heap.size, 1, none⟩ = some (.int .i64 (elt t.moms n).task) := HMB.out.cell (j := 1) (by omega)
      obtain ⟨Ae, cpe, c0, cr, -, -, -⟩ := hS'.at i0 i1
      clear hb hS' hst
      have HI : Hid (leaveQ t k kd ls n = (((elt t.moms n).kind == kd) && ((elt t.moms n).task == (atP t k).cur) && decide ((((stN t.moms (n + 1)).stk (atP t k).cur).length : Int) ≤ ((atP t k).stk (atP t k).cur).length - ls))) := Lib.hid (by unfold leaveQ; rw [Bool.beq_eq_decide_eq, Bool.beq_eq_decide_eq])
      generalize hk1 : ((elt t.moms n).kind == kd) = q1 at HI
      generalize hk2 : ((elt t.moms n).task == (atP t k).cur) = q2 at HI
      generalize hk3 : decide ((((stN t.moms (n + 1)).stk (atP t k).cur).length : Int) ≤ ((atP t k).stk (atP t k).cur).length - ls) = q3 at HI
      cases q1 <;> cases q2 <;> cases q3
      all_goals
        go_wp2
        first
          | (go_roundw
             case rel => exact ⟨n + 1, f', by omega, by go_num, HQ.out.trans (firstB_skip h2 HI.out), fun _ => HW.out, HL.out⟩
             case measure => simp [intOf]; omega)
          | (go_ret
             refine ⟨ret_int ?_, bl_then HBW.out HL.out⟩
             rw [HP.out, HJ.out, Int.toNat_natCast, HQ.out, firstB_hit h2 HI.out])
    · clear hq hS hb
      obtain ⟨x0, x1⟩ := (HX.out.later HL.out).open2
      go_wp2
      go_ret
      refine ⟨ret_int ?_, bl_then HBW.out HL.out⟩
      rw [HP.out, HJ.out, Int.toNat_natCast, HQ.out, firstB_end (by omega)]
end Go.Proofs.YtcklnjjbhngbcaaGreatDoor

namespace Go.Proofs.YtcklnjjbhngbcaaGreatDoor
open Go.RowKit Go.Proofs.Lens

theorem l1in_is (x a b : Int) (w : World) {q : Bool} (h : inB x a b = q) : Calls Tryz.prog 137 #[.int .i64 x, .int .i64 a, .int .i64 b] w fun e w' => e = .returned (.bool q) ∧ w = w' := h ▸ l1in_calls x a b w
set_option maxRecDepth 100000 in
set_option maxHeartbeats 2000000 in
theorem l1inner_calls (v : Value) (xs : List PFr) (w : World) (h : RdFrs w v xs) (hn : xs.length ≤ 1048576) :
    Calls Tryz.prog 96 #[v] w (OwRet w 42 3 xs.length (frC xs.reverse)) := by
  have HV := Lib.hid h
  obtain ⟨A, c, rfl, hm, -⟩ := h
  go_enter Tryz.func96, Tryz.ntmps96
  go_wp2_with fail
  go_loopw [3, 4] (fun o i wr => ∃ q : Nat, q ≤ xs.length ∧ i = .int .i64 ((xs.length : Int) - 1 - q) ∧ OwR wr w.heap.size 42 3 q (frC xs.reverse) o ∧ Below w.heap.size w wr) (fun _ i _ => (intOf i + 1).toNat)
  case atStart => exact ⟨0, Nat.zero_le _, by simp, OwR.nil, Below.refl _ _⟩
  case round =>
    obtain ⟨q, hq, rfl, hO, hb⟩ := hrel
    have HO := Lib.hid hO
    have HB := Lib.hid hb
    obtain ⟨A3, c3, rfl, -⟩ := hO.cap
    have hsz := hb.size
    clear hO hb
    by_cases hlt : q < xs.length
    · obtain ⟨p, hp⟩ : ∃ p : Nat, (xs.length : Int) - 1 - q = (p : Int) := ⟨xs.length - 1 - q, by omega⟩
      have hp' : p < xs.length := by omega
      obtain ⟨A', c', he, _, hrow⟩ := HV.out.later HB.out
      obtain ⟨rfl, rfl⟩ : A = A' ∧ c = c' := by simpa using he
      obtain ⟨b, o, rfl, hc⟩ := hrow (by omega)
      have x0 : wr.cell? ⟨b, o + p * 3, none⟩ = some (.int .i64 (elt xs p).fn) := hc p hp' 0 (by omega)
      have x1 : wr.cell? ⟨b, o + p * 3 + 1, none⟩ = some (.int .i64 (elt xs p).line) := hc p hp' 1 (by omega)
      have x2 : wr.cell? ⟨b, o + p * 3 + 2, none⟩ = some (.int .i64 (elt xs p).frm) := hc p hp' 2 (by omega)
      have hpi : (p : Int) < (xs.length : Int) := by omega
      have HN : Hid (elt xs.reverse q = elt xs p) := Lib.hid (by
        rw [elt_eq (by simpa using hlt), elt_eq hp', List.getElem_reverse]
        congr 1
        omega)
      rw [hp]
      have HP := Lib.hid hp
      clear hc he hrow hp
      go_wp2_with (at_builtin; refine stopped ?_)
      unfold Stopped
      refine wpList_append1 _ (by rfl) _ _ 35 (by rfl) w.heap.size 42 _ 3 24 Tryz.underlying35 i_frame rfl (by omega) _ q _ (frC xs.reverse) (by rfl) HO.out [.int .i64 (elt xs p).fn, .int .i64 (elt xs p).line, .int .i64 (elt xs p).frm] rfl (by simp [Value.oneCell']) (by rfl) (fun _ _ _ _ => rfl) ?hN hsz (by omega) (by omega) ?_
      case hN =>
        intro j hj
        simp only [frC, HN.out]
        match j, hj with
        | 0, _ => rfl
        | 1, _ => rfl
        | 2, _ => rfl
      intro g cap w1 hO1 hG1 _ _
      go_wp2
      go_roundw
      case rel =>
        have := HP.out
        exact ⟨q + 1, by omega, by congr 1 <;> omega, hO1, bl_own HB.out hsz HO.out hG1⟩
      case measure => simp [intOf] <;> omega
    · obtain rfl : q = xs.length := by omega
      go_wp2
      go_ret
      exact ⟨_, rfl, HO.out, HB.out⟩

end Go.Proofs.YtcklnjjbhngbcaaGreatDoor
