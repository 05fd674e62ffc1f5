/- Merged out of T5, T6, T7, T8, T9, T12, T20. -/
import Derived.Test.YtcklnjjbhngbcaaGreatDoorT4
import Derived.Test.YtcklnjjbhngbcaaGreatDoorI0
import Derived.Test.YtcklnjjbhngbcaaGreatDoorI3m
import Derived.Test.YtcklnjjbhngbcaaGreatDoorI2
import Derived.Deep.DeepCutAuto
import Derived.Deep.CutBlock
import Derived.Test.YtcklnjjbhngbcaaGreatDoorP2
import Derived.Test.YtcklnjjbhngbcaaGreatDoorB6
import Derived.Test.YtcklnjjbhngbcaaGreatDoorF0
import Derived.Test.YtcklnjjbhngbcaaGreatDoorRM1
namespace Go.Proofs.YtcklnjjbhngbcaaGreatDoor
open Go.RowKit Go.Proofs.Lens

set_option maxRecDepth 100000 in
set_option maxHeartbeats 2000000 in
theorem l1sizes_calls (v1 v2 : Value) (t : PTr) (w : World) (h : RdTr w v1 v2 t) :
    Calls Tryz.prog 74 #[.agg #[v1, v2]] w fun e w' => e = .returned (.bool (sizesOk t)) ∧ Below w.heap.size w w' := by
  have HT := Lib.hid h
  obtain ⟨⟨A1, c1, rfl, hn1, -⟩, ⟨vv, ⟨A2, c2, rfl, hn2, -⟩, -⟩⟩ := h
  have HSZ := Lib.hid (sizesOk_eq t)
  go_enter Tryz.func74, Tryz.ntmps74
  go_upto_region 1 with fail
  generalize hW : World.alloc w _ = W
  have HB : Hid (Below w.heap.size w W) := by rw [← hW]; exact Lib.hid (by repeat (with_reducible first | exact Below.refl _ _ | exact HL.out | refine bl_drewN ?_ _ | refine bl_drew ?_ | refine bl_alloc ?_ _ | refine bl_set ?_ (by dsimp only; omega) _))
  have HX : Hid (BoxAt W w.heap.size [.slice A1 t.fns.length c1, .slice A2 t.moms.length c2]) := by rw [← hW]; exact Lib.hid (BoxAt.new w _ _)
  clear hW
  obtain ⟨x0, x1⟩ := HX.out.open2
  go_cut [20] (fun s wx => s = .bool (szHd t) ∧ W = wx)
  case first =>
    by_cases h0 : t.fns.length = 0
    · have hd : ((t.fns.length : Int) == 0) = true := by simp [h0]
      have H0 := Lib.hid h0
      clear h0
      go_wp2
      go_meet
      exact ⟨by unfold szHd; simp [H0.out], rfl⟩
    · have hd : ((t.fns.length : Int) == 0) = false := by rw [beq_eq_false_iff_ne]; omega
      have H0 := Lib.hid h0
      clear h0
      go_wp2
      all_goals
        go_meet
        refine ⟨congrArg Value.bool ?_, rfl⟩
        have h0 := H0.out
        go_tidy
        unfold szHd
        grind
  case rest =>
    obtain ⟨rfl, rfl⟩ := hcut
    generalize hq : szHd t = q
    have HQ := Lib.hid hq
    clear hq
    cases q with
    | true =>
      go_wp2
      go_ret
      have HL := HB
      exact ⟨ret_bool (by rw [HSZ.out, HQ.out]; rfl), (by repeat (with_reducible first | exact Below.refl _ _ | exact HL.out | refine bl_drewN ?_ _ | refine bl_drew ?_ | refine bl_alloc ?_ _ | refine bl_set ?_ (by dsimp only; omega) _))⟩
    | false =>
      go_wp2_with fail
      go_loopw [24] (fun i wr => ∃ k : Nat, k ≤ t.fns.length ∧ i = .int .i64 k ∧ fnsOk (t.fns.take k) = true ∧ Below w.heap.size w wr) (fun i _ => t.fns.length - (intOf i).toNat)
      case atStart => exact ⟨0, Nat.zero_le _, rfl, by simp [fnsOk], HB.out⟩
      case round =>
        obtain ⟨k, hk, rfl, hq, hb⟩ := hrel
        have HL := Lib.hid hb
        have HF := Lib.hid hq
        clear hq
        by_cases hlt : k < t.fns.length
        · obtain ⟨A', c', he, _, hrow⟩ := HT.out.1.later hb
          obtain ⟨rfl, rfl⟩ : A1 = A' ∧ c1 = c' := by simpa using he
          obtain ⟨b, o, rfl, hc⟩ := hrow (by omega)
          have hc0 : wr.cell? ⟨b, o + k, none⟩ = some (.string (elt t.fns k)) := by have := hc k hlt 0 (by omega); simp only [Nat.mul_one, Nat.add_zero] at this; exact this
          have HSn := Lib.hid (fnsOk_snoc t.fns k hlt)
          clear hc he hrow hb x0 x1
          by_cases hs : (elt t.fns k).size ≤ 40
          · have HS := Lib.hid hs
            go_wp2
            go_roundw
            case rel => exact ⟨k + 1, by omega, by go_num, by rw [HSn.out, HF.out]; simpa using HS.out, (by repeat (with_reducible first | exact Below.refl _ _ | exact HL.out | refine bl_drewN ?_ _ | refine bl_drew ?_ | refine bl_alloc ?_ _ | refine bl_set ?_ (by dsimp only; omega) _))⟩
            case measure => simp [intOf]; omega
          · have HS := Lib.hid hs
            go_wp2
            go_ret
            refine ⟨ret_bool ?_, (by repeat (with_reducible first | exact Below.refl _ _ | exact HL.out | refine bl_drewN ?_ _ | refine bl_drew ?_ | refine bl_alloc ?_ _ | refine bl_set ?_ (by dsimp only; omega) _))⟩
            rw [HSZ.out, HQ.out]
            have : fnsOk t.fns = false := by
              cases hh : fnsOk t.fns with
              | false => rfl
              | true =>
                unfold fnsOk at hh
                rw [List.all_eq_true] at hh
                have h3 := hh (elt t.fns k) (by rw [elt_eq hlt]; exact List.getElem_mem hlt)
                exact absurd (by simpa using h3) HS.out
            rw [this]; rfl
        · obtain rfl : k = t.fns.length := by omega
          clear hb x0 x1
          go_wp2
          go_ret
          refine ⟨ret_bool ?_, (by repeat (with_reducible first | exact Below.refl _ _ | exact HL.out | refine bl_drewN ?_ _ | refine bl_drew ?_ | refine bl_alloc ?_ _ | refine bl_set ?_ (by dsimp only; omega) _))⟩
          have := HF.out
          rw [List.take_length] at this
          rw [HSZ.out, HQ.out, this]; rfl

/-- What is wrong with a moment's head, as the specification asks it: a first and a second question. -/
def momA (nf : Nat) (m : PMom) : Bool :=
  !inB m.kind 1 7 || !inB m.task 0 100 || !inB m.fn 0 (nf - 1) || !inB m.line 0 100000 || decide (4000 < m.text.size) || decide (200 < m.vars.length)
def momB (m : PMom) : Bool := decide (m.kind = 1) && decide (m.line = 0)
theorem momHd_eq (nf : Nat) (m : PMom) : momHd nf m = !(momA nf m || momB m) := by
  unfold momHd momA momB
  cases h1 : inB m.kind 1 7 <;> cases h2 : inB m.task 0 100 <;> cases h3 : inB m.fn 0 (nf - 1) <;> cases h4 : inB m.line 0 100000 <;> simp
  have := inB_true.1 h4
  grind
end Go.Proofs.YtcklnjjbhngbcaaGreatDoor

namespace Go.Proofs.YtcklnjjbhngbcaaGreatDoor
open Go.RowKit Go.Proofs.Lens

set_option maxRecDepth 100000 in
set_option maxHeartbeats 2000000 in
theorem l1moment_calls (v1 v2 v : Value) (t : PTr) (m : PMom) (w : World) (h : RdTr w v1 v2 t) (hv : RdVars w v m.vars) (hsm : smMom m) (hfn : t.fns.length ≤ 1048576) :
    Calls Tryz.prog 75 #[.agg #[v1, v2], .agg #[.int .i64 m.kind, .int .i64 m.task, .int .i64 m.fn, .int .i64 m.line, .string m.text, v]] w fun e w' =>
      e = .returned (.bool (momOk t.fns.length m)) ∧ Below w.heap.size w w' := by
  obtain ⟨⟨A1, c1, rfl, -⟩, -⟩ := h
  have HV := Lib.hid hv
  obtain ⟨A, c, rfl, hn, hrow⟩ := hv
  obtain ⟨hs1, hs2, hs3⟩ := hsm
  have HS := Lib.hid hs3
  have HM := Lib.hid (momHd_eq t.fns.length m)
  clear hrow hs3
  go_enter Tryz.func75, Tryz.ntmps75
  go_upto_region 1 with fail
  generalize hW : World.alloc (World.alloc w _) _ = W
  have hb : Below w.heap.size w W := by rw [← hW]; exact (by repeat (with_reducible first | exact Below.refl _ _ | exact HL.out | refine bl_drewN ?_ _ | refine bl_drew ?_ | refine bl_alloc ?_ _ | refine bl_set ?_ (by dsimp only; omega) _))
  have x0 : W.cell? ⟨w.heap.size, 0, none⟩ = some (.slice A1 t.fns.length c1) := by rw [← hW]; clear hW; go_simp
  have y0 : W.cell? ⟨w.heap.size + 1, 0, none⟩ = some (.int .i64 m.kind) := by rw [← hW]; clear hW; go_simp
  have y1 : W.cell? ⟨w.heap.size + 1, 1, none⟩ = some (.int .i64 m.task) := by rw [← hW]; clear hW; go_simp
  have y2 : W.cell? ⟨w.heap.size + 1, 2, none⟩ = some (.int .i64 m.fn) := by rw [← hW]; clear hW; go_simp
  have y3 : W.cell? ⟨w.heap.size + 1, 3, none⟩ = some (.int .i64 m.line) := by rw [← hW]; clear hW; go_simp
  have y4 : W.cell? ⟨w.heap.size + 1, 4, none⟩ = some (.string m.text) := by rw [← hW]; clear hW; go_simp
  have y5 : W.cell? ⟨w.heap.size + 1, 5, none⟩ = some (.slice A m.vars.length c) := by rw [← hW]; clear hW; go_simp
  have HB := Lib.hid hb
  clear hW hb
  go_cut [44] (fun s wx => s = .bool (momA t.fns.length m) ∧ W = wx)
  case first =>
    go_wp2_with (first | (go_at_call 137; refine (l1in_calls _ _ _ _).mono ?_; rintro e w1 ⟨rfl, rfl⟩))
    all_goals
      go_meet
      refine ⟨?_, rfl⟩
      go_tidy
      congr 1
      unfold momA
      grind
  case rest =>
    obtain ⟨rfl, rfl⟩ := hcut
    generalize hq : momA t.fns.length m = q
    have HQ := Lib.hid hq
    clear hq
    cases q with
    | true =>
      go_wp2
      go_ret
      have HL := HB
      exact ⟨ret_bool (by unfold momOk; rw [HM.out, HQ.out]; rfl), (by repeat (with_reducible first | exact Below.refl _ _ | exact HL.out | refine bl_drewN ?_ _ | refine bl_drew ?_ | refine bl_alloc ?_ _ | refine bl_set ?_ (by dsimp only; omega) _))⟩
    | false =>
      go_upto_region 3 with fail
      go_cut [52] (fun s wx => s = .bool (momB m) ∧ W = wx)
      case first =>
        by_cases hk : m.kind = 1
        · have hd : (m.kind == 1) = true := by simp [hk]
          have HK := Lib.hid hk
          clear hk
          go_wp2
          all_goals
            go_meet
            refine ⟨congrArg Value.bool ?_, rfl⟩
            have := HK.out
            go_tidy
            unfold momB
            grind
        · have hd : (m.kind == 1) = false := by simp [hk]
          have HK := Lib.hid hk
          clear hk
          go_wp2
          all_goals
            go_meet
            refine ⟨congrArg Value.bool ?_, rfl⟩
            have := HK.out
            go_tidy
            unfold momB
            grind
      case rest =>
        obtain ⟨rfl, rfl⟩ := hcut
        clear x0 y0 y1 y2 y3 y4
        have HH : Hid (momHd t.fns.length m = !momB m) := Lib.hid (by rw [HM.out, HQ.out]; rfl)
        generalize hq : momB m = q at HH
        clear hq
        cases q with
        | true =>
          go_wp2
          go_ret
          have HL := HB
          exact ⟨ret_bool (by unfold momOk; rw [HH.out]; rfl), (by repeat (with_reducible first | exact Below.refl _ _ | exact HL.out | refine bl_drewN ?_ _ | refine bl_drew ?_ | refine bl_alloc ?_ _ | refine bl_set ?_ (by dsimp only; omega) _))⟩
        | false =>
          go_wp2_with fail
          clear y5
          have bad : ∀ k, k < m.vars.length → varOk (elt m.vars k) = false → momOk t.fns.length m = false := fun k hk hb => by
            have : varsOk m.vars = false := by
              cases hh : varsOk m.vars with
              | false => rfl
              | true =>
                unfold varsOk at hh
                rw [List.all_eq_true] at hh
                have h3 := hh (elt m.vars k) (by rw [elt_eq hk]; exact List.getElem_mem hk)
                rw [hb] at h3; cases h3
            unfold momOk; rw [this, Bool.and_false]
          have BAD := Lib.hid bad
          clear bad
          go_loopw [56] (fun i wr => ∃ k : Nat, k ≤ m.vars.length ∧ i = .int .i64 k ∧ varsOk (m.vars.take k) = true ∧ Below w.heap.size w wr) (fun i _ => m.vars.length - (intOf i).toNat)
          case atStart => exact ⟨0, Nat.zero_le _, rfl, by simp [varsOk], HB.out⟩
          case round =>
            obtain ⟨k, hk, rfl, hq, hb⟩ := hrel
            have HL := Lib.hid hb
            have HF := Lib.hid hq
            clear hq
            by_cases hlt : k < m.vars.length
            · obtain ⟨A', c', he, _, hrow⟩ := HV.out.later hb
              obtain ⟨rfl, rfl⟩ : A = A' ∧ c = c' := by simpa using he
              obtain ⟨b, o, rfl, hc⟩ := hrow (by omega)
              have hc0 : wr.cell? ⟨b, o + k * 2, none⟩ = some (.string (elt m.vars k).nm) := hc k hlt 0 (by omega)
              have hc1 : wr.cell? ⟨b, o + k * 2 + 1, none⟩ = some (.string (elt m.vars k).tx) := hc k hlt 1 (by omega)
              have HSn := Lib.hid (varsOk_snoc m.vars k hlt)
              obtain ⟨hz1, hz2⟩ := HS.out k hlt
              clear hc he hrow hb
              by_cases h0 : (elt m.vars k).nm.size = 0
              · have hd : (((elt m.vars k).nm.size : Int) == 0) = true := by simp [h0]
                have H0 := Lib.hid h0
                clear h0
                go_wp2
                go_ret
                exact ⟨ret_bool (BAD.out k hlt (by unfold varOk inB; simp [H0.out])).symm, (by repeat (with_reducible first | exact Below.refl _ _ | exact HL.out | refine bl_drewN ?_ _ | refine bl_drew ?_ | refine bl_alloc ?_ _ | refine bl_set ?_ (by dsimp only; omega) _))⟩
              · have hd : (((elt m.vars k).nm.size : Int) == 0) = false := by rw [beq_eq_false_iff_ne]; omega
                have H0 := Lib.hid h0
                clear h0
                go_wp2
                all_goals first
                  | (go_roundw
                     case rel =>
                       refine ⟨k + 1, by omega, by go_num, ?_, (by repeat (with_reducible first | exact Below.refl _ _ | exact HL.out | refine bl_drewN ?_ _ | refine bl_drew ?_ | refine bl_alloc ?_ _ | refine bl_set ?_ (by dsimp only; omega) _))⟩
                       rw [HSn.out, HF.out]
                       have := H0.out
                       go_tidy
                       unfold varOk inB
                       grind
                     case measure => simp [intOf]; omega)
                  | (go_ret
                     refine ⟨ret_bool (BAD.out k hlt ?_).symm, (by repeat (with_reducible first | exact Below.refl _ _ | exact HL.out | refine bl_drewN ?_ _ | refine bl_drew ?_ | refine bl_alloc ?_ _ | refine bl_set ?_ (by dsimp only; omega) _))⟩
                     go_tidy
                     unfold varOk inB
                     grind)
            · obtain rfl : k = m.vars.length := by omega
              clear hb
              go_wp2
              go_ret
              have := HF.out
              rw [List.take_length] at this
              exact ⟨ret_bool (by unfold momOk; rw [HH.out, this]; rfl), HL.out⟩
end Go.Proofs.YtcklnjjbhngbcaaGreatDoor

namespace Go.Proofs.YtcklnjjbhngbcaaGreatDoor
open Go.RowKit Go.Proofs.Lens

theorem bl_trans {lo : Nat} {a b c : World} (h : Below lo a b) (k : Below lo b c) : Below lo a c := ⟨k.os.trans h.os, k.tape.trans h.tape, k.output.trans h.output, Nat.le_trans h.size k.size, fun j hj => (k.block j hj).trans (h.block j hj)⟩
set_option maxRecDepth 100000 in
set_option maxHeartbeats 2000000 in
theorem spec_TraceOk_calls (v1 v2 : Value) (t : PTr) (w : World) (h : RdTr w v1 v2 t) (hsm : smTr t) :
    Calls Tryz.prog 28 #[.agg #[v1, v2]] w fun e w' => e = .returned (.agg #[.int .i64 (faultP t).1, .int .i64 (faultP t).2]) ∧ Below w.heap.size w w' := by
  have HT := Lib.hid h
  have HT0 := Lib.hid h
  have HSM := Lib.hid hsm
  obtain ⟨⟨A1, c1, rfl, hn1, -⟩, ⟨vv, ⟨A2, c2, rfl, hn2, -⟩, -⟩⟩ := h
  obtain ⟨⟨hs1, -⟩, ⟨hs2, -⟩⟩ := hsm
  go_enter Tryz.func28, Tryz.ntmps28
  go_upto_region 1 with fail
  generalize hW : World.alloc (World.alloc w _) _ = W
  have HB : Hid (Below w.heap.size w W) := by rw [← hW]; exact Lib.hid (by repeat (with_reducible first | exact Below.refl _ _ | exact HL.out | refine bl_drewN ?_ _ | refine bl_drew ?_ | refine bl_alloc ?_ _ | refine bl_set ?_ (by dsimp only; omega) _))
  have HX : Hid (BoxAt W w.heap.size [.slice A1 t.fns.length c1, .slice A2 t.moms.length c2]) := by rw [← hW]; exact Lib.hid ((BoxAt.new w _ _).later (bl_alloc (Below.refl _ _) _))
  have HR : Hid (Blk W (w.heap.size + 1) 62 2 (fun _ => .int .i64 0)) := by
    rw [← hW]
    have := Blk.made (w.alloc (.cells #[.slice A1 t.fns.length c1, .slice A2 t.moms.length c2] 26)) #[.int .i64 0, .int .i64 0] 62
    rw [World.size_alloc] at this
    exact Lib.hid <| this.congr fun j hj => by match j, hj with | 0, _ => rfl | 1, _ => rfl
  clear hW
  obtain ⟨x0, x1⟩ := HX.out.open2
  go_wp2_with fail
  refine (l1sizes_calls _ _ t _ (HT.out.later HB.out)).mono ?_
  rintro e w0 ⟨rfl, hb0⟩
  have hr := HR.out.later hb0
  have r0 := hr.cell (j := 0) (by omega)
  have r1 := hr.cell (j := 1) (by omega)
  have rf0 := hr.free 0
  have rf1 := hr.free 1
  have HR1 := Lib.hid hr
  have HL := Lib.hid hb0
  have HB1 := Lib.hid (bl_then HB.out HL.out)
  clear hr hb0 x0 x1
  obtain ⟨x0, x1⟩ := (HX.out.later HL.out).open2
  generalize hq : sizesOk t = q
  have HSO := Lib.hid hq
  clear hq
  cases q with
  | false =>
    go_wp2
    have hf : faultP t = (1, 0) := by unfold faultP; rw [if_pos HSO.out]
    refine bodyPost_ret (v := .agg #[.int .i64 1, .int .i64 0]) (by simp [results, Tryz.results28, go_sem, r0, r1]) rfl ⟨by rw [hf], ?_⟩
    have HL := HB1
    exact (by repeat (with_reducible first | exact Below.refl _ _ | exact HL.out | refine bl_drewN ?_ _ | refine bl_drew ?_ | refine bl_alloc ?_ _ | refine bl_set ?_ (by dsimp only; omega) _))
  | true =>
    have HT1 := Lib.hid (HT.out.later HB1.out)
    have HX1 := Lib.hid (HX.out.later HL.out)
    clear HL HB HT HX HR x0 x1
    obtain ⟨x0, x1⟩ := HX1.out.open2
    go_wp2_with fail
    go_loopw [16] (fun i wy => ∃ k : Nat, k ≤ t.moms.length ∧ i = .int .i64 k ∧ firstNZ (momCode t) (t.moms.length - 0) 0 = firstNZ (momCode t) (t.moms.length - k) k ∧ Below w0.heap.size w0 wy) (fun i _ => t.moms.length - (intOf i).toNat)
    case atStart => exact ⟨0, Nat.zero_le _, rfl, rfl, Below.refl _ _⟩
    case round =>
      obtain ⟨k, hk, rfl, hq, hb⟩ := hrel
      have HL := Lib.hid hb
      have HQ := Lib.hid hq
      clear hq
      by_cases hlt : k < t.moms.length
      · obtain ⟨b, o, vk, hA, c0, c1', c2', c3, c4, c5, hvk⟩ := rd_moment (HT1.out.2.later hb) hlt
        have HA := Lib.hid hA
        have HVK := Lib.hid hvk
        obtain ⟨Av, cv, rfl, -⟩ := hvk
        have HX2 := Lib.hid (HX1.out.later HL.out)
        have HR2 := Lib.hid (HR1.out.later HL.out)
        have HT2 := Lib.hid (HT1.out.later HL.out)
        have HB2 := Lib.hid (bl_then HB1.out HL.out)
        have hsm := HSM.out.2.2 k hlt
        have hsz : w.heap.size + 1 < wr.heap.size := HR2.out.lt
        clear hb x0 x1 r0 r1 rf0 rf1 hA
        subst A2
        obtain ⟨x0, x1⟩ := HX2.out.open2
        go_upto_region 6 with fail
        generalize hW2 : World.alloc wr _ = W2
        have hbl : Below wr.heap.size wr W2 := by rw [← hW2]; exact bl_alloc (Below.refl _ _) _
        have y0 : W2.cell? ⟨wr.heap.size, 0, none⟩ = some (.int .i64 (elt t.moms k).kind) := by rw [← hW2]; clear hW2; go_simp
        have y1 : W2.cell? ⟨wr.heap.size, 1, none⟩ = some (.int .i64 (elt t.moms k).task) := by rw [← hW2]; clear hW2; go_simp
        have y2 : W2.cell? ⟨wr.heap.size, 2, none⟩ = some (.int .i64 (elt t.moms k).fn) := by rw [← hW2]; clear hW2; go_simp
        have y3 : W2.cell? ⟨wr.heap.size, 3, none⟩ = some (.int .i64 (elt t.moms k).line) := by rw [← hW2]; clear hW2; go_simp
        have y4 : W2.cell? ⟨wr.heap.size, 4, none⟩ = some (.string (elt t.moms k).text) := by rw [← hW2]; clear hW2; go_simp
        have y5 : W2.cell? ⟨wr.heap.size, 5, none⟩ = some (.slice Av (elt t.moms k).vars.length cv) := by rw [← hW2]; clear hW2; go_simp
        have HX3 := Lib.hid (HX2.out.later hbl)
        have HR3 := Lib.hid (HR2.out.later hbl)
        have HT3 := Lib.hid (HT2.out.later hbl)
        have HV3 := Lib.hid (HVK.out.later hbl)
        have HB3 := Lib.hid (bl_then HB2.out hbl)
        have HL3 := Lib.hid (bl_then HL.out hbl)
        clear hbl hW2 x0 x1 HX2 HR2 HT2 HVK HB2 HL
        obtain ⟨x0, x1⟩ := HX3.out.open2
        go_wp2_with fail
        refine (l1moment_calls _ _ _ t (elt t.moms k) _ HT3.out HV3.out hsm hs1).mono ?_
        rintro e w1 ⟨rfl, hb⟩
        have HL2 := Lib.hid (bl_then HL3.out hb)
        have hr := HR3.out.later hb
        have r0 := hr.cell (j := 0) (by omega)
        have r1 := hr.cell (j := 1) (by omega)
        have rf0 := hr.free 0
        have rf1 := hr.free 1
        have HB4 := Lib.hid (bl_then HB3.out hb)
        generalize hmo : momOk t.fns.length (elt t.moms k) = mo
        have HMO := Lib.hid hmo
        clear hr hb x0 x1 y0 y1 y2 y3 y4 y5 c0 c1' c2' c3 c4 c5 hmo
        cases mo with
        | true =>
          go_wp2
          go_roundw
          case rel => exact ⟨k + 1, by omega, by go_num, HQ.out.trans (firstNZ_skip hlt (by unfold momCode; rw [if_pos HMO.out])), HL2.out⟩
          case measure => simp [intOf]; omega
        | false =>
          go_wp2
          have hf : faultP t = (2, (k : Int)) := by
            have h2 : firstNZ (momCode t) (t.moms.length - 0) 0 = (2, (k : Int)) := by
              rw [HQ.out, firstNZ_hit hlt (by unfold momCode; rw [if_neg (by rw [HMO.out]; simp)]; omega)]
              unfold momCode; rw [if_neg (by rw [HMO.out]; simp)]
            unfold faultP
            rw [if_neg (by rw [HSO.out]; simp), h2, if_pos (by simp)]
          refine bodyPost_ret (v := .agg #[.int .i64 2, .int .i64 k]) (by simp [results, Tryz.results28, go_sem, r0, r1]) rfl ⟨by rw [hf], ?_⟩
          have HL := HB4
          exact (by repeat (with_reducible first | exact Below.refl _ _ | exact HL.out | refine bl_drewN ?_ _ | refine bl_drew ?_ | refine bl_alloc ?_ _ | refine bl_set ?_ (by dsimp only; omega) _))
      · obtain rfl : k = t.moms.length := by omega
        clear hb x0 x1 r0 r1
        have HT2 := Lib.hid (HT1.out.later HL.out)
        have HX2 := Lib.hid (HX1.out.later HL.out)
        have HR2 := Lib.hid (HR1.out.later HL.out)
        have HB2 := Lib.hid (bl_then HB1.out HL.out)
        have HQ2 : Hid (firstNZ (momCode t) (t.moms.length - 0) 0 = (0, 0)) := Lib.hid (HQ.out.trans firstNZ_end)
        clear HB1 HX1 HR1 HQ HT1 rf0 rf1 HL
        obtain ⟨x0, x1⟩ := HX2.out.open2
        go_wp2_with fail
        refine (l1begin_calls _).mono ?_
        rintro e w1 ⟨g, T, f, rfl, hW, hb⟩
        have HW := Lib.hid hW
        have HL1 := Lib.hid hb
        have HX3 := Lib.hid (HX2.out.later hb)
        clear hW hb x0 x1
        obtain ⟨x0, x1⟩ := HX3.out.open2
        go_wp2_with fail
        go_loopw [32] (fun i wz => ∃ (k : Nat) (f : Nat → Value), k ≤ t.moms.length ∧ i = .int .i64 k ∧ firstNZ (moveCode t) (t.moms.length - 0) 0 = firstNZ (moveCode t) (t.moms.length - k) k ∧
          Inv (stN t.moms k) k ∧ IsS wz wr.heap.size g T (stN t.moms k) f ∧ Below wr.heap.size wr wz) (fun i _ => t.moms.length - (intOf i).toNat)
        case atStart => exact ⟨0, f, Nat.zero_le _, rfl, rfl, inv0, HW.out, HL1.out⟩
        case round =>
          obtain ⟨k, f, hk, rfl, hq, hinv, hW, hb⟩ := hrel
          have HQ := Lib.hid hq
          have HI := Lib.hid hinv
          have HW := Lib.hid hW
          have HL := Lib.hid hb
          clear hq hinv hW hb x0 x1
          by_cases hlt : k < t.moms.length
          · have HM := Lib.hid (HT2.out.2.later HL.out)
            obtain ⟨b, o, vk, hA, c0, c1', c2', c3, c4, c5, hvk⟩ := rd_moment HM.out hlt
            have HA := Lib.hid hA
            obtain ⟨Av, cv, rfl, -⟩ := hvk
            clear hA
            subst A2
            go_upto_region 13 with fail
            generalize hW2 : World.alloc wr _ = W2
            have hbl : Below wr.heap.size wr W2 := by rw [← hW2]; exact bl_alloc (Below.refl _ _) _
            have y0 : W2.cell? ⟨wr.heap.size, 0, none⟩ = some (.int .i64 (elt t.moms k).kind) := by rw [← hW2]; clear hW2; go_simp
            have y1 : W2.cell? ⟨wr.heap.size, 1, none⟩ = some (.int .i64 (elt t.moms k).task) := by rw [← hW2]; clear hW2; go_simp
            have y2 : W2.cell? ⟨wr.heap.size, 2, none⟩ = some (.int .i64 (elt t.moms k).fn) := by rw [← hW2]; clear hW2; go_simp
            have y3 : W2.cell? ⟨wr.heap.size, 3, none⟩ = some (.int .i64 (elt t.moms k).line) := by rw [← hW2]; clear hW2; go_simp
            have y4 : W2.cell? ⟨wr.heap.size, 4, none⟩ = some (.string (elt t.moms k).text) := by rw [← hW2]; clear hW2; go_simp
            have y5 : W2.cell? ⟨wr.heap.size, 5, none⟩ = some (.slice Av (elt t.moms k).vars.length cv) := by rw [← hW2]; clear hW2; go_simp
            have HS2 := Lib.hid (HW.out.later hbl)
            have HL2 := Lib.hid (bl_then HL.out hbl)
            clear hbl hW2
            go_wp2_with fail
            refine (move_calls _ g T _ _ (elt t.moms k) _ _ _ k k _ HS2.out HI.out).mono ?_
            rintro e w2 ⟨rfl, hb, hst⟩
            have HB3 := Lib.hid (bl_trans HL2.out hb.bl)
            have hr := HR2.out.later HB3.out
            have r0 := hr.cell (j := 0) (by omega)
            have r1 := hr.cell (j := 1) (by omega)
            have rf0 := hr.free 0
            have rf1 := hr.free 1
            have HBw := Lib.hid (bl_then HB2.out HB3.out)
            have HST := Lib.hid hst
            clear hr hb hst y0 y1 y2 y3 y4 y5 c0 c1' c2' c3 c4 c5
            have HMC : Hid (moveCode t k = checkP (stN t.moms k) (elt t.moms k)) := Lib.hid rfl
            generalize hcc : checkP (stN t.moms k) (elt t.moms k) = cc at HMC HST
            have HCC := Lib.hid hcc
            clear hcc
            by_cases hz : cc = 0
            · have hd : (cc != 0) = false := by simp [hz]
              have HZ := Lib.hid hz
              clear hz r0 r1 rf0 rf1
              have hmo : momOk t.fns.length (elt t.moms k) = true := by
                have := firstNZ_zero (f := momCode t) (d := t.moms.length - 0) (k := 0) (by rw [HQ2.out]) k (by omega) (by omega)
                unfold momCode at this
                by_cases h4 : momOk t.fns.length (elt t.moms k) = true
                · exact h4
                · rw [if_neg h4] at this; cases this
              have HI3 := Lib.hid (inv_step HI.out hmo (HCC.out.trans HZ.out))
              clear hmo
              go_wp2
              go_roundw
              case rel =>
                obtain ⟨f', hf'⟩ := HST.out HZ.out
                exact ⟨k + 1, f', by omega, by go_num, HQ.out.trans (firstNZ_skip hlt (by rw [HMC.out, HZ.out])), HI3.out, hf', HB3.out⟩
              case measure => simp [intOf]; omega
            · have hd : (cc != 0) = true := by simp [hz]
              have HZ := Lib.hid hz
              clear hz
              go_wp2
              have hf : faultP t = (cc, (k : Int)) := by
                unfold faultP
                rw [if_neg (by rw [HSO.out]; simp), HQ2.out, if_neg (by simp), HQ.out, firstNZ_hit hlt (by rw [HMC.out]; exact HZ.out), HMC.out]
              refine bodyPost_ret (v := .agg #[.int .i64 cc, .int .i64 k]) (by simp [results, Tryz.results28, go_sem, r0, r1]) rfl ⟨by rw [hf], ?_⟩
              have HL := HBw
              exact (by repeat (with_reducible first | exact Below.refl _ _ | exact HL.out | refine bl_drewN ?_ _ | refine bl_drew ?_ | refine bl_alloc ?_ _ | refine bl_set ?_ (by dsimp only; omega) _))
          · obtain rfl : k = t.moms.length := by omega
            have hr := HR2.out.later HL.out
            have r0 := hr.cell (j := 0) (by omega)
            have r1 := hr.cell (j := 1) (by omega)
            have rf0 := hr.free 0
            have rf1 := hr.free 1
            have HB3 := Lib.hid (bl_then HB2.out HL.out)
            clear hr
            go_wp2
            have hf : faultP t = (0, 0) := by
              unfold faultP
              rw [if_neg (by rw [HSO.out]; simp), HQ2.out, if_neg (by simp), HQ.out, firstNZ_end]
            refine bodyPost_ret (v := .agg #[.int .i64 0, .int .i64 0]) (by simp [results, Tryz.results28, go_sem, r0, r1]) rfl ⟨by rw [hf], ?_⟩
            have HL := HB3
            exact (by repeat (with_reducible first | exact Below.refl _ _ | exact HL.out | refine bl_drewN ?_ _ | refine bl_drew ?_ | refine bl_alloc ?_ _ | refine bl_set ?_ (by dsimp only; omega) _))
end Go.Proofs.YtcklnjjbhngbcaaGreatDoor

namespace Go.Proofs.YtcklnjjbhngbcaaGreatDoor
open Go.RowKit Go.Proofs.Lens

set_option maxRecDepth 100000 in
set_option maxHeartbeats 400000 in
theorem l1ok_calls (v1 v2 : Value) (t : PTr) (w : World) (h : RdTr w v1 v2 t) (hsm : smTr t) :
    Calls Tryz.prog 36 #[.agg #[v1, v2]] w fun e w' => e = .returned (.bool (soundP t)) ∧ Below w.heap.size w w' := by
  have HT := Lib.hid h
  have HS := Lib.hid hsm
  obtain ⟨⟨A1, c1, rfl, hn1, -⟩, ⟨vv, ⟨A2, c2, rfl, hn2, -⟩, -⟩⟩ := h
  clear hsm
  go_enter Tryz.func36, Tryz.ntmps36
  go_wp2_with fail
  refine (spec_TraceOk_calls _ _ t _ (HT.out.later (by repeat (with_reducible first | exact Below.refl _ _ | exact HL.out | refine bl_drewN ?_ _ | refine bl_drew ?_ | refine bl_alloc ?_ _ | refine bl_set ?_ (by dsimp only; omega) _))) HS.out).mono ?_; rintro e w1 ⟨rfl, hb⟩
  have HB := Lib.hid (bl_then (bl_alloc (Below.refl _ w) _) hb)
  clear hb
  go_wp2
  go_ret
  have HL := HB
  exact ⟨ret_bool (by unfold soundP; exact Bool.beq_eq_decide_eq _ _), (by repeat (with_reducible first | exact Below.refl _ _ | exact HL.out | refine bl_drewN ?_ _ | refine bl_drew ?_ | refine bl_alloc ?_ _ | refine bl_set ?_ (by dsimp only; omega) _))⟩
theorem l1ok_is (v1 v2 : Value) (t : PTr) (w : World) {b : Bool} (h : RdTr w v1 v2 t) (hsm : smTr t) (hs : soundP t = b) :
    Calls Tryz.prog 36 #[.agg #[v1, v2]] w fun e w' => e = .returned (.bool b) ∧ Below w.heap.size w w' := hs ▸ l1ok_calls v1 v2 t w h hsm

def StPost (w : World) (s : PS) (e : Ending) (w' : World) : Prop := ∃ g T f, e = .returned (.pointer (some ⟨g, 0, none⟩)) ∧ IsS w' w.heap.size g T s f ∧ Below w.heap.size w w'
set_option maxRecDepth 100000 in
set_option maxHeartbeats 2000000 in
theorem l1at_calls (v1 v2 : Value) (t : PTr) (k : Int) (w : World) (h : RdTr w v1 v2 t) (hsm : smTr t) (hg : soundP t = true) (hk0 : -1 ≤ k) (hk1 : k < t.moms.length) :
    Calls Tryz.prog 143 #[.agg #[v1, v2], .int .i64 k] w (StPost w (stN t.moms (k + 1).toNat)) := by
  have HT := Lib.hid h
  obtain ⟨⟨A1, c1, rfl, hn1, -⟩, ⟨vv, ⟨A2, c2, rfl, hn2, -⟩, -⟩⟩ := h
  obtain ⟨⟨hs1, -⟩, ⟨hs2, -⟩⟩ := hsm
  have SO := Lib.hid (sound_iff hg)
  clear hg
  go_enter Tryz.func143, Tryz.ntmps143
  go_wp2_with fail
  generalize hW : World.alloc w _ = W
  have HB : Hid (Below w.heap.size w W) := by rw [← hW]; exact Lib.hid (by repeat (with_reducible first | exact Below.refl _ _ | exact HL.out | refine bl_drewN ?_ _ | refine bl_drew ?_ | refine bl_alloc ?_ _ | refine bl_set ?_ (by dsimp only; omega) _))
  have HX : Hid (BoxAt W w.heap.size [.slice A1 t.fns.length c1, .slice A2 t.moms.length c2]) := by rw [← hW]; exact Lib.hid (BoxAt.new w _ _)
  clear hW
  refine (l1begin_calls _).mono ?_
  rintro e w1 ⟨g, T, f, rfl, hS, hb⟩
  have HW := Lib.hid hS
  have HL := Lib.hid hb
  clear hS hb
  go_wp2_with fail
  go_loopw [6] (fun i wr => ∃ (n : Nat) (f : Nat → Value), n ≤ t.moms.length ∧ (n : Int) ≤ k + 1 ∧ i = .int .i64 n ∧ IsS wr W.heap.size g T (stN t.moms n) f ∧ Below W.heap.size W wr) (fun i _ => t.moms.length - (intOf i).toNat)
  case atStart => exact ⟨0, f, Nat.zero_le _, by omega, rfl, HW.out, HL.out⟩
  case round =>
    obtain ⟨n, f, hn, hn2, rfl, hS, hb⟩ := hrel
    clear HW HL
    have HW := Lib.hid hS
    have HL := Lib.hid hb
    clear hS hb
    by_cases h1 : (n : Int) ≤ k
    · have h2 : n < t.moms.length := by omega
      have HI := Lib.hid (SO.out.inv n hn)
      have HM := Lib.hid ((HT.out.2.later HB.out).later HL.out)
      obtain ⟨b, o, vk, hA, c0, c1', c2', c3, c4, c5, hvk⟩ := rd_moment HM.out h2
      obtain ⟨Av, cv, rfl, -⟩ := hvk
      subst hA
      obtain ⟨x0, x1⟩ := (HX.out.later HL.out).open2
      go_wp2_with fail
      refine (move_calls _ g T _ _ (elt t.moms n) _ _ _ n n _ HW.out HI.out).mono ?_
      rintro e w2 ⟨rfl, hb, hst⟩
      have HL2 := Lib.hid (bl_trans HL.out hb.bl)
      have HST := Lib.hid (hst (SO.out.moves n h2))
      clear hb hst x0 x1 c0 c1' c2' c3 c4 c5
      go_wp2
      go_roundw
      case rel =>
        obtain ⟨f', hf'⟩ := HST.out
        exact ⟨n + 1, f', by omega, by omega, by go_num, hf', HL2.out⟩
      case measure => simp [intOf]; omega
    · go_wp2
      go_ret
      have e : (k + 1).toNat = n := by omega
      rw [e]
      exact ⟨g, T, f, rfl, HW.out.lower HB.out.size, bl_then HB.out HL.out⟩

set_option maxRecDepth 100000 in
set_option maxHeartbeats 2000000 in
theorem l1stand_calls (v1 v2 : Value) (t : PTr) (k : Int) (w : World) (h : RdTr w v1 v2 t) (hsm : smTr t) (hg : goodP t k = true) :
    Calls Tryz.prog 95 #[.agg #[v1, v2], .int .i64 k] w (StPost w (atP t k)) := by
  have HT := Lib.hid h
  have HS := Lib.hid hsm
  obtain ⟨⟨A1, c1, rfl, hn1, -⟩, ⟨vv, ⟨A2, c2, rfl, hn2, -⟩, -⟩⟩ := h
  obtain ⟨⟨hs1, -⟩, ⟨hs2, -⟩⟩ := hsm
  unfold goodP at hg
  rw [Bool.and_eq_true] at hg
  have hp := inB_true.1 hg.2
  have HQ := Lib.hid hg.1
  clear hg
  by_cases hk : k = t.moms.length
  · have e : atP t k = stN t.moms (k - 1 + 1).toNat := by unfold atP atN; congr 1; omega
    have hd : (k == (t.moms.length : Int)) = true := by simp [hk]
    have HE := Lib.hid e
    have hk1 : 0 ≤ k := by omega
    have hk2 : k - 1 < t.moms.length := by omega
    clear hk e
    go_enter Tryz.func95, Tryz.ntmps95
    go_wp2_with fail
    refine (l1at_calls _ _ t _ _ (HT.out.later (by repeat (with_reducible first | exact Below.refl _ _ | exact HL.out | refine bl_drewN ?_ _ | refine bl_drew ?_ | refine bl_alloc ?_ _ | refine bl_set ?_ (by dsimp only; omega) _))) HS.out HQ.out (by omega) (by omega)).mono ?_
    rintro e w1 ⟨g, T, f, rfl, hS, hb⟩
    have HW := Lib.hid (hS.lower (lo' := w.heap.size) (by simp))
    have HB := Lib.hid (bl_then (bl_alloc (Below.refl _ w) _) hb)
    clear hS hb
    go_wp2
    go_ret
    exact ⟨g, T, f, rfl, by rw [HE.out]; exact HW.out, HB.out⟩
  · have e : atP t k = stN t.moms (k + 1).toNat := by unfold atP atN; congr 1; omega
    have hd : (k == (t.moms.length : Int)) = false := by simp [hk]
    have HE := Lib.hid e
    have hk2 : k < t.moms.length := by omega
    clear hk e
    go_enter Tryz.func95, Tryz.ntmps95
    go_wp2_with fail
    refine (l1at_calls _ _ t _ _ (HT.out.later (by repeat (with_reducible first | exact Below.refl _ _ | exact HL.out | refine bl_drewN ?_ _ | refine bl_drew ?_ | refine bl_alloc ?_ _ | refine bl_set ?_ (by dsimp only; omega) _))) HS.out HQ.out (by omega) (by omega)).mono ?_
    rintro e w1 ⟨g, T, f, rfl, hS, hb⟩
    have HW := Lib.hid (hS.lower (lo' := w.heap.size) (by simp))
    have HB := Lib.hid (bl_then (bl_alloc (Below.refl _ w) _) hb)
    clear hS hb
    go_wp2
    go_ret
    exact ⟨g, T, f, rfl, by rw [HE.out]; exact HW.out, HB.out⟩

theorem IsS.mv {w w' : World} {lo lo' g T : Nat} {s : PS} {f : Nat → Value} {ts : List TypeId} (h : IsS w lo g T s f) (hm : Mv ts lo' w w') (h1 : 161 ∉ ts) (h2 : 35 ∉ ts) (h3 : 42 ∉ ts) : IsS w' lo g T s f :=
  ⟨h.lo1, h.lo2, h.blk.mv hm h1, h.tb.mv hm h2, fun i hi => (h.row i hi).mv hm h3, h.ne⟩
end Go.Proofs.YtcklnjjbhngbcaaGreatDoor

namespace Go.Proofs.YtcklnjjbhngbcaaGreatDoor
open Go.RowKit Go.Proofs.Lens

theorem IsS.at {w : World} {lo g T : Nat} {s : PS} {f : Nat → Value} (h : IsS w lo g T s f) {i : Int} (h0 : 0 ≤ i) (h1 : i ≤ 100) :
    ∃ A cap, w.cell? ⟨g, 0, none⟩ = some (.slice (some ⟨T, 0, none⟩) 101 101) ∧ w.cell? ⟨T, i.toNat, none⟩ = some (.slice A (s.stk i).length cap) ∧ (s.stk i).length ≤ cap ∧ cap ≤ 9223372036854775807 ∧
      OwR w lo 42 3 (s.stk i).length (frC (s.stk i).reverse) (.slice A (s.stk i).length cap) := by
  have hr := h.row i.toNat (by omega)
  rw [Int.toNat_of_nonneg h0] at hr
  obtain ⟨A, cap, hv, hc1, hc2⟩ := hr.cap
  rw [hv] at hr
  exact ⟨A, cap, h.blk.cell (j := 0) (by omega), (h.tb.cell (by omega)).trans (by rw [hv]), hc1, hc2, hr⟩

theorem good_cur {t : PTr} {k : Int} (h : goodP t k = true) : Inv (atP t k) (atN t k) := by
  unfold goodP at h
  rw [Bool.and_eq_true] at h
  exact (sound_iff h.1).inv _ (atN_le t k)
theorem good_bd {t : PTr} {k : Int} (h : goodP t k = true) : -1 ≤ k ∧ k ≤ t.moms.length := by
  unfold goodP at h
  rw [Bool.and_eq_true] at h
  exact inB_true.1 h.2
theorem good_sound {t : PTr} {k : Int} (h : goodP t k = true) : soundP t = true := by
  unfold goodP at h
  rw [Bool.and_eq_true] at h
  exact h.1

set_option maxRecDepth 100000 in
set_option maxHeartbeats 2000000 in
theorem l4into_calls (v1 v2 : Value) (t : PTr) (k : Int) (w : World) (h : RdTr w v1 v2 t) (hsm : smTr t) (hg : goodP t k = true) :
    Calls Tryz.prog 93 #[.agg #[v1, v2], .int .i64 k] w fun e w' => e = .returned (.int .i64 (intoP t k)) ∧ Below w.heap.size w w' := by
  have HT := Lib.hid h
  have HS := Lib.hid hsm
  obtain ⟨⟨A1, c1, rfl, hn1, -⟩, ⟨vv, ⟨A2, c2, rfl, hn2, -⟩, -⟩⟩ := h
  obtain ⟨⟨hs1, -⟩, ⟨hs2, -⟩⟩ := hsm
  obtain ⟨k0, k1⟩ := good_bd hg
  have HP : Hid (intoP t k = (firstB (intoQ t k) t.moms.length (t.moms.length - (k + 1).toNat) (k + 1).toNat : Nat)) := Lib.hid (by unfold intoP seekP; rw [if_pos hg])
  have HG := Lib.hid hg
  clear hg
  go_enter Tryz.func93, Tryz.ntmps93
  go_wp2_with fail
  refine (l1stand_calls _ _ t _ _ (HT.out.later (by repeat (with_reducible first | exact Below.refl _ _ | exact HL.out | refine bl_drewN ?_ _ | refine bl_drew ?_ | refine bl_alloc ?_ _ | refine bl_set ?_ (by dsimp only; omega) _))) HS.out HG.out).mono ?_; rintro e w1 ⟨g, T, f, rfl, hS, hb⟩
  have HX := Lib.hid ((BoxAt.new w [.slice A1 t.fns.length c1, .slice A2 t.moms.length c2] 26).later hb)
  have HB := Lib.hid (bl_then (bl_alloc (Below.refl _ w) _) hb)
  have cc : w1.cell? ⟨g, 1, none⟩ = some (.int .i64 (atP t k).cur) := hS.blk.cell (j := 1) (by omega)
  clear hb hS
  obtain ⟨x0, x1⟩ := HX.out.open2
  obtain ⟨j, hj⟩ : ∃ j : Nat, k + 1 = (j : Int) := ⟨(k + 1).toNat, by omega⟩
  have HJ := Lib.hid hj
  clear hj
  go_wp2_with fail
  go_loop [7] (fun i => ∃ n : Nat, j ≤ n ∧ i = .int .i64 n ∧ firstB (intoQ t k) t.moms.length (t.moms.length - j) j = firstB (intoQ t k) t.moms.length (t.moms.length - n) n) (fun i => t.moms.length - (intOf i).toNat)
  case atStart => exact ⟨j, Nat.le_refl _, by rw [← HJ.out], rfl⟩
  case round =>
    obtain ⟨n, hn, rfl, hq⟩ := hrel
    have HQ := Lib.hid hq
    clear hq
    by_cases h2 : n < t.moms.length
    · obtain ⟨b, o, vk, hA, c0, c1', -, -, -, -, -⟩ := rd_moment (HT.out.2.later HB.out) h2
      subst hA
      have HI : Hid (intoQ t k n = (((elt t.moms n).kind == 1) && ((elt t.moms n).task == (atP t k).cur))) := Lib.hid (by unfold intoQ; rw [Bool.beq_eq_decide_eq, Bool.beq_eq_decide_eq])
      generalize hk1 : ((elt t.moms n).kind == 1) = q1 at HI
      generalize hk2 : ((elt t.moms n).task == (atP t k).cur) = q2 at HI
      cases q1 <;> cases q2
      all_goals
        go_wp2
      · go_round
        case rel => exact ⟨n + 1, by omega, by go_num, HQ.out.trans (firstB_skip h2 HI.out)⟩
        case measure => simp [intOf]; omega
      · go_round
        case rel => exact ⟨n + 1, by omega, by go_num, HQ.out.trans (firstB_skip h2 HI.out)⟩
        case measure => simp [intOf]; omega
      · go_round
        case rel => exact ⟨n + 1, by omega, by go_num, HQ.out.trans (firstB_skip h2 HI.out)⟩
        case measure => simp [intOf]; omega
      · go_ret
        refine ⟨ret_int ?_, HB.out⟩
        rw [HP.out, HJ.out, Int.toNat_natCast, HQ.out, firstB_hit h2 HI.out]
    · go_wp2
      go_ret
      refine ⟨ret_int ?_, HB.out⟩
      rw [HP.out, HJ.out, Int.toNat_natCast, HQ.out, firstB_end (by omega)]

/-- What the reference's l4leave asks of moment i. -/
def leaveQ (t : PTr) (k kd ls : Int) (i : Nat) : Bool := decide ((elt t.moms i).kind = kd) && decide ((elt t.moms i).task = (atP t k).cur) && decide ((((stN t.moms (i + 1)).stk (atP t k).cur).length : Int) ≤ ((atP t k).stk (atP t k).cur).length - ls)
theorem over_leave (t : PTr) (k : Int) (i : Nat) : overQ t k i = leaveQ t k 1 0 i := by
  unfold overQ leaveQ
  congr 1
  apply decide_eq_decide.2
  omega
theorem out_leave (t : PTr) (k : Int) (i : Nat) : outQ t k i = leaveQ t k 3 1 i := by
  unfold outQ leaveQ
  congr 1
  apply decide_eq_decide.2
  omega
set_option maxRecDepth 100000 in
set_option maxHeartbeats 2000000 in
theorem l4leave_calls (v1 v2 : Value) (t : PTr) (k kd ls : Int) (w : World) (h : RdTr w v1 v2 t) (hsm : smTr t) (hg : goodP t k = true) (hl0 : 0 ≤ ls) (hl1 : ls ≤ 1) :
    Calls Tryz.prog 94 #[.agg #[v1, v2], .int .i64 k, .int .i64 kd, .int .i64 ls] w fun e w' => e = .returned (.int .i64 (seekP t k (leaveQ t k kd ls))) ∧ Below w.heap.size w w' := by
  have HT := Lib.hid h
  have HS := Lib.hid hsm
  obtain ⟨⟨A1, c1, rfl, hn1, -⟩, ⟨vv, ⟨A2, c2, rfl, hn2, -⟩, -⟩⟩ := h
  obtain ⟨⟨hs1, -⟩, ⟨hs2, -⟩⟩ := hsm
  obtain ⟨k0, k1⟩ := good_bd hg
  have HP : Hid (seekP t k (leaveQ t k kd ls) = (firstB (leaveQ t k kd ls) t.moms.length (t.moms.length - (k + 1).toNat) (k + 1).toNat : Nat)) := Lib.hid (by unfold seekP; rw [if_pos hg])
  have HG := Lib.hid hg
  have hi := good_cur hg
  have i0 := hi.lo
  have i1 := hi.hi
  have i2 := hi.deep (atP t k).cur
  have SO := Lib.hid (sound_iff (good_sound hg))
  clear hg hi
  go_enter Tryz.func94, Tryz.ntmps94
  go_wp2_with fail
  generalize hW : World.alloc w _ = W
  have HBW : Hid (Below w.heap.size w W) := by rw [← hW]; exact Lib.hid (by repeat (with_reducible first | exact Below.refl _ _ | exact HL.out | refine bl_drewN ?_ _ | refine bl_drew ?_ | refine bl_alloc ?_ _ | refine bl_set ?_ (by dsimp only; omega) _))
  have HX : Hid (BoxAt W w.heap.size [.slice A1 t.fns.length c1, .slice A2 t.moms.length c2]) := by rw [← hW]; exact Lib.hid (BoxAt.new w _ _)
  clear hW
  refine (l1stand_calls _ _ t _ _ (HT.out.later HBW.out) HS.out HG.out).mono ?_; rintro e w1 ⟨g, T, f, rfl, hS, hb⟩
  have HW := Lib.hid hS
  have HL := Lib.hid hb
  have cc : w1.cell? ⟨g, 1, none⟩ = some (.int .i64 (atP t k).cur) := hS.blk.cell (j := 1) (by omega)
  obtain ⟨Ad, cpd, c0, cr, -, -, -⟩ := hS.at i0 i1
  clear hb hS
  obtain ⟨x0, x1⟩ := (HX.out.later HL.out).open2
  obtain ⟨j, hj⟩ : ∃ j : Nat, k + 1 = (j : Int) := ⟨(k + 1).toNat, by omega⟩
  have HJ := Lib.hid hj
  clear hj
  have hcx : (atP t k).cur < 101 := by omega
  go_wp2_with fail
  clear x0 x1 cc c0 cr
  go_loopw [12] (fun i wr => ∃ (n : Nat) (f : Nat → Value), j ≤ n ∧ i = .int .i64 n ∧ firstB (leaveQ t k kd ls) t.moms.length (t.moms.length - j) j = firstB (leaveQ t k kd ls) t.moms.length (t.moms.length - n) n ∧
    (n ≤ t.moms.length → IsS wr W.heap.size g T (stN t.moms n) f) ∧ Below W.heap.size W wr) (fun i _ => t.moms.length - (intOf i).toNat)
  case atStart =>
    refine ⟨j, f, Nat.le_refl _, by rw [← HJ.out], rfl, fun hj => ?_, HL.out⟩
    have e : atP t k = stN t.moms j := by
      have := HJ.out
      unfold atP atN; congr 1; omega
    rw [← e]; exact HW.out
  case round =>
    obtain ⟨n, f, hn, rfl, hq, hS, hb⟩ := hrel
    clear HW HL
    have HQ := Lib.hid hq
    have HL := Lib.hid hb
    by_cases h2 : n < t.moms.length
    · have HW := Lib.hid (hS (by omega))
      clear hq hS hb
      obtain ⟨b, o, vk, hA, c0, c1', c2', c3, c4, c5, hvk⟩ := rd_moment ((HT.out.2.later HBW.out).later HL.out) h2
      obtain ⟨Av, cv, rfl, -⟩ := hvk
      subst hA
      obtain ⟨x0, x1⟩ := (HX.out.later HL.out).open2
      have hlo := HL.out.size
      go_upto_region 8 with fail
      have HMB : Hid (Blk (wr.alloc _) wr.heap.size 114 6 _) := Lib.hid (Blk.made wr #[.int .i64 (elt t.moms n).kind, .int .i64 (elt t.moms n).task, .int .i64 (elt t.moms n).fn, .int .i64 (elt t.moms n).line, .string (elt t.moms n).text, .slice Av (elt t.moms n).vars.length cv] 114)
      generalize hW2 : World.alloc wr _ = W2 at HMB ⊢
      have hbl : Below wr.heap.size wr W2 := by rw [← hW2]; exact bl_alloc (Below.refl _ _) _
      clear hW2 x0 x1 c0 c1' c2' c3 c4 c5
      have y0 : W2.cell? ⟨wr.heap.size, 0, none⟩ = some (.int .i64 (elt t.moms n).kind) := HMB.out.cell (j := 0) (by omega)
      have y1 : W2.cell? ⟨wr.heap.size, 1, none⟩ = some (.int .i64 (elt t.moms n).task) := HMB.out.cell (j := 1) (by omega)
      have y2 : W2.cell? ⟨wr.heap.size, 2, none⟩ = some (.int .i64 (elt t.moms n).fn) := HMB.out.cell (j := 2) (by omega)
      have y3 : W2.cell? ⟨wr.heap.size, 3, none⟩ = some (.int .i64 (elt t.moms n).line) := HMB.out.cell (j := 3) (by omega)
      have y4 : W2.cell? ⟨wr.heap.size, 4, none⟩ = some (.string (elt t.moms n).text) := HMB.out.cell (j := 4) (by omega)
      have y5 : W2.cell? ⟨wr.heap.size, 5, none⟩ = some (.slice Av (elt t.moms n).vars.length cv) := HMB.out.cell (j := 5) (by omega)
      have HI := Lib.hid (SO.out.inv n (by omega))
      replace HW := Lib.hid (HW.out.later hbl); replace HL := Lib.hid (bl_then HL.out hbl); clear hbl
      go_wp2_with fail
      refine (move_calls _ g T _ _ (elt t.moms n) _ _ _ n n _ HW.out HI.out).mono ?_
      rintro e w2 ⟨rfl, hb, hst⟩
      clear y0 y1 y2 y3 y4 y5
      replace HL := Lib.hid (bl_trans HL.out hb.bl)
      replace HMB := Lib.hid (HMB.out.mv hb (by decide))
      obtain ⟨f', hS'⟩ := hst (SO.out.moves n h2)
      replace hS' : IsS w2 W.heap.size g T (stN t.moms (n + 1)) f' := hS'
      clear HW
      have HW := Lib.hid hS'
      have y0 : w2.cell? ⟨wr.heap.size, 0, none⟩ = some (.int .i64 (elt t.moms n).kind) := HMB.out.cell (j := 0) (by omega)
      have y1 : w2.cell? ⟨wr.heap.size, 1, none⟩ = some (.int .i64 (elt t.moms n).task) := HMB.out.cell (j := 1) (by omega)
      obtain ⟨Ae, cpe, c0, cr, -, -, -⟩ := hS'.at i0 i1
      clear hb hS' hst
      have HI : Hid (leaveQ t k kd ls n = (((elt t.moms n).kind == kd) && ((elt t.moms n).task == (atP t k).cur) && decide ((((stN t.moms (n + 1)).stk (atP t k).cur).length : Int) ≤ ((atP t k).stk (atP t k).cur).length - ls))) := Lib.hid (by unfold leaveQ; rw [Bool.beq_eq_decide_eq, Bool.beq_eq_decide_eq])
      generalize hk1 : ((elt t.moms n).kind == kd) = q1 at HI
      generalize hk2 : ((elt t.moms n).task == (atP t k).cur) = q2 at HI
      generalize hk3 : decide ((((stN t.moms (n + 1)).stk (atP t k).cur).length : Int) ≤ ((atP t k).stk (atP t k).cur).length - ls) = q3 at HI
      cases q1 <;> cases q2 <;> cases q3
      all_goals
        go_wp2
        first
          | (go_roundw
             case rel => exact ⟨n + 1, f', by omega, by go_num, HQ.out.trans (firstB_skip h2 HI.out), fun _ => HW.out, HL.out⟩
             case measure => simp [intOf]; omega)
          | (go_ret
             refine ⟨ret_int ?_, bl_then HBW.out HL.out⟩
             rw [HP.out, HJ.out, Int.toNat_natCast, HQ.out, firstB_hit h2 HI.out])
    · clear hq hS hb
      obtain ⟨x0, x1⟩ := (HX.out.later HL.out).open2
      go_wp2
      go_ret
      refine ⟨ret_int ?_, bl_then HBW.out HL.out⟩
      rw [HP.out, HJ.out, Int.toNat_natCast, HQ.out, firstB_end (by omega)]
end Go.Proofs.YtcklnjjbhngbcaaGreatDoor

namespace Go.Proofs.YtcklnjjbhngbcaaGreatDoor
open Go.RowKit Go.Proofs.Lens

/-- The types of the blocks that the specification's FnCounts turns. -/
def fcTys : List TypeId := [161, 35, 42, 106, 4]

set_option maxRecDepth 100000 in
set_option maxHeartbeats 2000000 in
theorem spec_FnCounts_bad (v1 v2 : Value) (t : PTr) (w : World) (h : RdTr w v1 v2 t) (hsm : smTr t) (hs : soundP t = false) :
    Calls Tryz.prog 48 #[.agg #[v1, v2]] w (OwRet w 106 4 (fcP t).length (fcRow (fcP t))) := by
  have HT := Lib.hid h
  have HS := Lib.hid hsm
  obtain ⟨⟨A1, c1, rfl, hn1, -⟩, ⟨vv, ⟨A2, c2, rfl, hn2, -⟩, -⟩⟩ := h
  have HR : Hid (fcP t = []) := Lib.hid (by unfold fcP; rw [hs]; rfl)
  have HQ := Lib.hid hs
  clear hs hsm
  go_enter Tryz.func48, Tryz.ntmps48
  go_wp2_with fail
  refine (l1ok_is _ _ t _ (HT.out.later (by repeat (with_reducible first | exact Below.refl _ _ | exact HL.out | refine bl_drewN ?_ _ | refine bl_drew ?_ | refine bl_alloc ?_ _ | refine bl_set ?_ (by dsimp only; omega) _))) HS.out HQ.out).mono ?_; rintro e w1 ⟨rfl, hb⟩
  have HB := Lib.hid (bl_then (bl_alloc (Below.refl _ w) _) hb)
  clear hb
  go_wp2
  go_ret
  rw [HR.out]
  exact ⟨_, rfl, OwR.nil, HB.out⟩

set_option maxRecDepth 100000 in
set_option maxHeartbeats 8000000 in
theorem spec_FnCounts_good (v1 v2 : Value) (t : PTr) (w : World) (h : RdTr w v1 v2 t) (hsm : smTr t) (hs : soundP t = true) :
    Calls Tryz.prog 48 #[.agg #[v1, v2]] w (OwRet w 106 4 (fcP t).length (fcRow (fcP t))) := by
  have HT := Lib.hid h
  have HS := Lib.hid hsm
  obtain ⟨⟨A1, c1, rfl, hn1, -⟩, ⟨vv, ⟨A2, c2, rfl, hn2, -⟩, -⟩⟩ := h
  have HR : Hid (fcP t = fcList (fcN t.moms t.moms.length) t.fns.length) := Lib.hid (by unfold fcP; rw [hs]; rfl)
  have HQ := Lib.hid hs
  have hso := sound_iff hs
  obtain ⟨nf0, nf1, nm1⟩ := sound_fns hso
  have SO := Lib.hid hso
  obtain ⟨C, hC, hc, hmk⟩ := make_law (P := Tryz.prog) 64 106 Tryz.underlying64 i_fc t.fns.length (by omega) (by omega)
  obtain ⟨D, hD, hd, hmk2⟩ := make_law (P := Tryz.prog) 165 4 Tryz.underlying165 i_bool t.fns.length (by omega) (by omega)
  have HC := Lib.hid hC
  have Hc := Lib.hid hc
  have HD := Lib.hid hD
  have Hd := Lib.hid hd
  clear hs hsm hso hC hc hD hd
  go_enter Tryz.func48, Tryz.ntmps48
  go_wp2_with fail
  refine (l1ok_is _ _ t _ (HT.out.later (by repeat (with_reducible first | exact Below.refl _ _ | exact HL.out | refine bl_drewN ?_ _ | refine bl_drew ?_ | refine bl_alloc ?_ _ | refine bl_set ?_ (by dsimp only; omega) _))) HS.out HQ.out).mono ?_; rintro e w1 ⟨rfl, hb⟩
  have HX := Lib.hid ((Blk.made w #[.slice A1 t.fns.length c1, .slice A2 t.moms.length c2] 26).later hb)
  have HM := Lib.hid (Mv.then (ts := fcTys) ((Mv.refl _ _ w).alloc (Nat.le_refl _) _) (by simp) hb)
  have hw1 : w.heap.size < w1.heap.size := HX.out.lt
  clear hb
  have x0 : w1.cell? ⟨w.heap.size, 0, none⟩ = some (.slice A1 t.fns.length c1) := HX.out.cell (j := 0) (by simp)
  go_wp2_with fail
  clear x0
  go_loopw [20] (fun i wr => ∃ q : Nat, q ≤ t.fns.length ∧ i = .int .i64 q ∧ OwR wr w1.heap.size 106 4 t.fns.length (fcI q) (.slice (some ⟨w1.heap.size, 0, none⟩) t.fns.length t.fns.length) ∧ Mv fcTys w.heap.size w wr ∧
    Blk wr w.heap.size 26 2 (fun j => #[Value.slice A1 t.fns.length c1, .slice A2 t.moms.length c2].getD j undef)) (fun i _ => t.fns.length - (intOf i).toNat)
  case atStart =>
    exact ⟨0, Nat.zero_le _, rfl, OwR.made HC.out Hc.out (by rfl) (by simp only [maxLen]; omega) _ (fun i hi j hj => by match j, hj with | 0, _ => rfl | 1, _ => rfl | 2, _ => rfl | 3, _ => rfl), HM.out.alloc HM.out.size _, HX.out.alloc _⟩
  case round =>
    obtain ⟨q, hq, rfl, hO, hM, hX⟩ := hrel
    clear HM HX
    have HO := Lib.hid hO
    have HM := Lib.hid hM
    have HX := Lib.hid hX
    clear hO hM hX
    by_cases hlt : q < t.fns.length
    · have x1 := HO.out.cells hlt (j := 0) (by omega)
      have x2 := HO.out.free (q * 4)
      have hlt' : (q : Int) < (t.fns.length : Int) := by omega
      simp only [Nat.add_zero] at x1
      go_wp2
      go_roundw
      case rel => exact ⟨q + 1, by omega, by go_num, fcI_set HO.out hlt, HM.out.setO HO.out (Nat.le_of_lt hw1) (by decide) _ _, HX.out.far (by dsimp only; omega) _⟩
      case measure => simp [intOf]; omega
    · obtain rfl : q = t.fns.length := by omega
      have x1 := HO.out.cells nf0 (j := 1) (by omega)
      have x2 := HO.out.free 1
      simp only [Nat.zero_mul, Nat.zero_add] at x1
      go_wp2_with fail
      refine (l1begin_calls _).mono ?_; rintro e w2 ⟨g, T, f, rfl, hS, hb⟩
      have hM := HM.out.setO HO.out (Nat.le_of_lt hw1) (by decide) 1 (.int .i64 1)
      have HO2 := Lib.hid ((fcI_end HO.out nf0).later hb)
      have HX2 := Lib.hid ((HX.out.far (p := ⟨w1.heap.size, 1, none⟩) (by dsimp only; omega) (.int .i64 1)).later hb)
      have HS2 := Lib.hid (hS.lower (lo' := w.heap.size) hM.size)
      have HM2 := Lib.hid (hM.then hM.size hb)
      clear hM hS hb x1 x2 HO HX HM
      have x1 : w2.cell? ⟨w.heap.size, 1, none⟩ = some (.slice A2 t.moms.length c2) := HX2.out.cell (j := 1) (by simp)
      go_wp2_with fail
      clear x1
      go_loopw [36] (fun i wr => ∃ (n : Nat) (f : Nat → Value), n ≤ t.moms.length ∧ i = .int .i64 n ∧ IsS wr w.heap.size g T (stN t.moms n) f ∧
        OwR wr w1.heap.size 106 4 t.fns.length (fcC (fcN t.moms n)) (.slice (some ⟨w1.heap.size, 0, none⟩) t.fns.length t.fns.length) ∧ Mv fcTys w.heap.size w wr ∧
        Blk wr w.heap.size 26 2 (fun j => #[Value.slice A1 t.fns.length c1, .slice A2 t.moms.length c2].getD j undef)) (fun i _ => t.moms.length - (intOf i).toNat)
      case atStart => exact ⟨0, f, Nat.zero_le _, rfl, HS2.out, HO2.out, HM2.out, HX2.out⟩
      case round =>
        obtain ⟨n, f, hn, rfl, hS, hO, hM, hX⟩ := hrel
        clear HS2 HO2 HM2 HX2
        have HSS := Lib.hid hS
        have HO := Lib.hid hO
        have HM := Lib.hid hM
        have HX := Lib.hid hX
        clear hS hO hM hX
        by_cases h2 : n < t.moms.length
        · obtain ⟨b, o, vk, hA, d0, d1, d2, d3, d4, d5, hvk⟩ := rd_moment (HT.out.2.later HM.out.bl) h2
          obtain ⟨Av, cv, rfl, -⟩ := hvk
          subst hA
          have hlo := HM.out.size
          have hbd := fcN_bd t.moms n (elt t.moms n).fn.toNat
          obtain ⟨b1, b2, b3⟩ := hbd
          have hfn := mom_fn (SO.out.moms n h2)
          go_upto_region 14 with fail
          have HMB : Hid (Blk (wr.alloc _) wr.heap.size 114 6 _) := Lib.hid (Blk.made wr #[.int .i64 (elt t.moms n).kind, .int .i64 (elt t.moms n).task, .int .i64 (elt t.moms n).fn, .int .i64 (elt t.moms n).line, .string (elt t.moms n).text, .slice Av (elt t.moms n).vars.length cv] 114)
          generalize hW2 : World.alloc wr _ = W2 at HMB ⊢
          have hbl : Below wr.heap.size wr W2 := by rw [← hW2]; exact bl_alloc (Below.refl _ _) _
          have hmb : w.heap.size < wr.heap.size := HX.out.lt
          clear hW2 d0 d1 d2 d3 d4 d5
          have y0 : W2.cell? ⟨wr.heap.size, 0, none⟩ = some (.int .i64 (elt t.moms n).kind) := HMB.out.cell (j := 0) (by omega)
          have y1 : W2.cell? ⟨wr.heap.size, 1, none⟩ = some (.int .i64 (elt t.moms n).task) := HMB.out.cell (j := 1) (by omega)
          have y2 : W2.cell? ⟨wr.heap.size, 2, none⟩ = some (.int .i64 (elt t.moms n).fn) := HMB.out.cell (j := 2) (by omega)
          have y3 : W2.cell? ⟨wr.heap.size, 3, none⟩ = some (.int .i64 (elt t.moms n).line) := HMB.out.cell (j := 3) (by omega)
          have y4 : W2.cell? ⟨wr.heap.size, 4, none⟩ = some (.string (elt t.moms n).text) := HMB.out.cell (j := 4) (by omega)
          have y5 : W2.cell? ⟨wr.heap.size, 5, none⟩ = some (.slice Av (elt t.moms n).vars.length cv) := HMB.out.cell (j := 5) (by omega)
          have HI := Lib.hid (SO.out.inv n hn)
          replace HM := Lib.hid (HM.out.then HM.out.size hbl)
          replace HX := Lib.hid (HX.out.later hbl)
          replace HO := Lib.hid (HO.out.later hbl)
          replace HSS := Lib.hid (HSS.out.later hbl)
          clear hbl
          go_wp2_with fail
          refine (move_calls _ g T _ _ (elt t.moms n) _ _ _ n n _ HSS.out HI.out).mono ?_
          rintro e w3 ⟨rfl, hmv, hst⟩
          obtain ⟨f', hS'⟩ := hst (SO.out.moves n h2)
          replace hS' : IsS w3 w.heap.size g T (stN t.moms (n + 1)) f' := hS'
          clear HSS
          have HSS := Lib.hid hS'
          replace HMB := Lib.hid (HMB.out.mv hmv (by decide))
          replace HX := Lib.hid (HX.out.mv hmv (by decide))
          replace HO := Lib.hid (HO.out.mv hmv (by decide))
          replace HM := Lib.hid (HM.out.trans (hmv.mono (by decide)))
          clear hmv hst hS' y0 y1 y2 y3 y4 y5
          have y0 : w3.cell? ⟨wr.heap.size, 0, none⟩ = some (.int .i64 (elt t.moms n).kind) := HMB.out.cell (j := 0) (by omega)
          have y2 : w3.cell? ⟨wr.heap.size, 2, none⟩ = some (.int .i64 (elt t.moms n).fn) := HMB.out.cell (j := 2) (by omega)
          obtain ⟨fq, hfq⟩ : ∃ fq : Nat, (elt t.moms n).fn = (fq : Int) := ⟨(elt t.moms n).fn.toNat, by omega⟩
          have HFQ := Lib.hid hfq
          have hfq1 : (elt t.moms n).fn.toNat < t.fns.length := by omega
          have hfq2 : (elt t.moms n).fn < (t.fns.length : Int) := by omega
          by_cases k2 : (elt t.moms n).kind = 2
          · have hd1 : ((elt t.moms n).kind == 2) = true := by simp [k2]
            have hd2 : ((elt t.moms n).kind != 1) = true := by simp [k2]
            have HK2 := Lib.hid k2
            have z1 := HO.out.cells hfq1 (j := 1) (by omega)
            have z2 := HO.out.free ((elt t.moms n).fn.toNat * 4 + 1)
            have z3 : w3.cell? ⟨w1.heap.size, (elt t.moms n).fn.toNat * 4 + 1, none⟩ = some (.int .i64 ((fcN t.moms n).cal (elt t.moms n).fn.toNat)) := z1
            clear k2 hfq z1
            go_wp2
            go_roundw
            case rel =>
              refine ⟨n + 1, f', by omega, by go_num, ?_, ?_, HM.out.setO HO.out (Nat.le_of_lt hw1) (by decide) _ _, HX.out.far (by dsimp only; omega) _⟩
              · exact HSS.out.mv ((Mv.refl [106] w.heap.size w3).setO HO.out (Nat.le_of_lt hw1) (by decide) _ _) (by decide) (by decide) (by decide)
              · have := fcC_cal HO.out hfq1 (fn := (elt t.moms n).fn) (by omega)
                have e : fcN t.moms (n + 1) = ⟨bump (fcN t.moms n).cal (elt t.moms n).fn, (fcN t.moms n).slf, (fcN t.moms n).tot⟩ := by
                  show fcStep _ _ _ = _
                  unfold fcStep; rw [if_pos HK2.out]
                rw [e]; exact this
            case measure => simp [intOf]; omega
          · by_cases k1 : (elt t.moms n).kind = 1
            · have hd1 : ((elt t.moms n).kind == 2) = false := by simp [k1]
              have hd2 : ((elt t.moms n).kind != 1) = false := by simp [k1]
              have HK1 := Lib.hid k1
              have z3 : w3.cell? ⟨w1.heap.size, (elt t.moms n).fn.toNat * 4 + 2, none⟩ = some (.int .i64 ((fcN t.moms n).slf (elt t.moms n).fn.toNat)) := HO.out.cells hfq1 (j := 2) (by omega)
              have z2 := HO.out.free ((elt t.moms n).fn.toNat * 4 + 2)
              have x0 : w3.cell? ⟨w.heap.size, 0, none⟩ = some (.slice A1 t.fns.length c1) := HX.out.cell (j := 0) (by simp)
              have hne : ¬ w1.heap.size = w.heap.size := by omega
              clear k1 k2 hfq
              have hw3 : w1.heap.size < w3.heap.size := HO.out.blt.2
              go_upto_region 20 with fail
              have hset := (Mv.refl [106] w.heap.size w3).setO HO.out (Nat.le_of_lt hw1) (by decide) ((elt t.moms n).fn.toNat * 4 + 2) (.int .i64 ((fcN t.moms n).slf (elt t.moms n).fn.toNat + 1))
              have hO4 := (fcC_slf HO.out hfq1 (fn := (elt t.moms n).fn) (by omega)).later (bl_alloc (Below.refl _ _) (.cells D 4))
              have hS4 := (HSS.out.mv hset (by decide) (by decide) (by decide)).later (bl_alloc (Below.refl _ _) (.cells D 4))
              have hX4 := (HX.out.far (p := ⟨w1.heap.size, (elt t.moms n).fn.toNat * 4 + 2, none⟩) (by dsimp only; omega) (.int .i64 ((fcN t.moms n).slf (elt t.moms n).fn.toNat + 1))).alloc (.cells D 4)
              have hM4 := (HM.out.setO HO.out (Nat.le_of_lt hw1) (by decide) ((elt t.moms n).fn.toNat * 4 + 2) (.int .i64 ((fcN t.moms n).slf (elt t.moms n).fn.toNat + 1))).alloc (by rw [World.size_setCell]; exact HM.out.size) (.cells D 4)
              have hB4 := OwR.made (e := 4) (w := w3.setCell ⟨w1.heap.size, (elt t.moms n).fn.toNat * 4 + 2, none⟩ (.int .i64 ((fcN t.moms n).slf (elt t.moms n).fn.toNat + 1))) HD.out Hd.out (by rfl) (by simp only [maxLen]; omega) (fun i _ => .bool (openIn [] i)) (fun i hi j hj => by
                obtain rfl : j = 0 := by omega
                rfl)
              rw [World.size_setCell] at hB4
              generalize hW4 : World.alloc _ _ = W4 at hO4 hS4 hX4 hM4 hB4 ⊢
              clear hW4 hset z3 z2 x0 y0 y2 HO HSS HX HM HMB hd1 hd2
              have HI2 := SO.out.inv (n + 1) (by omega)
              have i0 := HI2.lo
              have i1 := HI2.hi
              have i2 := HI2.deep (stN t.moms (n + 1)).cur
              have hcx : (stN t.moms (n + 1)).cur < 101 := by omega
              have HFN := Lib.hid (SO.out.fnsIn (n + 1) (by omega))
              have HTOT := Lib.hid (fun j => (fcN_bd t.moms n j).2.2)
              obtain ⟨Ah, ch, c0', c1', c2', -, -, hv, -⟩ := hS4.heads i0 i1
              have HV := Lib.hid hv
              have HSS := Lib.hid hS4
              have HO := Lib.hid hO4
              have HX := Lib.hid hX4
              have HM := Lib.hid hM4
              have HB := Lib.hid hB4
              clear hS4 hO4 hX4 hM4 hB4 hv HI2
              go_quiet (fail)
              go_wp2_with fail
              clear c0' c1' c2'
              go_loopw [84] (fun i wx => ∃ q : Nat, q ≤ (stN t.moms (n + 1)).top.length ∧ i = .int .i64 q ∧ IsS wx w.heap.size g T (stN t.moms (n + 1)) f' ∧
                OwR wx w1.heap.size 106 4 t.fns.length (fcC ⟨(fcN t.moms n).cal, bump (fcN t.moms n).slf (elt t.moms n).fn, bumpAll (fcN t.moms n).tot ((stN t.moms (n + 1)).top.reverse.take q)⟩) (.slice (some ⟨w1.heap.size, 0, none⟩) t.fns.length t.fns.length) ∧
                OwR wx w3.heap.size 4 1 t.fns.length (fun i _ => .bool (openIn ((stN t.moms (n + 1)).top.reverse.take q) i)) (.slice (some ⟨w3.heap.size, 0, none⟩) t.fns.length t.fns.length) ∧ Mv fcTys w.heap.size w wx ∧
                Blk wx w.heap.size 26 2 (fun j => #[Value.slice A1 t.fns.length c1, .slice (some ⟨b, o, none⟩) t.moms.length c2].getD j undef)) (fun i _ => (stN t.moms (n + 1)).top.length - (intOf i).toNat)
              case atStart =>
                refine ⟨0, Nat.zero_le _, rfl, HSS.out.drewN _, ?_, ?_, HM.out.drewN _, HX.out⟩
                · rw [List.take_zero]
                  exact HO.out.congr fun i hi j hj => by
                    match j, hj with
                    | 0, _ => rfl
                    | 1, _ => rfl
                    | 2, _ => rfl
                    | 3, _ => simp only [fcC, bumpAll_nil]
                · rw [List.take_zero]; exact HB.out
              case round =>
                obtain ⟨q, hq, rfl, hS, hO, hB, hM, hX⟩ := hrel
                clear HSS HO HX HM HB
                have HSS := Lib.hid hS
                have HO := Lib.hid hO
                have HM := Lib.hid hM
                have HX := Lib.hid hX
                have HB := Lib.hid hB
                clear hS hO hM hX hB
                by_cases hql : q < (stN t.moms (n + 1)).top.length
                · obtain ⟨Ah', ch', -, -, -, hcap, hcap2, hv', hrow⟩ := HSS.out.heads i0 i1
                  have hvv : Value.slice Ah (stN t.moms (n + 1)).top.length ch = Value.slice Ah' (stN t.moms (n + 1)).top.length ch' := by rw [← HV.out, hv']
                  obtain ⟨rfl, rfl⟩ : Ah = Ah' ∧ ch = ch' := by simpa using hvv
                  obtain ⟨b5, hb5⟩ : ∃ b5, Ah = some ⟨b5, 0, none⟩ := by
                    obtain ⟨A7, c7, e7, hop⟩ := hrow.open'
                    obtain ⟨b7, e8, -⟩ := hop (by omega)
                    cases e7
                    exact ⟨b7, e8⟩
                  subst hb5
                  have hqt : (q : Int) < ((stN t.moms (n + 1)).top.length : Int) := by omega
                  obtain ⟨fr, hfr⟩ : ∃ fr, elt (stN t.moms (n + 1)).top.reverse q = fr := ⟨_, rfl⟩
                  have u0 : wr.cell? ⟨b5, q * 3, none⟩ = some (.int .i64 fr.fn) := by have := hrow.cells hql (j := 0) (by omega); rw [← hfr]; exact this
                  have u1 : wr.cell? ⟨b5, q * 3 + 1, none⟩ = some (.int .i64 fr.line) := by have := hrow.cells hql (j := 1) (by omega); rw [← hfr]; exact this
                  have u2 : wr.cell? ⟨b5, q * 3 + 2, none⟩ = some (.int .i64 fr.frm) := by have := hrow.cells hql (j := 2) (by omega); rw [← hfr]; exact this
                  have hmem : fr ∈ (stN t.moms (n + 1)).stk (stN t.moms (n + 1)).cur := by
                    have : fr ∈ (stN t.moms (n + 1)).top.reverse := by rw [← hfr, elt_eq (by simpa using hql)]; exact List.getElem_mem _
                    simpa [PS.top] using this
                  obtain ⟨g0, g1⟩ := HFN.out _ fr hmem
                  have HTK := Lib.hid (take_snoc (xs := (stN t.moms (n + 1)).top.reverse) (i := q) (by simpa using hql))
                  have HFR := Lib.hid hfr
                  obtain ⟨fg, hfg⟩ : ∃ fg : Nat, fr.fn = (fg : Int) := ⟨fr.fn.toNat, by omega⟩
                  have e1 : fr.fn.toNat = fg := by omega
                  have hfg1 : fg < t.fns.length := by omega
                  have hfg2 : (fg : Int) < (t.fns.length : Int) := by omega
                  have HFG := Lib.hid hfg
                  rw [hfg] at u0
                  have hxl := HM.out.size
                  have hxl' : w.heap.size ≤ wr.heap.size := hxl
                  have hsx := HB.out.blt.2
                  have hox := HO.out.blt.2
                  have v0 : wr.cell? ⟨w3.heap.size, fg, none⟩ = some (.bool (openIn ((stN t.moms (n + 1)).top.reverse.take q) fg)) := by have := HB.out.cells hfg1 (j := 0) (by omega); simpa only [Nat.mul_one, Nat.add_zero] using this
                  have v1 := HB.out.free fg
                  have v2 : wr.cell? ⟨w1.heap.size, fg * 4 + 3, none⟩ = some (.int .i64 (bumpAll (fcN t.moms n).tot ((stN t.moms (n + 1)).top.reverse.take q) fg)) := HO.out.cells hfg1 (j := 3) (by omega)
                  have v3 := HO.out.free (fg * 4 + 3)
                  obtain ⟨q0, q1⟩ := bumpAll_bd (l := (stN t.moms (n + 1)).top.reverse.take q) (HTOT.out fg)
                  generalize hzz : bumpAll (fcN t.moms n).tot ((stN t.moms (n + 1)).top.reverse.take q) fg = zz at v2 q0 q1
                  generalize hop : openIn ((stN t.moms (n + 1)).top.reverse.take q) fg = ob at v0
                  have HZZ := Lib.hid hzz
                  have HOP := Lib.hid hop
                  clear hzz hop hv' hrow hvv hfr hmem hfg e1 g0 g1
                  cases ob with
                  | true =>
                    go_wp2
                    go_roundw
                    case rel =>
                      refine ⟨q + 1, by omega, by go_num, HSS.out.later (bl_alloc (Below.refl _ _) _), ?_, ?_, HM.out.alloc HM.out.size _, HX.out.alloc _⟩
                      · rw [HTK.out, HFR.out]
                        exact (HO.out.later (bl_alloc (Below.refl _ _) _)).congr fun i hi j hj => by
                          match j, hj with
                          | 0, _ => rfl
                          | 1, _ => rfl
                          | 2, _ => rfl
                          | 3, _ => simp only [fcC]; rw [bumpAll_old HFG.out HOP.out]
                      · rw [HTK.out, HFR.out]
                        exact (HB.out.later (bl_alloc (Below.refl _ _) _)).congr fun i hi j hj => by
                          rw [openIn_snoc]
                          by_cases hig : fr.fn = (i : Int)
                          · obtain rfl : fg = i := by have := HFG.out; omega
                            rw [HOP.out]; simp
                          · simp [hig]
                    case measure => simp [intOf]; omega
                  | false =>
                    have hB1 := HB.out
                    have hO1 := HO.out
                    have hM1 := Mv.refl [4, 106] w.heap.size wr
                    have hB2 : OwR _ _ _ _ _ (fun i _ => .bool (openIn ((stN t.moms (n + 1)).top.reverse.take q ++ [fr]) i)) _ := OwR.set (u := .bool true) (i0 := fg) (j0 := 0) hB1 hfg1 (by omega) (fun i j hi hj hne => by
                      rw [openIn_snoc]
                      have : ¬ fr.fn = (i : Int) := by have := HFG.out; omega
                      simp [this]) (by rw [openIn_snoc]; simp [HFG.out])
                    simp only [Nat.mul_one, Nat.add_zero] at hB2
                    obtain ⟨Nb, Fb, hBk⟩ := hB1.block (b := w3.heap.size) rfl
                    have hO2 := OwR.other hO1 hBk (by decide) fg (.bool true)
                    have hM2 := hM1.setO hB1 (by omega) (by decide) fg (.bool true)
                    obtain ⟨No, Fo, hOk⟩ := hO2.block (b := w1.heap.size) rfl
                    have hO3 := fcC_tot (fn := (fg : Int)) hO2 hfg1 rfl
                    dsimp only at hO3
                    rw [HZZ.out] at hO3
                    have hB3 := OwR.other hB2 hOk (by decide) (fg * 4 + 3) (.int .i64 (zz + 1))
                    have hM3 := hM2.setO hO2 (by omega) (by decide) (fg * 4 + 3) (.int .i64 (zz + 1))
                    have RO := Lib.hid (hO3.later (bl_alloc (Below.refl _ _) (.cells #[.int .i64 (fg : Int), .int .i64 fr.line, .int .i64 fr.frm] 42)))
                    have RB := Lib.hid (hB3.later (bl_alloc (Below.refl _ _) (.cells #[.int .i64 (fg : Int), .int .i64 fr.line, .int .i64 fr.frm] 42)))
                    have RM := Lib.hid (hM3.alloc (by simp; exact hxl') (.cells #[.int .i64 (fg : Int), .int .i64 fr.line, .int .i64 fr.frm] 42))
                    clear hB1 hO1 hM1 hB2 hBk hO2 hM2 hOk hO3 hB3 hM3
                    go_wp2
                    go_roundw
                    case rel =>
                      refine ⟨q + 1, by omega, by go_num, HSS.out.mv RM.out (by decide) (by decide) (by decide), ?_, ?_, HM.out.trans (RM.out.mono (by decide)), HX.out.mv RM.out (by decide)⟩
                      · rw [HTK.out, HFR.out]
                        exact RO.out.congr fun i hi j hj => by
                          match j, hj with
                          | 0, _ => rfl
                          | 1, _ => rfl
                          | 2, _ => rfl
                          | 3, _ => simp only [fcC]; rw [bumpAll_new HFG.out HOP.out]
                      · rw [HTK.out, HFR.out]
                        exact RB.out
                    case measure => simp [intOf]; omega
                · obtain rfl : q = (stN t.moms (n + 1)).top.length := by omega
                  go_wp2
                  go_roundw
                  case rel =>
                    refine ⟨n + 1, f', by omega, by go_num, HSS.out, ?_, HM.out, HX.out⟩
                    have e : fcN t.moms (n + 1) = ⟨(fcN t.moms n).cal, bump (fcN t.moms n).slf (elt t.moms n).fn, bumpAll (fcN t.moms n).tot (stN t.moms (n + 1)).top⟩ := by
                      show fcStep _ _ _ = _
                      unfold fcStep; rw [if_neg (by rw [HK1.out]; decide), if_pos HK1.out]
                    rw [e]
                    exact HO.out.congr fun i hi j hj => by
                      match j, hj with
                      | 0, _ => rfl
                      | 1, _ => rfl
                      | 2, _ => rfl
                      | 3, _ =>
                        simp only [fcC]
                        rw [List.take_of_length_le (by simp), bumpAll_rev]
                  case measure => simp [intOf]; omega
            · have hd1 : ((elt t.moms n).kind == 2) = false := by simp [k2]
              have hd2 : ((elt t.moms n).kind != 1) = true := by simp [k1]
              have HK1 := Lib.hid k1
              have HK2 := Lib.hid k2
              clear k1 k2 hfq
              go_wp2
              go_roundw
              case rel =>
                refine ⟨n + 1, f', by omega, by go_num, HSS.out, ?_, HM.out, HX.out⟩
                have e : fcN t.moms (n + 1) = fcN t.moms n := by
                  show fcStep _ _ _ = _
                  unfold fcStep; rw [if_neg HK2.out, if_neg HK1.out]
                rw [e]; exact HO.out
              case measure => simp [intOf]; omega
        · obtain rfl : n = t.moms.length := by omega
          go_wp2
          go_ret
          refine ⟨_, rfl, ?_, HM.out.bl⟩
          rw [HR.out, fcList_len]
          exact (HO.out.lower (Nat.le_of_lt hw1)).congr fun i hi j hj => (fcList_row _ hi).symm
theorem spec_FnCounts_calls (v1 v2 : Value) (t : PTr) (w : World) (h : RdTr w v1 v2 t) (hsm : smTr t) :
    Calls Tryz.prog 48 #[.agg #[v1, v2]] w (OwRet w 106 4 (fcP t).length (fcRow (fcP t))) := by
  cases hs : soundP t with
  | false => exact spec_FnCounts_bad v1 v2 t w h hsm hs
  | true => exact spec_FnCounts_good v1 v2 t w h hsm hs
end Go.Proofs.YtcklnjjbhngbcaaGreatDoor

namespace Go.Proofs.YtcklnjjbhngbcaaGreatDoor
open Go.RowKit Go.Proofs.Lens

theorem i_lc : (Tryz.prog.info? 111).map (fun i => (i.zero, i.size, i.bytes)) = some (some (.agg #[.int .i64 0, .int .i64 0, .int .i64 0]), 3, 24) := by kernel_rfl
def setC (C : Nat → Nat → Value) (i0 j0 : Nat) (u : Value) (i j : Nat) : Value := if i = i0 ∧ j = j0 then u else C i j
theorem owr_setF {w : World} {lo n sz : Nat} {e : TypeId} {C : Nat → Nat → Value} {b cap i0 j0 : Nat} (h : OwR w lo e sz n C (.slice (some ⟨b, 0, none⟩) n cap)) (hi : i0 < n) (hj : j0 < sz) (u : Value) :
    OwR (w.setCell ⟨b, i0 * sz + j0, none⟩ u) lo e sz n (setC C i0 j0 u) (.slice (some ⟨b, 0, none⟩) n cap) :=
  h.set hi hj (fun i j _ _ hne => by unfold setC; rw [if_neg (by omega)]) (by unfold setC; rw [if_pos ⟨rfl, rfl⟩])
/-- The first q elements counted up. -/
def upC (l : List PLc) (fn line : Int) (q i j : Nat) : Value := lcC [if i < q then lcUp1 fn line (elt l i) else elt l i] 0 j
theorem upC_0 (l : List PLc) (fn line : Int) {i : Nat} (j : Nat) : upC l fn line 0 i j = lcC l i j := by
  unfold upC lcC
  rw [if_neg (by omega)]
  rfl
theorem upC_step (l : List PLc) (fn line : Int) {q i j : Nat} (h : lcIs fn line (elt l q) = true) (hj : j < 3) : setC (upC l fn line q) q 2 (.int .i64 ((elt l q).cnt + 1)) i j = upC l fn line (q + 1) i j := by
  by_cases h1 : i = q
  · subst h1
    have e : lcUp1 fn line (elt l i) = ⟨(elt l i).fn, (elt l i).line, (elt l i).cnt + 1⟩ := by unfold lcUp1; rw [if_pos h]
    have hR : upC l fn line (i + 1) i j = lcC [⟨(elt l i).fn, (elt l i).line, (elt l i).cnt + 1⟩] 0 j := by unfold upC; rw [if_pos (by omega), e]
    have hQ : upC l fn line i i j = lcC [elt l i] 0 j := by unfold upC; rw [if_neg (by omega)]
    unfold setC
    rw [hR, hQ]
    match j, hj with
    | 0, _ => rw [if_neg (by omega)]; rfl
    | 1, _ => rw [if_neg (by omega)]; rfl
    | 2, _ => rw [if_pos ⟨rfl, rfl⟩]; rfl
  · unfold setC
    rw [if_neg (fun hh => h1 hh.1)]
    unfold upC
    by_cases h2 : i < q
    · rw [if_pos h2, if_pos (by omega)]
    · rw [if_neg h2, if_neg (by omega)]
theorem upC_end (l : List PLc) (fn line : Int) {i : Nat} (hi : i < l.length) (j : Nat) : upC l fn line l.length i j = lcC (lcUp l fn line) i j := by
  have e : elt (lcUp l fn line) i = lcUp1 fn line (elt l i) := by
    unfold lcUp
    rw [elt_eq (by rw [List.length_map]; exact hi), elt_eq hi, List.getElem_map]
  unfold upC lcC
  rw [if_pos hi, e]
  rfl
theorem lcMet_succ (l : List PLc) (fn line : Int) {q : Nat} (hq : q < l.length) : lcMet (l.take (q + 1)) fn line = (lcMet (l.take q) fn line || lcIs fn line (elt l q)) := by
  unfold lcMet; rw [take_snoc hq]; simp
/-- x at place q of l. -/
def insAt (l : List PLc) (x : PLc) (q : Nat) : List PLc := l.take q ++ x :: l.drop q
theorem insAt_len (l : List PLc) (x : PLc) {q : Nat} (hq : q ≤ l.length) : (insAt l x q).length = l.length + 1 := by simp [insAt]; omega
theorem insAt_elt (l : List PLc) (x : PLc) {q i : Nat} (hq : q ≤ l.length) (hi : i < l.length + 1) : elt (insAt l x q) i = if i < q then elt l i else if i = q then x else elt l (i - 1) := by
  have hl := insAt_len l x hq
  rw [elt_eq (by omega)]
  unfold insAt
  by_cases h1 : i < q
  · rw [if_pos h1, List.getElem_append_left (by rw [List.length_take]; omega), List.getElem_take, elt_eq (by omega)]
  · rw [if_neg h1, List.getElem_append_right (by rw [List.length_take]; omega)]
    have ht : (l.take q).length = q := by rw [List.length_take]; omega
    by_cases h2 : i = q
    · subst h2
      rw [if_pos rfl]
      simp [ht]
    · rw [if_neg h2]
      obtain ⟨d, rfl⟩ : ∃ d, i = q + d + 1 := ⟨i - q - 1, by omega⟩
      have e : q + d + 1 - (l.take q).length = d + 1 := by rw [ht]; omega
      simp only [e, List.getElem_cons_succ, List.getElem_drop]
      rw [elt_eq (by omega)]
      congr 1
theorem swap_c (l : List PLc) (x : PLc) {p q i j : Nat} (hq : q = p + 1) (hl : q ≤ l.length) (hi : i < l.length + 1) (hj : j < 3) :
    setC (setC (setC (setC (setC (setC (lcC (insAt l x q)) p 0 (.int .i64 x.fn)) p 1 (.int .i64 x.line)) p 2 (.int .i64 x.cnt)) q 0 (.int .i64 (elt l p).fn)) q 1 (.int .i64 (elt l p).line)) q 2 (.int .i64 (elt l p).cnt) i j = lcC (insAt l x p) i j := by
  subst hq
  have e2 := insAt_elt l x (q := p) (i := i) (by omega) hi
  have e1 := insAt_elt l x (q := p + 1) (i := i) (by omega) hi
  by_cases h1 : i = p + 1
  · subst h1
    rw [if_neg (by omega), if_neg (by omega), show p + 1 - 1 = p by omega] at e2
    unfold setC lcC
    rw [e2]
    match j, hj with
    | 0, _ => simp
    | 1, _ => simp
    | 2, _ => simp
  · by_cases h2 : i = p
    · subst h2
      rw [if_neg (by omega), if_pos rfl] at e2
      unfold setC lcC
      rw [e2]
      match j, hj with
      | 0, _ => simp
      | 1, _ => simp
      | 2, _ => simp
    · have e3 : elt (insAt l x (p + 1)) i = elt (insAt l x p) i := by
        rw [e1, e2]
        by_cases h3 : i < p
        · rw [if_pos (by omega), if_pos h3]
        · rw [if_neg (by omega), if_neg h1, if_neg h3, if_neg h2]
      unfold setC lcC
      rw [e3]
      simp [h1, h2]
theorem lcSorted_take {l : List PLc} (h : LcSorted l) {q : Nat} {x : PLc} (hq : q + 1 ≤ l.length) (hx : lcLt (elt l q) x = true) : ∀ y ∈ l.take (q + 1), lcLt y x = true := by
  intro y hy
  rw [take_snoc (by omega)] at hy
  rcases List.mem_append.1 hy with hy | hy
  · have h2 : l = l.take q ++ elt l q :: l.drop (q + 1) := by rw [← drop_cons (by omega), List.take_append_drop]
    unfold LcSorted at h
    rw [h2, List.pairwise_append] at h
    exact lcLt_trans (h.2.2 y hy _ (List.mem_cons_self ..)) hx
  · simp at hy; subst hy; exact hx

set_option maxRecDepth 100000 in
set_option maxHeartbeats 2000000 in
theorem spec_LineCounts_bad (v1 v2 : Value) (t : PTr) (w : World) (h : RdTr w v1 v2 t) (hsm : smTr t) (hs : soundP t = false) :
    Calls Tryz.prog 50 #[.agg #[v1, v2]] w (OwRet w 111 3 (lcP t).length (lcC (lcP t))) := by
  have HT := Lib.hid h
  have HS := Lib.hid hsm
  obtain ⟨⟨A1, c1, rfl, hn1, -⟩, ⟨vv, ⟨A2, c2, rfl, hn2, -⟩, -⟩⟩ := h
  have HR : Hid (lcP t = []) := Lib.hid (by unfold lcP; rw [hs]; rfl)
  have HQ := Lib.hid hs
  clear hs hsm
  go_enter Tryz.func50, Tryz.ntmps50
  go_wp2_with fail
  refine (l1ok_is _ _ t _ (HT.out.later (by repeat (with_reducible first | exact Below.refl _ _ | exact HL.out | refine bl_drewN ?_ _ | refine bl_drew ?_ | refine bl_alloc ?_ _ | refine bl_set ?_ (by dsimp only; omega) _))) HS.out HQ.out).mono ?_; rintro e w1 ⟨rfl, hb⟩
  have HB := Lib.hid (bl_then (bl_alloc (Below.refl _ w) _) hb)
  clear hb
  go_wp2
  go_ret
  rw [HR.out]
  exact ⟨_, rfl, OwR.nil, HB.out⟩

theorem swap_own {w : World} {lo ga L1 cap p q : Nat} {l : List PLc} {x : PLc} (hO : OwR w lo 111 3 L1 (lcC (insAt l x q)) (.slice (some ⟨ga, 0, none⟩) L1 cap)) (o1 o2 : Obj) (hp : p < L1) (hq : q < L1)
    (hsw : ∀ i, i < L1 → ∀ j, j < 3 → setC (setC (setC (setC (setC (setC (lcC (insAt l x q)) p 0 (.int .i64 x.fn)) p 1 (.int .i64 x.line)) p 2 (.int .i64 x.cnt)) q 0 (.int .i64 (elt l p).fn)) q 1 (.int .i64 (elt l p).line)) q 2 (.int .i64 (elt l p).cnt) i j = lcC (insAt l x p) i j) :
    OwR ((((((((w.setCell ⟨ga, p * 3, none⟩ (.int .i64 x.fn)).setCell ⟨ga, p * 3 + 1, none⟩ (.int .i64 x.line)).setCell ⟨ga, p * 3 + 2, none⟩ (.int .i64 x.cnt)).setCell ⟨ga, q * 3, none⟩ (.int .i64 (elt l p).fn)).setCell ⟨ga, q * 3 + 1, none⟩ (.int .i64 (elt l p).line)).setCell ⟨ga, q * 3 + 2, none⟩ (.int .i64 (elt l p).cnt)).alloc o1).alloc o2) lo 111 3 L1 (lcC (insAt l x p)) (.slice (some ⟨ga, 0, none⟩) L1 cap) :=
  ((owr_setF (owr_setF (owr_setF (owr_setF (owr_setF (owr_setF hO (i0 := p) (j0 := 0) hp (by omega) (.int .i64 x.fn)) (i0 := p) (j0 := 1) hp (by omega) (.int .i64 x.line)) (i0 := p) (j0 := 2) hp (by omega) (.int .i64 x.cnt))
    (i0 := q) (j0 := 0) hq (by omega) (.int .i64 (elt l p).fn)) (i0 := q) (j0 := 1) hq (by omega) (.int .i64 (elt l p).line)) (i0 := q) (j0 := 2) hq (by omega) (.int .i64 (elt l p).cnt)).congr hsw).later (bl_alloc (bl_alloc (Below.refl _ _) o1) o2)

set_option maxRecDepth 100000 in
set_option maxHeartbeats 20000000 in
theorem spec_LineCounts_good (v1 v2 : Value) (t : PTr) (w : World) (h : RdTr w v1 v2 t) (hsm : smTr t) (hs : soundP t = true) :
    Calls Tryz.prog 50 #[.agg #[v1, v2]] w (OwRet w 111 3 (lcP t).length (lcC (lcP t))) := by
  have HT := Lib.hid h
  have HS := Lib.hid hsm
  obtain ⟨⟨A1, c1, rfl, hn1, -⟩, ⟨vv, ⟨A2, c2, rfl, hn2, -⟩, -⟩⟩ := h
  have HR : Hid (lcP t = lcN t.moms t.moms.length) := Lib.hid (by unfold lcP; rw [hs]; rfl)
  have HQ := Lib.hid hs
  have hso := sound_iff hs
  obtain ⟨nf0, nf1, nm1⟩ := sound_fns hso
  have SO := Lib.hid hso
  clear hs hsm hso
  go_enter Tryz.func50, Tryz.ntmps50
  go_wp2_with fail
  refine (l1ok_is _ _ t _ (HT.out.later (by repeat (with_reducible first | exact Below.refl _ _ | exact HL.out | refine bl_drewN ?_ _ | refine bl_drew ?_ | refine bl_alloc ?_ _ | refine bl_set ?_ (by dsimp only; omega) _))) HS.out HQ.out).mono ?_; rintro e w1 ⟨rfl, hb⟩
  have HX := Lib.hid ((Blk.made w #[.slice A1 t.fns.length c1, .slice A2 t.moms.length c2] 26).later hb)
  have HM := Lib.hid (bl_then (bl_alloc (Below.refl _ w) _) hb)
  have hw1 : w.heap.size < w1.heap.size := HX.out.lt
  clear hb
  have x0 : w1.cell? ⟨w.heap.size, 1, none⟩ = some (.slice A2 t.moms.length c2) := HX.out.cell (j := 1) (by simp)
  go_wp2_with fail
  clear x0
  go_loopw [3, 17] (fun ov i wr => ∃ n : Nat, n ≤ t.moms.length ∧ i = .int .i64 n ∧ OwR wr w1.heap.size 111 3 (lcN t.moms n).length (lcC (lcN t.moms n)) ov ∧ Below w.heap.size w wr ∧ w1.heap.size ≤ wr.heap.size) (fun _ i _ => t.moms.length - (intOf i).toNat)
  case atStart => exact ⟨0, Nat.zero_le _, rfl, OwR.nil, HM.out, Nat.le_refl _⟩
  case round =>
    obtain ⟨n, hn, rfl, hO, hM, hsr⟩ := hrel
    clear HM HX
    have HO := Lib.hid hO
    have HM := Lib.hid hM
    obtain ⟨A3, c3, rfl, hcc, hcd⟩ := hO.cap
    have hll := lcN_len t.moms n
    have hst := lcN_sorted t.moms n
    have hbnd : ∀ x ∈ lcN t.moms n, 0 ≤ x.cnt ∧ x.cnt ≤ n := fun x hx => by
      have h1 := (lcN_mem t.moms n x).1 hx
      have h2 := lcK_bd t.moms x.fn x.line n
      omega
    have hnx : lcN t.moms (n + 1) = lcStep (lcN t.moms n) (elt t.moms n) := rfl
    clear hO hM
    by_cases h2 : n < t.moms.length
    · obtain ⟨b, o, vk, hA, d0, d1, d2, d3, d4, d5, hvk⟩ := rd_moment (HT.out.2.later HM.out) h2
      obtain ⟨Av, cv, rfl, -⟩ := hvk
      subst hA
      obtain ⟨l, hl⟩ : ∃ l, lcN t.moms n = l := ⟨_, rfl⟩
      have hl0 := hl
      rw [hl] at HO hll hst hbnd hnx hcc
      obtain ⟨L, hL⟩ : ∃ L, l.length = L := ⟨_, rfl⟩
      have HST := Lib.hid hst
      have HBND := Lib.hid hbnd
      have HNX := Lib.hid hnx
      have HLL := Lib.hid hL
      clear hst hbnd hnx hl
      rw [hL] at HO hll hcc
      clear hL
      rw [show (lcN t.moms n).length = L from by rw [hl0]; exact HLL.out]
      go_upto_region 7 with fail
      have HMB : Hid (Blk (wr.alloc _) wr.heap.size 114 6 _) := Lib.hid (Blk.made wr #[.int .i64 (elt t.moms n).kind, .int .i64 (elt t.moms n).task, .int .i64 (elt t.moms n).fn, .int .i64 (elt t.moms n).line, .string (elt t.moms n).text, .slice Av (elt t.moms n).vars.length cv] 114)
      replace HO := Lib.hid (HO.out.later (bl_alloc (Below.refl _ _) (.cells #[.int .i64 (elt t.moms n).kind, .int .i64 (elt t.moms n).task, .int .i64 (elt t.moms n).fn, .int .i64 (elt t.moms n).line, .string (elt t.moms n).text, .slice Av (elt t.moms n).vars.length cv] 114)))
      replace HM := Lib.hid (bl_alloc HM.out (.cells #[.int .i64 (elt t.moms n).kind, .int .i64 (elt t.moms n).task, .int .i64 (elt t.moms n).fn, .int .i64 (elt t.moms n).line, .string (elt t.moms n).text, .slice Av (elt t.moms n).vars.length cv] 114))
      generalize hW2 : World.alloc wr _ = W2 at HMB HO HM ⊢
      have hs2 : w1.heap.size ≤ W2.heap.size := by rw [← hW2, World.size_alloc]; omega
      have hmb0 : wr.heap.size < W2.heap.size := by rw [← hW2, World.size_alloc]; omega
      clear hW2 d0 d1 d2 d3 d4 d5
      obtain ⟨mb, hmb⟩ : ∃ b, wr.heap.size = b := ⟨_, rfl⟩
      rw [hmb] at HMB hmb0 hsr ⊢
      clear hmb
      obtain ⟨m, hm⟩ : ∃ m, elt t.moms n = m := ⟨_, rfl⟩
      rw [hm] at HMB HNX
      have y0 : W2.cell? ⟨mb, 0, none⟩ = some (.int .i64 m.kind) := HMB.out.cell (j := 0) (by omega)
      have y2 : W2.cell? ⟨mb, 2, none⟩ = some (.int .i64 m.fn) := HMB.out.cell (j := 2) (by omega)
      have y3 : W2.cell? ⟨mb, 3, none⟩ = some (.int .i64 m.line) := HMB.out.cell (j := 3) (by omega)
      clear hm
      by_cases k1 : m.kind = 1
      · have hd1 : (m.kind != 1) = false := by simp [k1]
        have hstep : lcStep l m = if lcMet l m.fn m.line = true then lcUp l m.fn m.line else lcIns ⟨m.fn, m.line, 1⟩ l := by unfold lcStep; rw [if_neg (by rw [k1]; simp)]
        have HSTEP := Lib.hid (HNX.out.trans hstep)
        clear hstep k1
        go_wp2_with fail
        go_loopw [6, 26] (fun mv i wx => ∃ q : Nat, q ≤ L ∧ i = .int .i64 q ∧ mv = .bool (lcMet (l.take q) m.fn m.line) ∧ OwR wx w1.heap.size 111 3 L (upC l m.fn m.line q) (.slice A3 L c3) ∧ Blk wx mb 114 6 (fun j => #[.int .i64 m.kind, .int .i64 m.task, .int .i64 m.fn, .int .i64 m.line, .string m.text, .slice Av m.vars.length cv].getD j undef) ∧ Below w.heap.size w wx ∧ w1.heap.size ≤ wx.heap.size) (fun _ i _ => L - (intOf i).toNat)
        case atStart => exact ⟨0, Nat.zero_le _, rfl, rfl, HO.out.congr fun i _ j _ => (upC_0 l _ _ j).symm, HMB.out, HM.out, hs2⟩
        case round =>
          obtain ⟨q, hq, rfl, rfl, hO, hMB, hM, hsx⟩ := hrel
          clear HO HM HMB y0 y2 y3
          have HO := Lib.hid hO
          have HMB := Lib.hid hMB
          have HM := Lib.hid hM
          have y2 : wr.cell? ⟨mb, 2, none⟩ = some (.int .i64 m.fn) := HMB.out.cell (j := 2) (by simp)
          have y3 : wr.cell? ⟨mb, 3, none⟩ = some (.int .i64 m.line) := HMB.out.cell (j := 3) (by simp)
          by_cases hlq : q < L
          · obtain ⟨A7, c7, e7, hop⟩ := hO.open'
            obtain ⟨b7, e8, hb7, hb8, hcw, hfz⟩ := hop (by omega)
            obtain ⟨rfl, rfl⟩ : A3 = A7 ∧ c3 = c7 := by simpa using e7
            subst e8
            have hq7 : upC l m.fn m.line q q 0 = .int .i64 (elt l q).fn ∧ upC l m.fn m.line q q 1 = .int .i64 (elt l q).line ∧ upC l m.fn m.line q q 2 = .int .i64 (elt l q).cnt := by
              unfold upC lcC
              rw [if_neg (by omega)]
              exact ⟨rfl, rfl, rfl⟩
            have x0 : wr.cell? ⟨b7, q * 3, none⟩ = some (.int .i64 (elt l q).fn) := by have := hcw q hlq 0 (by omega); rw [hq7.1] at this; exact this
            have x1 : wr.cell? ⟨b7, q * 3 + 1, none⟩ = some (.int .i64 (elt l q).line) := by have := hcw q hlq 1 (by omega); rw [hq7.2.1] at this; exact this
            have x2 : wr.cell? ⟨b7, q * 3 + 2, none⟩ = some (.int .i64 (elt l q).cnt) := by have := hcw q hlq 2 (by omega); rw [hq7.2.2] at this; exact this
            have f2 := hfz (q * 3 + 2)
            have hcnt : 0 ≤ (elt l q).cnt ∧ (elt l q).cnt ≤ n := HBND.out _ (by rw [elt_eq (by rw [HLL.out]; exact hlq)]; exact List.getElem_mem _)
            have hlq' : (q : Int) < (L : Int) := by omega
            have hms := lcMet_succ l m.fn m.line (q := q) (by rw [HLL.out]; exact hlq)
            have HMS := Lib.hid hms
            have hse : ∀ i, i < L → ∀ j, j < 3 → lcIs m.fn m.line (elt l q) = false → upC l m.fn m.line q i j = upC l m.fn m.line (q + 1) i j := by
              intro i hi j hj hno
              unfold upC lcC
              by_cases h1 : i < q
              · rw [if_pos h1, if_pos (by omega)]
              · rw [if_neg h1]
                by_cases h3 : i = q
                · subst h3
                  rw [if_pos (by omega)]
                  unfold lcUp1
                  rw [if_neg (by rw [hno]; simp)]
                · rw [if_neg (by omega)]
            have HSE := Lib.hid hse
            have hc3' : b7 ≠ mb := fun hh => by
              obtain ⟨N, F, hBk⟩ := hO.block (b := b7) rfl
              exact hBk.ne hMB (by decide) hh
            clear hO hMB hM hop hcw hfz e7 hq7 hms hse
            by_cases hf : (elt l q).fn = m.fn
            · have hd1 : ((elt l q).fn == m.fn) = true := by simp [hf]
              by_cases hln : (elt l q).line = m.line
              · have hd2 : ((elt l q).line == m.line) = true := by simp [hln]
                have hI : lcIs m.fn m.line (elt l q) = true := lcIs_iff.2 ⟨hf, hln⟩
                have HI := Lib.hid hI
                clear hf hln hI
                go_wp2_with fail
                go_quiet (fail)
                go_wp2
                go_roundw
                case rel =>
                  have hO9 := fun nn => owr_setF (HO.out.later (bl_drewN (Below.refl _ _) nn)) (i0 := q) (j0 := 2) hlq (by omega) (.int .i64 ((elt l q).cnt + 1))
                  exact ⟨q + 1, by omega, by go_num, by rw [HMS.out, HI.out, Bool.or_true], (hO9 _).congr (fun i hi j hj => upC_step l m.fn m.line HI.out hj), (HMB.out.later (bl_drewN (Below.refl _ _) _)).far (fun hh => hc3' hh.symm) _, bl_set (bl_drewN HM.out _) (by dsimp only; omega) _, by rw [World.size_setCell]; exact hsx⟩
                case measure => simp [intOf]; omega
              · have hd2 : ((elt l q).line == m.line) = false := by simp [hln]
                have hI : lcIs m.fn m.line (elt l q) = false := by unfold lcIs; simp [hln]
                have HI := Lib.hid hI
                clear hf hln hI
                go_wp2_with fail
                go_quiet (fail)
                go_wp2
                go_roundw
                case rel => exact ⟨q + 1, by omega, by go_num, by rw [HMS.out, HI.out, Bool.or_false], (HO.out.later (bl_drewN (Below.refl _ _) _)).congr (fun i hi j hj => HSE.out i hi j hj HI.out), HMB.out.later (bl_drewN (Below.refl _ _) _), bl_drewN HM.out _, hsx⟩
                case measure => simp [intOf]; omega
            · have hd1 : ((elt l q).fn == m.fn) = false := by simp [hf]
              have hI : lcIs m.fn m.line (elt l q) = false := by unfold lcIs; simp [hf]
              have HI := Lib.hid hI
              clear hf hI
              go_wp2_with fail
              go_quiet (fail)
              go_wp2
              go_roundw
              case rel => exact ⟨q + 1, by omega, by go_num, by rw [HMS.out, HI.out, Bool.or_false], (HO.out.later (bl_drewN (Below.refl _ _) _)).congr (fun i hi j hj => HSE.out i hi j hj HI.out), HMB.out.later (bl_drewN (Below.refl _ _) _), bl_drewN HM.out _, hsx⟩
              case measure => simp [intOf]; omega
          · obtain rfl : L = q := by omega
            have htk : l.take L = l := List.take_of_length_le (by have := HLL.out; omega)
            have hO9 := hO.congr (C' := lcC (lcUp l m.fn m.line)) (fun i hi j hj => by
              have := upC_end l m.fn m.line (i := i) (by rw [HLL.out]; exact hi) j
              rw [HLL.out] at this
              exact this)
            rw [htk]
            replace HO := Lib.hid hO9
            clear hO hMB hM htk hO9
            cases hmt : lcMet l m.fn m.line with
            | true =>
              have HS2 : Hid (lcN t.moms (n + 1) = lcUp l m.fn m.line) := Lib.hid (by rw [HSTEP.out, hmt]; rfl)
              have hlu : (lcUp l m.fn m.line).length = L := by unfold lcUp; rw [List.length_map]; exact HLL.out
              have HLU := Lib.hid hlu
              clear hmt hlu y2 y3
              go_wp2
              go_roundw
              case rel => exact ⟨n + 1, by omega, by go_num, by rw [HS2.out, HLU.out]; exact HO.out, HM.out, hsx⟩
              case measure => simp [intOf]; omega
            | false =>
              have HS2 : Hid (lcN t.moms (n + 1) = lcIns ⟨m.fn, m.line, 1⟩ l) := Lib.hid (by rw [HSTEP.out, hmt]; rfl)
              have hno := lcMet_false hmt
              have hlu : lcUp l m.fn m.line = l := lcUp_none hno
              have HNO := Lib.hid hno
              rw [hlu] at HO
              obtain ⟨x, hx⟩ : ∃ x : PLc, (⟨m.fn, m.line, 1⟩ : PLc) = x := ⟨_, rfl⟩
              have hxf : x.fn = m.fn ∧ x.line = m.line ∧ x.cnt = 1 := by rw [← hx]; exact ⟨rfl, rfl, rfl⟩
              rw [hx] at HS2
              have HXF := Lib.hid hxf
              clear hmt hno hlu hx hxf
              obtain ⟨L1, hL1⟩ : ∃ L1, L + 1 = L1 := ⟨_, rfl⟩
              go_wp2_with (at_builtin; refine stopped ?_)
              unfold Stopped
              refine wpList_append1 _ (by rfl) _ _ 103 (by rfl) w1.heap.size 111 _ 3 24 Tryz.underlying103 i_lc rfl (by omega) _ L _ (lcC (insAt l x L)) (by rfl) HO.out [.int .i64 m.fn, .int .i64 m.line, .int .i64 1] rfl (by simp [Value.oneCell']) (by rfl) (fun i hi j _ => by
                unfold lcC
                rw [insAt_elt l x (by rw [HLL.out]; omega) (by rw [HLL.out]; omega), if_pos hi]) ?hNl hsx (by omega) (by omega) ?_
              case hNl =>
                intro j hj
                have e : elt (insAt l x L) L = x := by rw [insAt_elt l x (by rw [HLL.out]; omega) (by rw [HLL.out]; omega), if_neg (by omega), if_pos rfl]
                unfold lcC
                rw [e]
                obtain ⟨a1, a2, a3⟩ := HXF.out
                match j, hj with
                | 0, _ => rw [a1]; rfl
                | 1, _ => rw [a2]; rfl
                | 2, _ => rw [a3]; rfl
              intro ga capa w5 hO5 hG5 _ hga
              have hB5 := bl_own HM.out (by omega) (HO.out.lower (Nat.le_of_lt hw1)) hG5
              have hs5 : w1.heap.size ≤ w5.heap.size := Nat.le_trans hsx hG5.size
              rw [hL1] at hO5 ⊢
              have HO5 := Lib.hid hO5
              have HB5 := Lib.hid hB5
              have HL1 := Lib.hid hL1
              have eL1 : (L1 : Int) - 1 = (L : Int) := by omega
              clear hO5 hG5 hB5 y2 y3 HO HM HMB
              go_wp2_with fail
              go_loopw [8] (fun kv wx => ∃ q : Nat, q ≤ L ∧ kv = .int .i64 q ∧ OwR wx w1.heap.size 111 3 L1 (lcC (insAt l x q)) (.slice (some ⟨ga, 0, none⟩) L1 capa) ∧ (∀ y ∈ (l.drop q).head?, lcLt y x = false) ∧ Below w.heap.size w wx ∧ w1.heap.size ≤ wx.heap.size) (fun kv _ => (intOf kv).toNat)
              case atStart => exact ⟨L, Nat.le_refl _, rfl, HO5.out, fun y hy => absurd hy (by rw [List.drop_eq_nil_of_le (by rw [HLL.out]; omega)]; simp), HB5.out, hs5⟩
              case round =>
                obtain ⟨q, hq, rfl, hO, hhd, hB, hsx⟩ := hrel
                clear HO5 HB5 hs5
                have HO := Lib.hid hO
                have HB := Lib.hid hB
                have HHD := Lib.hid hhd
                by_cases hq0 : 0 < q
                · obtain ⟨p, hqp⟩ : ∃ p, q = p + 1 := ⟨q - 1, by omega⟩
                  have eqp : (q : Int) - 1 = (p : Int) := by omega
                  have HQP := Lib.hid hqp
                  have hpL1 : p < L1 := by have := HL1.out; omega
                  have hqL1 : q < L1 := by have := HL1.out; omega
                  have hpI : (p : Int) < (L1 : Int) := by omega
                  have hqI : (q : Int) < (L1 : Int) := by omega
                  have hp0 : (0 : Int) ≤ (p : Int) := by omega
                  have hlen1 : q ≤ l.length := by rw [HLL.out]; exact hq
                  have hlen2 : p ≤ l.length := by omega
                  have hl1 : l.length + 1 = L1 := by rw [HLL.out]; exact HL1.out
                  have ep : elt (insAt l x q) p = elt l p := by rw [insAt_elt l x hlen1 (by omega), if_pos (by omega)]
                  have eq' : elt (insAt l x q) q = x := by rw [insAt_elt l x hlen1 (by omega), if_neg (by omega), if_pos rfl]
                  obtain ⟨A7, c7, e7, hop⟩ := hO.open'
                  obtain ⟨b7, e8, hb7, hb8, hcw, hfz⟩ := hop (by omega)
                  cases e7
                  cases e8
                  have a0 : wr.cell? ⟨ga, p * 3, none⟩ = some (.int .i64 (elt l p).fn) := by have := hcw p hpL1 0 (by omega); simp only [lcC, ep] at this; exact this
                  have a1 : wr.cell? ⟨ga, p * 3 + 1, none⟩ = some (.int .i64 (elt l p).line) := by have := hcw p hpL1 1 (by omega); simp only [lcC, ep] at this; exact this
                  have a2 : wr.cell? ⟨ga, p * 3 + 2, none⟩ = some (.int .i64 (elt l p).cnt) := by have := hcw p hpL1 2 (by omega); simp only [lcC, ep] at this; exact this
                  have b0 : wr.cell? ⟨ga, q * 3, none⟩ = some (.int .i64 x.fn) := by have := hcw q hqL1 0 (by omega); simp only [lcC, eq'] at this; exact this
                  have b1 : wr.cell? ⟨ga, q * 3 + 1, none⟩ = some (.int .i64 x.line) := by have := hcw q hqL1 1 (by omega); simp only [lcC, eq'] at this; exact this
                  have b2 : wr.cell? ⟨ga, q * 3 + 2, none⟩ = some (.int .i64 x.cnt) := by have := hcw q hqL1 2 (by omega); simp only [lcC, eq'] at this; exact this
                  have z0 := hfz (p * 3)
                  have z1 := hfz (p * 3 + 1)
                  have z2 := hfz (p * 3 + 2)
                  have z3 := hfz (q * 3)
                  have z4 := hfz (q * 3 + 1)
                  have z5 := hfz (q * 3 + 2)
                  have hsw : ∀ i, i < L1 → ∀ j, j < 3 → setC (setC (setC (setC (setC (setC (lcC (insAt l x q)) p 0 (.int .i64 x.fn)) p 1 (.int .i64 x.line)) p 2 (.int .i64 x.cnt)) q 0 (.int .i64 (elt l p).fn)) q 1 (.int .i64 (elt l p).line)) q 2 (.int .i64 (elt l p).cnt) i j = lcC (insAt l x p) i j := fun i hi j hj => swap_c l x hqp hlen1 (by omega) hj
                  have HSW := Lib.hid hsw
                  have HB7 := Lib.hid hb7
                  clear hcw hfz hop hqp ep eq' hsw hhd hB hb7 hq0 hlen1 hlen2 hl1
                  by_cases hff : (elt l p).fn < x.fn
                  · have hd1 : decide ((elt l p).fn < x.fn) = true := by simp [hff]
                    have HLT := Lib.hid (show lcLt (elt l p) x = true from lcLt_iff.2 (.inl hff))
                    clear hff
                    clear hO
                    go_wp2
                    go_roundw
                    case rel =>
                      have e := lcIns_at (x := x) (l := l) (k := q) (by rw [HLL.out]; exact hq) (HQP.out ▸ lcSorted_take HST.out (by rw [HLL.out]; omega) HLT.out) HHD.out
                      have hle : (lcIns x l).length = L1 := by rw [lcIns_len, HLL.out]; exact HL1.out
                      refine ⟨n + 1, by omega, by go_num, ?_, bl_alloc (bl_alloc HB.out _) _, by simp; omega⟩
                      rw [HS2.out, hle]
                      rw [e]
                      exact (HO.out.later (bl_alloc (bl_alloc (Below.refl _ _) _) _))
                    case measure => simp [intOf]; omega
                  · have hd1 : decide ((elt l p).fn < x.fn) = false := by simp; omega
                    by_cases hfe : (elt l p).fn = x.fn
                    · have hd2 : ((elt l p).fn == x.fn) = true := by simp [hfe]
                      by_cases hll2 : (elt l p).line < x.line
                      · have hd3 : decide ((elt l p).line < x.line) = true := by simp [hll2]
                        have HLT := Lib.hid (show lcLt (elt l p) x = true from lcLt_iff.2 (.inr ⟨hfe, hll2⟩))
                        clear hff hfe hll2
                        clear hO
                        go_wp2
                        go_roundw
                        case rel =>
                          have e := lcIns_at (x := x) (l := l) (k := q) (by rw [HLL.out]; exact hq) (HQP.out ▸ lcSorted_take HST.out (by rw [HLL.out]; omega) HLT.out) HHD.out
                          have hle : (lcIns x l).length = L1 := by rw [lcIns_len, HLL.out]; exact HL1.out
                          refine ⟨n + 1, by omega, by go_num, ?_, bl_alloc (bl_alloc HB.out _) _, by simp; omega⟩
                          rw [HS2.out, hle]
                          rw [e]
                          exact (HO.out.later (bl_alloc (bl_alloc (Below.refl _ _) _) _))
                        case measure => simp [intOf]; omega
                      · have hd3 : decide ((elt l p).line < x.line) = false := by simp; omega
                        have HLT := Lib.hid (show lcLt (elt l p) x = false from lcLt_not.2 (by omega))
                        clear hff hfe hll2
                        clear hO
                        go_wp2
                        go_roundw
                        case rel =>
                          refine ⟨p, by omega, rfl, ?_, fun y hy => ?_, ?_, ?_⟩
                          · exact swap_own HO.out _ _ hpL1 hqL1 HSW.out
                          · rw [drop_cons (by rw [HLL.out]; omega)] at hy
                            simp at hy
                            subst hy
                            exact HLT.out
                          · have h7 := HB7.out
                            refine bl_alloc (bl_alloc ?_ _) _
                            repeat (with_reducible refine bl_set ?_ (by dsimp only; omega) _)
                            exact HB.out
                          · simp; omega
                        case measure => simp [intOf]; omega
                    · have hd2 : ((elt l p).fn == x.fn) = false := by simp [hfe]
                      have HLT := Lib.hid (show lcLt (elt l p) x = false from lcLt_not.2 (by omega))
                      clear hff hfe
                      clear hO
                      go_wp2
                      go_roundw
                      case rel =>
                        refine ⟨p, by omega, rfl, ?_, fun y hy => ?_, ?_, ?_⟩
                        · exact swap_own HO.out _ _ hpL1 hqL1 HSW.out
                        · rw [drop_cons (by rw [HLL.out]; omega)] at hy
                          simp at hy
                          subst hy
                          exact HLT.out
                        · have h7 := HB7.out
                          refine bl_alloc (bl_alloc ?_ _) _
                          repeat (with_reducible refine bl_set ?_ (by dsimp only; omega) _)
                          exact HB.out
                        · simp; omega
                      case measure => simp [intOf]; omega
                · obtain rfl : q = 0 := by omega
                  clear hO hhd hB
                  go_wp2
                  go_roundw
                  case rel =>
                    have e := lcIns_at (x := x) (l := l) (k := 0) (Nat.zero_le _) (fun y hy => absurd hy (by simp)) HHD.out
                    have hle : (lcIns x l).length = L1 := by rw [lcIns_len, HLL.out]; exact HL1.out
                    refine ⟨n + 1, by omega, by go_num, ?_, HB.out, hsx⟩
                    rw [HS2.out, hle]
                    rw [e]
                    exact HO.out
                  case measure => simp [intOf]; omega
      · have hd1 : (m.kind != 1) = true := by simp [k1]
        have HS2 : Hid (lcN t.moms (n + 1) = l) := Lib.hid (by rw [HNX.out]; unfold lcStep; rw [if_pos k1])
        clear k1
        go_wp2
        go_roundw
        case rel => exact ⟨n + 1, by omega, by go_num, by rw [HS2.out, HLL.out]; exact HO.out, HM.out, hs2⟩
        case measure => simp [intOf]; omega
    · obtain rfl : n = t.moms.length := by omega
      go_wp2
      go_ret
      rw [HR.out]
      exact ⟨_, rfl, HO.out.lower (Nat.le_of_lt hw1), HM.out⟩
theorem spec_LineCounts_calls (v1 v2 : Value) (t : PTr) (w : World) (h : RdTr w v1 v2 t) (hsm : smTr t) :
    Calls Tryz.prog 50 #[.agg #[v1, v2]] w (OwRet w 111 3 (lcP t).length (lcC (lcP t))) := by
  cases hs : soundP t with
  | false => exact spec_LineCounts_bad v1 v2 t w h hsm hs
  | true => exact spec_LineCounts_good v1 v2 t w h hsm hs
end Go.Proofs.YtcklnjjbhngbcaaGreatDoor
