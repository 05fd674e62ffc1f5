/- Lemmas and contracts of functions that the theorem of this claim leans on (texts T5, T6, T7, T8). -/
import Derived.Test.YtcklnjjbhngbcaaGreatDoorRowUnz27
import Derived.Test.YtcklnjjbhngbcaaGreatDoorRowUnz10
import Derived.Deep.DeepCutAuto
import Derived.Deep.CutBlock
import Derived.Test.YtcklnjjbhngbcaaGreatDoorRowUnz09
import Derived.Test.YtcklnjjbhngbcaaGreatDoorRowUnz02
namespace Go.Proofs.YtcklnjjbhngbcaaGreatDoor
open Go.RowKit Go.Proofs.Lens

set_option maxRecDepth 100000 in
set_option maxHeartbeats 2000000 in
theorem l1sizes_calls (v1 v2 : Value) (t : PTr) (w : World) (h : RdTr w v1 v2 t) :
    Calls Tryz.prog 74 #[.agg #[v1, v2]] w fun e w' => e = .returned (.bool (sizesOk t)) ∧ Below w.heap.size w w' := by
  have HT := Lib.hid h
  obtain ⟨⟨A1, c1, rfl, hn1, -⟩, ⟨vv, ⟨A2, c2, rfl, hn2, -⟩, -⟩⟩ := h
  have HSZ := Lib.hid (sizesOk_eq t)
  go_enter Tryz.func74, Tryz.ntmps74
  go_upto_region 1 with fail
  generalize hW : World.alloc w _ = W
  have HB : Hid (Below w.heap.size w W) := by rw [← hW]; exact Lib.hid (by repeat (with_reducible first | exact Below.refl _ _ | exact HL.out | refine bl_drewN ?_ _ | refine bl_drew ?_ | refine bl_alloc ?_ _ | refine bl_set ?_ (by dsimp only; omega) _))
  have HX : Hid (BoxAt W w.heap.size [.slice A1 t.fns.length c1, .slice A2 t.moms.length c2]) := by rw [← hW]; exact Lib.hid (BoxAt.new w _ _)
  clear hW
  obtain ⟨x0, x1⟩ := HX.out.open2
  go_cut [20] (fun s wx => s = .bool (szHd t) ∧ W = wx)
  case first =>
    by_cases h0 : t.fns.length = 0
    · have hd : ((t.fns.length : Int) == 0) = true := by simp [h0]
      have H0 := Lib.hid h0
      clear h0
      go_wp2
      go_meet
      exact ⟨by unfold szHd; simp [H0.out], rfl⟩
    · have hd : ((t.fns.length : Int) == 0) = false := by rw [beq_eq_false_iff_ne]; omega
      have H0 := Lib.hid h0
      clear h0
      go_wp2
      all_goals
        go_meet
        refine ⟨congrArg Value.bool ?_, rfl⟩
        have h0 := H0.out
        go_tidy
        unfold szHd
        grind
  case rest =>
    obtain ⟨rfl, rfl⟩ := hcut
    generalize hq : szHd t = q
    have HQ := Lib.hid hq
    clear hq
    cases q with
    | true =>
      go_wp2
      go_ret
      have HL := HB
      exact ⟨ret_bool (by rw [HSZ.out, HQ.out]; rfl), (by repeat (with_reducible first | exact Below.refl _ _ | exact HL.out | refine bl_drewN ?_ _ | refine bl_drew ?_ | refine bl_alloc ?_ _ | refine bl_set ?_ (by dsimp only; omega) _))⟩
    | false =>
      go_wp2_with fail
      go_loopw [24] (fun i wr => ∃ k : Nat, k ≤ t.fns.length ∧ i = .int .i64 k ∧ fnsOk (t.fns.take k) = true ∧ Below w.heap.size w wr) (fun i _ => t.fns.length - (intOf i).toNat)
      case atStart => exact ⟨0, Nat.zero_le _, rfl, by simp [fnsOk], HB.out⟩
      case round =>
        obtain ⟨k, hk, rfl, hq, hb⟩ := hrel
        have HL := Lib.hid hb
        have HF := Lib.hid hq
        clear hq
        by_cases hlt : k < t.fns.length
        · obtain ⟨A', c', he, _, hrow⟩ := HT.out.1.later hb
          obtain ⟨rfl, rfl⟩ : A1 = A' ∧ c1 = c' := by simpa using he
          obtain ⟨b, o, rfl, hc⟩ := hrow (by omega)
          have hc0 : wr.cell? ⟨b, o + k, none⟩ = some (.string (elt t.fns k)) := by have := hc k hlt 0 (by omega); simp only [Nat.mul_one, Nat.add_zero] at this; exact this
          have HSn := Lib.hid (fnsOk_snoc t.fns k hlt)
          clear hc he hrow hb x0 x1
          by_cases hs : (elt t.fns k).size ≤ 40
          · have HS := Lib.hid hs
            go_wp2
            go_roundw
            case rel => exact ⟨k + 1, by omega, by go_num, by rw [HSn.out, HF.out]; simpa using HS.out, (by repeat (with_reducible first | exact Below.refl _ _ | exact HL.out | refine bl_drewN ?_ _ | refine bl_drew ?_ | refine bl_alloc ?_ _ | refine bl_set ?_ (by dsimp only; omega) _))⟩
            case measure => simp [intOf]; omega
          · have HS := Lib.hid hs
            go_wp2
            go_ret
            refine ⟨ret_bool ?_, (by repeat (with_reducible first | exact Below.refl _ _ | exact HL.out | refine bl_drewN ?_ _ | refine bl_drew ?_ | refine bl_alloc ?_ _ | refine bl_set ?_ (by dsimp only; omega) _))⟩
            rw [HSZ.out, HQ.out]
            have : fnsOk t.fns = false := by
              cases hh : fnsOk t.fns with
              | false => rfl
              | true =>
                unfold fnsOk at hh
                rw [List.all_eq_true] at hh
                have h3 := hh (elt t.fns k) (by rw [elt_eq hlt]; exact List.getElem_mem hlt)
                exact absurd (by simpa using h3) HS.out
            rw [this]; rfl
        · obtain rfl : k = t.fns.length := by omega
          clear hb x0 x1
          go_wp2
          go_ret
          refine ⟨ret_bool ?_, (by repeat (with_reducible first | exact Below.refl _ _ | exact HL.out | refine bl_drewN ?_ _ | refine bl_drew ?_ | refine bl_alloc ?_ _ | refine bl_set ?_ (by dsimp only; omega) _))⟩
          have := HF.out
          rw [List.take_length] at this
          rw [HSZ.out, HQ.out, this]; rfl

/-- What is wrong with a moment's head, as the specification asks it: a first and a second question. -/
def momA (nf : Nat) (m : PMom) : Bool :=
  !inB m.kind 1 7 || !inB m.task 0 100 || !inB m.fn 0 (nf - 1) || !inB m.line 0 100000 || decide (4000 < m.text.size) || decide (200 < m.vars.length)
def momB (m : PMom) : Bool := decide (m.kind = 1) && decide (m.line = 0)
theorem momHd_eq (nf : Nat) (m : PMom) : momHd nf m = !(momA nf m || momB m) := by
  unfold momHd momA momB
  cases h1 : inB m.kind 1 7 <;> cases h2 : inB m.task 0 100 <;> cases h3 : inB m.fn 0 (nf - 1) <;> cases h4 : inB m.line 0 100000 <;> simp
  have := inB_true.1 h4
  grind
end Go.Proofs.YtcklnjjbhngbcaaGreatDoor

namespace Go.Proofs.YtcklnjjbhngbcaaGreatDoor
open Go.RowKit Go.Proofs.Lens

set_option maxRecDepth 100000 in
set_option maxHeartbeats 2000000 in
theorem l1moment_calls (v1 v2 v : Value) (t : PTr) (m : PMom) (w : World) (h : RdTr w v1 v2 t) (hv : RdVars w v m.vars) (hsm : smMom m) (hfn : t.fns.length ≤ 1048576) :
    Calls Tryz.prog 75 #[.agg #[v1, v2], .agg #[.int .i64 m.kind, .int .i64 m.task, .int .i64 m.fn, .int .i64 m.line, .string m.text, v]] w fun e w' =>
      e = .returned (.bool (momOk t.fns.length m)) ∧ Below w.heap.size w w' := by
  obtain ⟨⟨A1, c1, rfl, -⟩, -⟩ := h
  have HV := Lib.hid hv
  obtain ⟨A, c, rfl, hn, hrow⟩ := hv
  obtain ⟨hs1, hs2, hs3⟩ := hsm
  have HS := Lib.hid hs3
  have HM := Lib.hid (momHd_eq t.fns.length m)
  clear hrow hs3
  go_enter Tryz.func75, Tryz.ntmps75
  go_upto_region 1 with fail
  generalize hW : World.alloc (World.alloc w _) _ = W
  have hb : Below w.heap.size w W := by rw [← hW]; exact (by repeat (with_reducible first | exact Below.refl _ _ | exact HL.out | refine bl_drewN ?_ _ | refine bl_drew ?_ | refine bl_alloc ?_ _ | refine bl_set ?_ (by dsimp only; omega) _))
  have x0 : W.cell? ⟨w.heap.size, 0, none⟩ = some (.slice A1 t.fns.length c1) := by rw [← hW]; clear hW; go_simp
  have y0 : W.cell? ⟨w.heap.size + 1, 0, none⟩ = some (.int .i64 m.kind) := by rw [← hW]; clear hW; go_simp
  have y1 : W.cell? ⟨w.heap.size + 1, 1, none⟩ = some (.int .i64 m.task) := by rw [← hW]; clear hW; go_simp
  have y2 : W.cell? ⟨w.heap.size + 1, 2, none⟩ = some (.int .i64 m.fn) := by rw [← hW]; clear hW; go_simp
  have y3 : W.cell? ⟨w.heap.size + 1, 3, none⟩ = some (.int .i64 m.line) := by rw [← hW]; clear hW; go_simp
  have y4 : W.cell? ⟨w.heap.size + 1, 4, none⟩ = some (.string m.text) := by rw [← hW]; clear hW; go_simp
  have y5 : W.cell? ⟨w.heap.size + 1, 5, none⟩ = some (.slice A m.vars.length c) := by rw [← hW]; clear hW; go_simp
  have HB := Lib.hid hb
  clear hW hb
  go_cut [44] (fun s wx => s = .bool (momA t.fns.length m) ∧ W = wx)
  case first =>
    go_wp2_with (first | (go_at_call 137; refine (l1in_calls _ _ _ _).mono ?_; rintro e w1 ⟨rfl, rfl⟩))
    all_goals
      go_meet
      refine ⟨?_, rfl⟩
      go_tidy
      congr 1
      unfold momA
      grind
  case rest =>
    obtain ⟨rfl, rfl⟩ := hcut
    generalize hq : momA t.fns.length m = q
    have HQ := Lib.hid hq
    clear hq
    cases q with
    | true =>
      go_wp2
      go_ret
      have HL := HB
      exact ⟨ret_bool (by unfold momOk; rw [HM.out, HQ.out]; rfl), (by repeat (with_reducible first | exact Below.refl _ _ | exact HL.out | refine bl_drewN ?_ _ | refine bl_drew ?_ | refine bl_alloc ?_ _ | refine bl_set ?_ (by dsimp only; omega) _))⟩
    | false =>
      go_upto_region 3 with fail
      go_cut [52] (fun s wx => s = .bool (momB m) ∧ W = wx)
      case first =>
        by_cases hk : m.kind = 1
        · have hd : (m.kind == 1) = true := by simp [hk]
          have HK := Lib.hid hk
          clear hk
          go_wp2
          all_goals
            go_meet
            refine ⟨congrArg Value.bool ?_, rfl⟩
            have := HK.out
            go_tidy
            unfold momB
            grind
        · have hd : (m.kind == 1) = false := by simp [hk]
          have HK := Lib.hid hk
          clear hk
          go_wp2
          all_goals
            go_meet
            refine ⟨congrArg Value.bool ?_, rfl⟩
            have := HK.out
            go_tidy
            unfold momB
            grind
      case rest =>
        obtain ⟨rfl, rfl⟩ := hcut
        clear x0 y0 y1 y2 y3 y4
        have HH : Hid (momHd t.fns.length m = !momB m) := Lib.hid (by rw [HM.out, HQ.out]; rfl)
        generalize hq : momB m = q at HH
        clear hq
        cases q with
        | true =>
          go_wp2
          go_ret
          have HL := HB
          exact ⟨ret_bool (by unfold momOk; rw [HH.out]; rfl), (by repeat (with_reducible first | exact Below.refl _ _ | exact HL.out | refine bl_drewN ?_ _ | refine bl_drew ?_ | refine bl_alloc ?_ _ | refine bl_set ?_ (by dsimp only; omega) _))⟩
        | false =>
          go_wp2_with fail
          clear y5
          have bad : ∀ k, k < m.vars.length → varOk (elt m.vars k) = false → momOk t.fns.length m = false := fun k hk hb => by
            have : varsOk m.vars = false := by
              cases hh : varsOk m.vars with
              | false => rfl
              | true =>
                unfold varsOk at hh
                rw [List.all_eq_true] at hh
                have h3 := hh (elt m.vars k) (by rw [elt_eq hk]; exact List.getElem_mem hk)
                rw [hb] at h3; cases h3
            unfold momOk; rw [this, Bool.and_false]
          have BAD := Lib.hid bad
          clear bad
          go_loopw [56] (fun i wr => ∃ k : Nat, k ≤ m.vars.length ∧ i = .int .i64 k ∧ varsOk (m.vars.take k) = true ∧ Below w.heap.size w wr) (fun i _ => m.vars.length - (intOf i).toNat)
          case atStart => exact ⟨0, Nat.zero_le _, rfl, by simp [varsOk], HB.out⟩
          case round =>
            obtain ⟨k, hk, rfl, hq, hb⟩ := hrel
            have HL := Lib.hid hb
            have HF := Lib.hid hq
            clear hq
            by_cases hlt : k < m.vars.length
            · obtain ⟨A', c', he, _, hrow⟩ := HV.out.later hb
              obtain ⟨rfl, rfl⟩ : A = A' ∧ c = c' := by simpa using he
              obtain ⟨b, o, rfl, hc⟩ := hrow (by omega)
              have hc0 : wr.cell? ⟨b, o + k * 2, none⟩ = some (.string (elt m.vars k).nm) := hc k hlt 0 (by omega)
              have hc1 : wr.cell? ⟨b, o + k * 2 + 1, none⟩ = some (.string (elt m.vars k).tx) := hc k hlt 1 (by omega)
              have HSn := Lib.hid (varsOk_snoc m.vars k hlt)
              obtain ⟨hz1, hz2⟩ := HS.out k hlt
              clear hc he hrow hb
              by_cases h0 : (elt m.vars k).nm.size = 0
              · have hd : (((elt m.vars k).nm.size : Int) == 0) = true := by simp [h0]
                have H0 := Lib.hid h0
                clear h0
                go_wp2
                go_ret
                exact ⟨ret_bool (BAD.out k hlt (by unfold varOk inB; simp [H0.out])).symm, (by repeat (with_reducible first | exact Below.refl _ _ | exact HL.out | refine bl_drewN ?_ _ | refine bl_drew ?_ | refine bl_alloc ?_ _ | refine bl_set ?_ (by dsimp only; omega) _))⟩
              · have hd : (((elt m.vars k).nm.size : Int) == 0) = false := by rw [beq_eq_false_iff_ne]; omega
                have H0 := Lib.hid h0
                clear h0
                go_wp2
                all_goals first
                  | (go_roundw
                     case rel =>
                       refine ⟨k + 1, by omega, by go_num, ?_, (by repeat (with_reducible first | exact Below.refl _ _ | exact HL.out | refine bl_drewN ?_ _ | refine bl_drew ?_ | refine bl_alloc ?_ _ | refine bl_set ?_ (by dsimp only; omega) _))⟩
                       rw [HSn.out, HF.out]
                       have := H0.out
                       go_tidy
                       unfold varOk inB
                       grind
                     case measure => simp [intOf]; omega)
                  | (go_ret
                     refine ⟨ret_bool (BAD.out k hlt ?_).symm, (by repeat (with_reducible first | exact Below.refl _ _ | exact HL.out | refine bl_drewN ?_ _ | refine bl_drew ?_ | refine bl_alloc ?_ _ | refine bl_set ?_ (by dsimp only; omega) _))⟩
                     go_tidy
                     unfold varOk inB
                     grind)
            · obtain rfl : k = m.vars.length := by omega
              clear hb
              go_wp2
              go_ret
              have := HF.out
              rw [List.take_length] at this
              exact ⟨ret_bool (by unfold momOk; rw [HH.out, this]; rfl), HL.out⟩
end Go.Proofs.YtcklnjjbhngbcaaGreatDoor

namespace Go.Proofs.YtcklnjjbhngbcaaGreatDoor
open Go.RowKit Go.Proofs.Lens

theorem bl_trans {lo : Nat} {a b c : World} (h : Below lo a b) (k : Below lo b c) : Below lo a c := ⟨k.os.trans h.os, k.tape.trans h.tape, k.output.trans h.output, Nat.le_trans h.size k.size, fun j hj => (k.block j hj).trans (h.block j hj)⟩
set_option maxRecDepth 100000 in
set_option maxHeartbeats 2000000 in
theorem spec_TraceOk_calls (v1 v2 : Value) (t : PTr) (w : World) (h : RdTr w v1 v2 t) (hsm : smTr t) :
    Calls Tryz.prog 28 #[.agg #[v1, v2]] w fun e w' => e = .returned (.agg #[.int .i64 (faultP t).1, .int .i64 (faultP t).2]) ∧ Below w.heap.size w w' := by
  have HT := Lib.hid h
  have HT0 := Lib.hid h
  have HSM := Lib.hid hsm
  obtain ⟨⟨A1, c1, rfl, hn1, -⟩, ⟨vv, ⟨A2, c2, rfl, hn2, -⟩, -⟩⟩ := h
  obtain ⟨⟨hs1, -⟩, ⟨hs2, -⟩⟩ := hsm
  go_enter Tryz.func28, Tryz.ntmps28
  go_upto_region 1 with fail
  generalize hW : World.alloc (World.alloc w _) _ = W
  have HB : Hid (Below w.heap.size w W) := by rw [← hW]; exact Lib.hid (by repeat (with_reducible first | exact Below.refl _ _ | exact HL.out | refine bl_drewN ?_ _ | refine bl_drew ?_ | refine bl_alloc ?_ _ | refine bl_set ?_ (by dsimp only; omega) _))
  have HX : Hid (BoxAt W w.heap.size [.slice A1 t.fns.length c1, .slice A2 t.moms.length c2]) := by rw [← hW]; exact Lib.hid ((BoxAt.new w _ _).later (bl_alloc (Below.refl _ _) _))
  have HR : Hid (Blk W (w.heap.size + 1) 62 2 (fun _ => .int .i64 0)) := by
    rw [← hW]
    have := Blk.made (w.alloc (.cells #[.slice A1 t.fns.length c1, .slice A2 t.moms.length c2] 26)) #[.int .i64 0, .int .i64 0] 62
    rw [World.size_alloc] at this
    exact Lib.hid <| this.congr fun j hj => by match j, hj with | 0, _ => rfl | 1, _ => rfl
  clear hW
  obtain ⟨x0, x1⟩ := HX.out.open2
  go_wp2_with fail
  refine (l1sizes_calls _ _ t _ (HT.out.later HB.out)).mono ?_
  rintro e w0 ⟨rfl, hb0⟩
  have hr := HR.out.later hb0
  have r0 := hr.cell (j := 0) (by omega)
  have r1 := hr.cell (j := 1) (by omega)
  have rf0 := hr.free 0
  have rf1 := hr.free 1
  have HR1 := Lib.hid hr
  have HL := Lib.hid hb0
  have HB1 := Lib.hid (bl_then HB.out HL.out)
  clear hr hb0 x0 x1
  obtain ⟨x0, x1⟩ := (HX.out.later HL.out).open2
  generalize hq : sizesOk t = q
  have HSO := Lib.hid hq
  clear hq
  cases q with
  | false =>
    go_wp2
    have hf : faultP t = (1, 0) := by unfold faultP; rw [if_pos HSO.out]
    refine bodyPost_ret (v := .agg #[.int .i64 1, .int .i64 0]) (by simp [results, Tryz.results28, go_sem, r0, r1]) rfl ⟨by rw [hf], ?_⟩
    have HL := HB1
    exact (by repeat (with_reducible first | exact Below.refl _ _ | exact HL.out | refine bl_drewN ?_ _ | refine bl_drew ?_ | refine bl_alloc ?_ _ | refine bl_set ?_ (by dsimp only; omega) _))
  | true =>
    have HT1 := Lib.hid (HT.out.later HB1.out)
    have HX1 := Lib.hid (HX.out.later HL.out)
    clear HL HB HT HX HR x0 x1
    obtain ⟨x0, x1⟩ := HX1.out.open2
    go_wp2_with fail
    go_loopw [16] (fun i wy => ∃ k : Nat, k ≤ t.moms.length ∧ i = .int .i64 k ∧ firstNZ (momCode t) (t.moms.length - 0) 0 = firstNZ (momCode t) (t.moms.length - k) k ∧ Below w0.heap.size w0 wy) (fun i _ => t.moms.length - (intOf i).toNat)
    case atStart => exact ⟨0, Nat.zero_le _, rfl, rfl, Below.refl _ _⟩
    case round =>
      obtain ⟨k, hk, rfl, hq, hb⟩ := hrel
      have HL := Lib.hid hb
      have HQ := Lib.hid hq
      clear hq
      by_cases hlt : k < t.moms.length
      · obtain ⟨b, o, vk, hA, c0, c1', c2', c3, c4, c5, hvk⟩ := rd_moment (HT1.out.2.later hb) hlt
        have HA := Lib.hid hA
        have HVK := Lib.hid hvk
        obtain ⟨Av, cv, rfl, -⟩ := hvk
        have HX2 := Lib.hid (HX1.out.later HL.out)
        have HR2 := Lib.hid (HR1.out.later HL.out)
        have HT2 := Lib.hid (HT1.out.later HL.out)
        have HB2 := Lib.hid (bl_then HB1.out HL.out)
        have hsm := HSM.out.2.2 k hlt
        have hsz : w.heap.size + 1 < wr.heap.size := HR2.out.lt
        clear hb x0 x1 r0 r1 rf0 rf1 hA
        subst A2
        obtain ⟨x0, x1⟩ := HX2.out.open2
        go_upto_region 6 with fail
        generalize hW2 : World.alloc wr _ = W2
        have hbl : Below wr.heap.size wr W2 := by rw [← hW2]; exact bl_alloc (Below.refl _ _) _
        have y0 : W2.cell? ⟨wr.heap.size, 0, none⟩ = some (.int .i64 (elt t.moms k).kind) := by rw [← hW2]; clear hW2; go_simp
        have y1 : W2.cell? ⟨wr.heap.size, 1, none⟩ = some (.int .i64 (elt t.moms k).task) := by rw [← hW2]; clear hW2; go_simp
        have y2 : W2.cell? ⟨wr.heap.size, 2, none⟩ = some (.int .i64 (elt t.moms k).fn) := by rw [← hW2]; clear hW2; go_simp
        have y3 : W2.cell? ⟨wr.heap.size, 3, none⟩ = some (.int .i64 (elt t.moms k).line) := by rw [← hW2]; clear hW2; go_simp
        have y4 : W2.cell? ⟨wr.heap.size, 4, none⟩ = some (.string (elt t.moms k).text) := by rw [← hW2]; clear hW2; go_simp
        have y5 : W2.cell? ⟨wr.heap.size, 5, none⟩ = some (.slice Av (elt t.moms k).vars.length cv) := by rw [← hW2]; clear hW2; go_simp
        have HX3 := Lib.hid (HX2.out.later hbl)
        have HR3 := Lib.hid (HR2.out.later hbl)
        have HT3 := Lib.hid (HT2.out.later hbl)
        have HV3 := Lib.hid (HVK.out.later hbl)
        have HB3 := Lib.hid (bl_then HB2.out hbl)
        have HL3 := Lib.hid (bl_then HL.out hbl)
        clear hbl hW2 x0 x1 HX2 HR2 HT2 HVK HB2 HL
        obtain ⟨x0, x1⟩ := HX3.out.open2
        go_wp2_with fail
        refine (l1moment_calls _ _ _ t (elt t.moms k) _ HT3.out HV3.out hsm hs1).mono ?_
        rintro e w1 ⟨rfl, hb⟩
        have HL2 := Lib.hid (bl_then HL3.out hb)
        have hr := HR3.out.later hb
        have r0 := hr.cell (j := 0) (by omega)
        have r1 := hr.cell (j := 1) (by omega)
        have rf0 := hr.free 0
        have rf1 := hr.free 1
        have HB4 := Lib.hid (bl_then HB3.out hb)
        generalize hmo : momOk t.fns.length (elt t.moms k) = mo
        have HMO := Lib.hid hmo
        clear hr hb x0 x1 y0 y1 y2 y3 y4 y5 c0 c1' c2' c3 c4 c5 hmo
        cases mo with
        | true =>
          go_wp2
          go_roundw
          case rel => exact ⟨k + 1, by omega, by go_num, HQ.out.trans (firstNZ_skip hlt (by unfold momCode; rw [if_pos HMO.out])), HL2.out⟩
          case measure => simp [intOf]; omega
        | false =>
          go_wp2
          have hf : faultP t = (2, (k : Int)) := by
            have h2 : firstNZ (momCode t) (t.moms.length - 0) 0 = (2, (k : Int)) := by
              rw [HQ.out, firstNZ_hit hlt (by unfold momCode; rw [if_neg (by rw [HMO.out]; simp)]; omega)]
              unfold momCode; rw [if_neg (by rw [HMO.out]; simp)]
            unfold faultP
            rw [if_neg (by rw [HSO.out]; simp), h2, if_pos (by simp)]
          refine bodyPost_ret (v := .agg #[.int .i64 2, .int .i64 k]) (by simp [results, Tryz.results28, go_sem, r0, r1]) rfl ⟨by rw [hf], ?_⟩
          have HL := HB4
          exact (by repeat (with_reducible first | exact Below.refl _ _ | exact HL.out | refine bl_drewN ?_ _ | refine bl_drew ?_ | refine bl_alloc ?_ _ | refine bl_set ?_ (by dsimp only; omega) _))
      · obtain rfl : k = t.moms.length := by omega
        clear hb x0 x1 r0 r1
        have HT2 := Lib.hid (HT1.out.later HL.out)
        have HX2 := Lib.hid (HX1.out.later HL.out)
        have HR2 := Lib.hid (HR1.out.later HL.out)
        have HB2 := Lib.hid (bl_then HB1.out HL.out)
        have HQ2 : Hid (firstNZ (momCode t) (t.moms.length - 0) 0 = (0, 0)) := Lib.hid (HQ.out.trans firstNZ_end)
        clear HB1 HX1 HR1 HQ HT1 rf0 rf1 HL
        obtain ⟨x0, x1⟩ := HX2.out.open2
        go_wp2_with fail
        refine (l1begin_calls _).mono ?_
        rintro e w1 ⟨g, T, f, rfl, hW, hb⟩
        have HW := Lib.hid hW
        have HL1 := Lib.hid hb
        have HX3 := Lib.hid (HX2.out.later hb)
        clear hW hb x0 x1
        obtain ⟨x0, x1⟩ := HX3.out.open2
        go_wp2_with fail
        go_loopw [32] (fun i wz => ∃ (k : Nat) (f : Nat → Value), k ≤ t.moms.length ∧ i = .int .i64 k ∧ firstNZ (moveCode t) (t.moms.length - 0) 0 = firstNZ (moveCode t) (t.moms.length - k) k ∧
          Inv (stN t.moms k) k ∧ IsS wz wr.heap.size g T (stN t.moms k) f ∧ Below wr.heap.size wr wz) (fun i _ => t.moms.length - (intOf i).toNat)
        case atStart => exact ⟨0, f, Nat.zero_le _, rfl, rfl, inv0, HW.out, HL1.out⟩
        case round =>
          obtain ⟨k, f, hk, rfl, hq, hinv, hW, hb⟩ := hrel
          have HQ := Lib.hid hq
          have HI := Lib.hid hinv
          have HW := Lib.hid hW
          have HL := Lib.hid hb
          clear hq hinv hW hb x0 x1
          by_cases hlt : k < t.moms.length
          · have HM := Lib.hid (HT2.out.2.later HL.out)
            obtain ⟨b, o, vk, hA, c0, c1', c2', c3, c4, c5, hvk⟩ := rd_moment HM.out hlt
            have HA := Lib.hid hA
            obtain ⟨Av, cv, rfl, -⟩ := hvk
            clear hA
            subst A2
            go_upto_region 13 with fail
            generalize hW2 : World.alloc wr _ = W2
            have hbl : Below wr.heap.size wr W2 := by rw [← hW2]; exact bl_alloc (Below.refl _ _) _
            have y0 : W2.cell? ⟨wr.heap.size, 0, none⟩ = some (.int .i64 (elt t.moms k).kind) := by rw [← hW2]; clear hW2; go_simp
            have y1 : W2.cell? ⟨wr.heap.size, 1, none⟩ = some (.int .i64 (elt t.moms k).task) := by rw [← hW2]; clear hW2; go_simp
            have y2 : W2.cell? ⟨wr.heap.size, 2, none⟩ = some (.int .i64 (elt t.moms k).fn) := by rw [← hW2]; clear hW2; go_simp
            have y3 : W2.cell? ⟨wr.heap.size, 3, none⟩ = some (.int .i64 (elt t.moms k).line) := by rw [← hW2]; clear hW2; go_simp
            have y4 : W2.cell? ⟨wr.heap.size, 4, none⟩ = some (.string (elt t.moms k).text) := by rw [← hW2]; clear hW2; go_simp
            have y5 : W2.cell? ⟨wr.heap.size, 5, none⟩ = some (.slice Av (elt t.moms k).vars.length cv) := by rw [← hW2]; clear hW2; go_simp
            have HS2 := Lib.hid (HW.out.later hbl)
            have HL2 := Lib.hid (bl_then HL.out hbl)
            clear hbl hW2
            go_wp2_with fail
            refine (move_calls _ g T _ _ (elt t.moms k) _ _ _ k k _ HS2.out HI.out).mono ?_
            rintro e w2 ⟨rfl, hb, hst⟩
            have HB3 := Lib.hid (bl_trans HL2.out hb.bl)
            have hr := HR2.out.later HB3.out
            have r0 := hr.cell (j := 0) (by omega)
            have r1 := hr.cell (j := 1) (by omega)
            have rf0 := hr.free 0
            have rf1 := hr.free 1
            have HBw := Lib.hid (bl_then HB2.out HB3.out)
            have HST := Lib.hid hst
            clear hr hb hst y0 y1 y2 y3 y4 y5 c0 c1' c2' c3 c4 c5
            have HMC : Hid (moveCode t k = checkP (stN t.moms k) (elt t.moms k)) := Lib.hid rfl
            generalize hcc : checkP (stN t.moms k) (elt t.moms k) = cc at HMC HST
            have HCC := Lib.hid hcc
            clear hcc
            by_cases hz : cc = 0
            · have hd : (cc != 0) = false := by simp [hz]
              have HZ := Lib.hid hz
              clear hz r0 r1 rf0 rf1
              have hmo : momOk t.fns.length (elt t.moms k) = true := by
                have := firstNZ_zero (f := momCode t) (d := t.moms.length - 0) (k := 0) (by rw [HQ2.out]) k (by omega) (by omega)
                unfold momCode at this
                by_cases h4 : momOk t.fns.length (elt t.moms k) = true
                · exact h4
                · rw [if_neg h4] at this; cases this
              have HI3 := Lib.hid (inv_step HI.out hmo (HCC.out.trans HZ.out))
              clear hmo
              go_wp2
              go_roundw
              case rel =>
                obtain ⟨f', hf'⟩ := HST.out HZ.out
                exact ⟨k + 1, f', by omega, by go_num, HQ.out.trans (firstNZ_skip hlt (by rw [HMC.out, HZ.out])), HI3.out, hf', HB3.out⟩
              case measure => simp [intOf]; omega
            · have hd : (cc != 0) = true := by simp [hz]
              have HZ := Lib.hid hz
              clear hz
              go_wp2
              have hf : faultP t = (cc, (k : Int)) := by
                unfold faultP
                rw [if_neg (by rw [HSO.out]; simp), HQ2.out, if_neg (by simp), HQ.out, firstNZ_hit hlt (by rw [HMC.out]; exact HZ.out), HMC.out]
              refine bodyPost_ret (v := .agg #[.int .i64 cc, .int .i64 k]) (by simp [results, Tryz.results28, go_sem, r0, r1]) rfl ⟨by rw [hf], ?_⟩
              have HL := HBw
              exact (by repeat (with_reducible first | exact Below.refl _ _ | exact HL.out | refine bl_drewN ?_ _ | refine bl_drew ?_ | refine bl_alloc ?_ _ | refine bl_set ?_ (by dsimp only; omega) _))
          · obtain rfl : k = t.moms.length := by omega
            have hr := HR2.out.later HL.out
            have r0 := hr.cell (j := 0) (by omega)
            have r1 := hr.cell (j := 1) (by omega)
            have rf0 := hr.free 0
            have rf1 := hr.free 1
            have HB3 := Lib.hid (bl_then HB2.out HL.out)
            clear hr
            go_wp2
            have hf : faultP t = (0, 0) := by
              unfold faultP
              rw [if_neg (by rw [HSO.out]; simp), HQ2.out, if_neg (by simp), HQ.out, firstNZ_end]
            refine bodyPost_ret (v := .agg #[.int .i64 0, .int .i64 0]) (by simp [results, Tryz.results28, go_sem, r0, r1]) rfl ⟨by rw [hf], ?_⟩
            have HL := HB3
            exact (by repeat (with_reducible first | exact Below.refl _ _ | exact HL.out | refine bl_drewN ?_ _ | refine bl_drew ?_ | refine bl_alloc ?_ _ | refine bl_set ?_ (by dsimp only; omega) _))
end Go.Proofs.YtcklnjjbhngbcaaGreatDoor

namespace Go.Proofs.YtcklnjjbhngbcaaGreatDoor
open Go.RowKit Go.Proofs.Lens

set_option maxRecDepth 100000 in
set_option maxHeartbeats 400000 in
theorem l1ok_calls (v1 v2 : Value) (t : PTr) (w : World) (h : RdTr w v1 v2 t) (hsm : smTr t) :
    Calls Tryz.prog 36 #[.agg #[v1, v2]] w fun e w' => e = .returned (.bool (soundP t)) ∧ Below w.heap.size w w' := by
  have HT := Lib.hid h
  have HS := Lib.hid hsm
  obtain ⟨⟨A1, c1, rfl, hn1, -⟩, ⟨vv, ⟨A2, c2, rfl, hn2, -⟩, -⟩⟩ := h
  clear hsm
  go_enter Tryz.func36, Tryz.ntmps36
  go_wp2_with fail
  refine (spec_TraceOk_calls _ _ t _ (HT.out.later (by repeat (with_reducible first | exact Below.refl _ _ | exact HL.out | refine bl_drewN ?_ _ | refine bl_drew ?_ | refine bl_alloc ?_ _ | refine bl_set ?_ (by dsimp only; omega) _))) HS.out).mono ?_; rintro e w1 ⟨rfl, hb⟩
  have HB := Lib.hid (bl_then (bl_alloc (Below.refl _ w) _) hb)
  clear hb
  go_wp2
  go_ret
  have HL := HB
  exact ⟨ret_bool (by unfold soundP; exact Bool.beq_eq_decide_eq _ _), (by repeat (with_reducible first | exact Below.refl _ _ | exact HL.out | refine bl_drewN ?_ _ | refine bl_drew ?_ | refine bl_alloc ?_ _ | refine bl_set ?_ (by dsimp only; omega) _))⟩
theorem l1ok_is (v1 v2 : Value) (t : PTr) (w : World) {b : Bool} (h : RdTr w v1 v2 t) (hsm : smTr t) (hs : soundP t = b) :
    Calls Tryz.prog 36 #[.agg #[v1, v2]] w fun e w' => e = .returned (.bool b) ∧ Below w.heap.size w w' := hs ▸ l1ok_calls v1 v2 t w h hsm

def StPost (w : World) (s : PS) (e : Ending) (w' : World) : Prop := ∃ g T f, e = .returned (.pointer (some ⟨g, 0, none⟩)) ∧ IsS w' w.heap.size g T s f ∧ Below w.heap.size w w'
set_option maxRecDepth 100000 in
set_option maxHeartbeats 2000000 in
theorem l1at_calls (v1 v2 : Value) (t : PTr) (k : Int) (w : World) (h : RdTr w v1 v2 t) (hsm : smTr t) (hg : soundP t = true) (hk0 : -1 ≤ k) (hk1 : k < t.moms.length) :
    Calls Tryz.prog 143 #[.agg #[v1, v2], .int .i64 k] w (StPost w (stN t.moms (k + 1).toNat)) := by
  have HT := Lib.hid h
  obtain ⟨⟨A1, c1, rfl, hn1, -⟩, ⟨vv, ⟨A2, c2, rfl, hn2, -⟩, -⟩⟩ := h
  obtain ⟨⟨hs1, -⟩, ⟨hs2, -⟩⟩ := hsm
  have SO := Lib.hid (sound_iff hg)
  clear hg
  go_enter Tryz.func143, Tryz.ntmps143
  go_wp2_with fail
  generalize hW : World.alloc w _ = W
  have HB : Hid (Below w.heap.size w W) := by rw [← hW]; exact Lib.hid (by repeat (with_reducible first | exact Below.refl _ _ | exact HL.out | refine bl_drewN ?_ _ | refine bl_drew ?_ | refine bl_alloc ?_ _ | refine bl_set ?_ (by dsimp only; omega) _))
  have HX : Hid (BoxAt W w.heap.size [.slice A1 t.fns.length c1, .slice A2 t.moms.length c2]) := by rw [← hW]; exact Lib.hid (BoxAt.new w _ _)
  clear hW
  refine (l1begin_calls _).mono ?_
  rintro e w1 ⟨g, T, f, rfl, hS, hb⟩
  have HW := Lib.hid hS
  have HL := Lib.hid hb
  clear hS hb
  go_wp2_with fail
  go_loopw [6] (fun i wr => ∃ (n : Nat) (f : Nat → Value), n ≤ t.moms.length ∧ (n : Int) ≤ k + 1 ∧ i = .int .i64 n ∧ IsS wr W.heap.size g T (stN t.moms n) f ∧ Below W.heap.size W wr) (fun i _ => t.moms.length - (intOf i).toNat)
  case atStart => exact ⟨0, f, Nat.zero_le _, by omega, rfl, HW.out, HL.out⟩
  case round =>
    obtain ⟨n, f, hn, hn2, rfl, hS, hb⟩ := hrel
    clear HW HL
    have HW := Lib.hid hS
    have HL := Lib.hid hb
    clear hS hb
    by_cases h1 : (n : Int) ≤ k
    · have h2 : n < t.moms.length := by omega
      have HI := Lib.hid (SO.out.inv n hn)
      have HM := Lib.hid ((HT.out.2.later HB.out).later HL.out)
      obtain ⟨b, o, vk, hA, c0, c1', c2', c3, c4, c5, hvk⟩ := rd_moment HM.out h2
      obtain ⟨Av, cv, rfl, -⟩ := hvk
      subst hA
      obtain ⟨x0, x1⟩ := (HX.out.later HL.out).open2
      go_wp2_with fail
      refine (move_calls _ g T _ _ (elt t.moms n) _ _ _ n n _ HW.out HI.out).mono ?_
      rintro e w2 ⟨rfl, hb, hst⟩
      have HL2 := Lib.hid (bl_trans HL.out hb.bl)
      have HST := Lib.hid (hst (SO.out.moves n h2))
      clear hb hst x0 x1 c0 c1' c2' c3 c4 c5
      go_wp2
      go_roundw
      case rel =>
        obtain ⟨f', hf'⟩ := HST.out
        exact ⟨n + 1, f', by omega, by omega, by go_num, hf', HL2.out⟩
      case measure => simp [intOf]; omega
    · go_wp2
      go_ret
      have e : (k + 1).toNat = n := by omega
      rw [e]
      exact ⟨g, T, f, rfl, HW.out.lower HB.out.size, bl_then HB.out HL.out⟩

set_option maxRecDepth 100000 in
set_option maxHeartbeats 2000000 in
theorem l1stand_calls (v1 v2 : Value) (t : PTr) (k : Int) (w : World) (h : RdTr w v1 v2 t) (hsm : smTr t) (hg : goodP t k = true) :
    Calls Tryz.prog 95 #[.agg #[v1, v2], .int .i64 k] w (StPost w (atP t k)) := by
  have HT := Lib.hid h
  have HS := Lib.hid hsm
  obtain ⟨⟨A1, c1, rfl, hn1, -⟩, ⟨vv, ⟨A2, c2, rfl, hn2, -⟩, -⟩⟩ := h
  obtain ⟨⟨hs1, -⟩, ⟨hs2, -⟩⟩ := hsm
  unfold goodP at hg
  rw [Bool.and_eq_true] at hg
  have hp := inB_true.1 hg.2
  have HQ := Lib.hid hg.1
  clear hg
  by_cases hk : k = t.moms.length
  · have e : atP t k = stN t.moms (k - 1 + 1).toNat := by unfold atP atN; congr 1; omega
    have hd : (k == (t.moms.length : Int)) = true := by simp [hk]
    have HE := Lib.hid e
    have hk1 : 0 ≤ k := by omega
    have hk2 : k - 1 < t.moms.length := by omega
    clear hk e
    go_enter Tryz.func95, Tryz.ntmps95
    go_wp2_with fail
    refine (l1at_calls _ _ t _ _ (HT.out.later (by repeat (with_reducible first | exact Below.refl _ _ | exact HL.out | refine bl_drewN ?_ _ | refine bl_drew ?_ | refine bl_alloc ?_ _ | refine bl_set ?_ (by dsimp only; omega) _))) HS.out HQ.out (by omega) (by omega)).mono ?_
    rintro e w1 ⟨g, T, f, rfl, hS, hb⟩
    have HW := Lib.hid (hS.lower (lo' := w.heap.size) (by simp))
    have HB := Lib.hid (bl_then (bl_alloc (Below.refl _ w) _) hb)
    clear hS hb
    go_wp2
    go_ret
    exact ⟨g, T, f, rfl, by rw [HE.out]; exact HW.out, HB.out⟩
  · have e : atP t k = stN t.moms (k + 1).toNat := by unfold atP atN; congr 1; omega
    have hd : (k == (t.moms.length : Int)) = false := by simp [hk]
    have HE := Lib.hid e
    have hk2 : k < t.moms.length := by omega
    clear hk e
    go_enter Tryz.func95, Tryz.ntmps95
    go_wp2_with fail
    refine (l1at_calls _ _ t _ _ (HT.out.later (by repeat (with_reducible first | exact Below.refl _ _ | exact HL.out | refine bl_drewN ?_ _ | refine bl_drew ?_ | refine bl_alloc ?_ _ | refine bl_set ?_ (by dsimp only; omega) _))) HS.out HQ.out (by omega) (by omega)).mono ?_
    rintro e w1 ⟨g, T, f, rfl, hS, hb⟩
    have HW := Lib.hid (hS.lower (lo' := w.heap.size) (by simp))
    have HB := Lib.hid (bl_then (bl_alloc (Below.refl _ w) _) hb)
    clear hS hb
    go_wp2
    go_ret
    exact ⟨g, T, f, rfl, by rw [HE.out]; exact HW.out, HB.out⟩

theorem IsS.mv {w w' : World} {lo lo' g T : Nat} {s : PS} {f : Nat → Value} {ts : List TypeId} (h : IsS w lo g T s f) (hm : Mv ts lo' w w') (h1 : 161 ∉ ts) (h2 : 35 ∉ ts) (h3 : 42 ∉ ts) : IsS w' lo g T s f :=
  ⟨h.lo1, h.lo2, h.blk.mv hm h1, h.tb.mv hm h2, fun i hi => (h.row i hi).mv hm h3, h.ne⟩
end Go.Proofs.YtcklnjjbhngbcaaGreatDoor
