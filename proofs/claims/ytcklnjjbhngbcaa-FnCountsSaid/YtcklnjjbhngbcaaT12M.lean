/- Merged out of T5, T6, T7, T8, T9, T12. -/
import Derived.Test.YtcklnjjbhngbcaaT4
import Derived.Test.YtcklnjjbhngbcaaI0
import Derived.Test.YtcklnjjbhngbcaaI3m
import Derived.Test.YtcklnjjbhngbcaaI2
import Derived.Deep.DeepCutAuto
import Derived.Deep.CutBlock
import Derived.Test.YtcklnjjbhngbcaaP2
import Derived.Test.YtcklnjjbhngbcaaB6
import Derived.Test.YtcklnjjbhngbcaaF0
namespace Go.Proofs.Ytcklnjjbhngbcaa
open Go.RowKit Go.Proofs.Lens

set_option maxRecDepth 100000 in
set_option maxHeartbeats 2000000 in
theorem l1sizes_calls (v1 v2 : Value) (t : PTr) (w : World) (h : RdTr w v1 v2 t) :
    Calls Try.prog 104 #[.agg #[v1, v2]] w fun e w' => e = .returned (.bool (sizesOk t)) ∧ Below w.heap.size w w' := by
  have HT := Lib.hid h
  obtain ⟨⟨A1, c1, rfl, hn1, -⟩, ⟨vv, ⟨A2, c2, rfl, hn2, -⟩, -⟩⟩ := h
  have HSZ := Lib.hid (sizesOk_eq t)
  go_enter Try.func104, Try.ntmps104
  go_upto_region 1 with fail
  generalize hW : World.alloc w _ = W
  have HB : Hid (Below w.heap.size w W) := by rw [← hW]; exact Lib.hid (by repeat (with_reducible first | exact Below.refl _ _ | exact HL.out | refine bl_drewN ?_ _ | refine bl_drew ?_ | refine bl_alloc ?_ _ | refine bl_set ?_ (by dsimp only; omega) _))
  have HX : Hid (BoxAt W w.heap.size [.slice A1 t.fns.length c1, .slice A2 t.moms.length c2]) := by rw [← hW]; exact Lib.hid (BoxAt.new w _ _)
  clear hW
  obtain ⟨x0, x1⟩ := HX.out.open2
  go_cut [20] (fun s wx => s = .bool (szHd t) ∧ W = wx)
  case first =>
    by_cases h0 : t.fns.length = 0
    · have hd : ((t.fns.length : Int) == 0) = true := by simp [h0]
      have H0 := Lib.hid h0
      clear h0
      go_wp2
      go_meet
      exact ⟨by unfold szHd; simp [H0.out], rfl⟩
    · have hd : ((t.fns.length : Int) == 0) = false := by rw [beq_eq_false_iff_ne]; omega
      have H0 := Lib.hid h0
      clear h0
      go_wp2
      all_goals
        go_meet
        refine ⟨congrArg Value.bool ?_, rfl⟩
        have h0 := H0.out
        go_tidy
        unfold szHd
        grind
  case rest =>
    obtain ⟨rfl, rfl⟩ := hcut
    generalize hq : szHd t = q
    have HQ := Lib.hid hq
    clear hq
    cases q with
    | true =>
      go_wp2
      go_ret
      have HL := HB
      exact ⟨ret_bool (by rw [HSZ.out, HQ.out]; rfl), (by repeat (with_reducible first | exact Below.refl _ _ | exact HL.out | refine bl_drewN ?_ _ | refine bl_drew ?_ | refine bl_alloc ?_ _ | refine bl_set ?_ (by dsimp only; omega) _))⟩
    | false =>
      go_wp2_with fail
      go_loopw [24] (fun i wr => ∃ k : Nat, k ≤ t.fns.length ∧ i = .int .i64 k ∧ fnsOk (t.fns.take k) = true ∧ Below w.heap.size w wr) (fun i _ => t.fns.length - (intOf i).toNat)
      case atStart => exact ⟨0, Nat.zero_le _, rfl, by simp [fnsOk], HB.out⟩
      case round =>
        obtain ⟨k, hk, rfl, hq, hb⟩ := hrel
        have HL := Lib.hid hb
        have HF := Lib.hid hq
        clear hq
        by_cases hlt : k < t.fns.length
        · obtain ⟨A', c', he, _, hrow⟩ := HT.out.1.later hb
          obtain ⟨rfl, rfl⟩ : A1 = A' ∧ c1 = c' := by simpa using he
          obtain ⟨b, o, rfl, hc⟩ := hrow (by omega)
          have hc0 : wr.cell? ⟨b, o + k, none⟩ = some (.string (elt t.fns k)) := by have := hc k hlt 0 (by omega); simp only [Nat.mul_one, Nat.add_zero] at this; exact this
          have HSn := Lib.hid (fnsOk_snoc t.fns k hlt)
          clear hc he hrow hb x0 x1
          by_cases hs : (elt t.fns k).size ≤ 40
          · have HS := Lib.hid hs
            go_wp2
            go_roundw
            case rel => exact ⟨k + 1, by omega, by go_num, by rw [HSn.out, HF.out]; simpa using HS.out, (by repeat (with_reducible first | exact Below.refl _ _ | exact HL.out | refine bl_drewN ?_ _ | refine bl_drew ?_ | refine bl_alloc ?_ _ | refine bl_set ?_ (by dsimp only; omega) _))⟩
            case measure => simp [intOf]; omega
          · have HS := Lib.hid hs
            go_wp2
            go_ret
            refine ⟨ret_bool ?_, (by repeat (with_reducible first | exact Below.refl _ _ | exact HL.out | refine bl_drewN ?_ _ | refine bl_drew ?_ | refine bl_alloc ?_ _ | refine bl_set ?_ (by dsimp only; omega) _))⟩
            rw [HSZ.out, HQ.out]
            have : fnsOk t.fns = false := by
              cases hh : fnsOk t.fns with
              | false => rfl
              | true =>
                unfold fnsOk at hh
                rw [List.all_eq_true] at hh
                have h3 := hh (elt t.fns k) (by rw [elt_eq hlt]; exact List.getElem_mem hlt)
                exact absurd (by simpa using h3) HS.out
            rw [this]; rfl
        · obtain rfl : k = t.fns.length := by omega
          clear hb x0 x1
          go_wp2
          go_ret
          refine ⟨ret_bool ?_, (by repeat (with_reducible first | exact Below.refl _ _ | exact HL.out | refine bl_drewN ?_ _ | refine bl_drew ?_ | refine bl_alloc ?_ _ | refine bl_set ?_ (by dsimp only; omega) _))⟩
          have := HF.out
          rw [List.take_length] at this
          rw [HSZ.out, HQ.out, this]; rfl

/-- What is wrong with a moment's head, as the specification asks it: a first and a second question. -/
def momA (nf : Nat) (m : PMom) : Bool :=
  !inB m.kind 1 7 || !inB m.task 0 100 || !inB m.fn 0 (nf - 1) || !inB m.line 0 100000 || decide (4000 < m.text.size) || decide (200 < m.vars.length)
def momB (m : PMom) : Bool := decide (m.kind = 1) && decide (m.line = 0)
theorem momHd_eq (nf : Nat) (m : PMom) : momHd nf m = !(momA nf m || momB m) := by
  unfold momHd momA momB
  cases h1 : inB m.kind 1 7 <;> cases h2 : inB m.task 0 100 <;> cases h3 : inB m.fn 0 (nf - 1) <;> cases h4 : inB m.line 0 100000 <;> simp
  have := inB_true.1 h4
  grind
end Go.Proofs.Ytcklnjjbhngbcaa

namespace Go.Proofs.Ytcklnjjbhngbcaa
open Go.RowKit Go.Proofs.Lens

set_option maxRecDepth 100000 in
set_option maxHeartbeats 2000000 in
theorem l1moment_calls (v1 v2 v : Value) (t : PTr) (m : PMom) (w : World) (h : RdTr w v1 v2 t) (hv : RdVars w v m.vars) (hsm : smMom m) (hfn : t.fns.length ≤ 1048576) :
    Calls Try.prog 105 #[.agg #[v1, v2], .agg #[.int .i64 m.kind, .int .i64 m.task, .int .i64 m.fn, .int .i64 m.line, .string m.text, v]] w fun e w' =>
      e = .returned (.bool (momOk t.fns.length m)) ∧ Below w.heap.size w w' := by
  obtain ⟨⟨A1, c1, rfl, -⟩, -⟩ := h
  have HV := Lib.hid hv
  obtain ⟨A, c, rfl, hn, hrow⟩ := hv
  obtain ⟨hs1, hs2, hs3⟩ := hsm
  have HS := Lib.hid hs3
  have HM := Lib.hid (momHd_eq t.fns.length m)
  clear hrow hs3
  go_enter Try.func105, Try.ntmps105
  go_upto_region 1 with fail
  generalize hW : World.alloc (World.alloc w _) _ = W
  have hb : Below w.heap.size w W := by rw [← hW]; exact (by repeat (with_reducible first | exact Below.refl _ _ | exact HL.out | refine bl_drewN ?_ _ | refine bl_drew ?_ | refine bl_alloc ?_ _ | refine bl_set ?_ (by dsimp only; omega) _))
  have x0 : W.cell? ⟨w.heap.size, 0, none⟩ = some (.slice A1 t.fns.length c1) := by rw [← hW]; clear hW; go_simp
  have y0 : W.cell? ⟨w.heap.size + 1, 0, none⟩ = some (.int .i64 m.kind) := by rw [← hW]; clear hW; go_simp
  have y1 : W.cell? ⟨w.heap.size + 1, 1, none⟩ = some (.int .i64 m.task) := by rw [← hW]; clear hW; go_simp
  have y2 : W.cell? ⟨w.heap.size + 1, 2, none⟩ = some (.int .i64 m.fn) := by rw [← hW]; clear hW; go_simp
  have y3 : W.cell? ⟨w.heap.size + 1, 3, none⟩ = some (.int .i64 m.line) := by rw [← hW]; clear hW; go_simp
  have y4 : W.cell? ⟨w.heap.size + 1, 4, none⟩ = some (.string m.text) := by rw [← hW]; clear hW; go_simp
  have y5 : W.cell? ⟨w.heap.size + 1, 5, none⟩ = some (.slice A m.vars.length c) := by rw [← hW]; clear hW; go_simp
  have HB := Lib.hid hb
  clear hW hb
  go_cut [44] (fun s wx => s = .bool (momA t.fns.length m) ∧ W = wx)
  case first =>
    go_wp2_with (first | (go_at_call 85; refine (l1in_calls _ _ _ _).mono ?_; rintro e w1 ⟨rfl, rfl⟩))
    all_goals
      go_meet
      refine ⟨?_, rfl⟩
      go_tidy
      congr 1
      unfold momA
      grind
  case rest =>
    obtain ⟨rfl, rfl⟩ := hcut
    generalize hq : momA t.fns.length m = q
    have HQ := Lib.hid hq
    clear hq
    cases q with
    | true =>
      go_wp2
      go_ret
      have HL := HB
      exact ⟨ret_bool (by unfold momOk; rw [HM.out, HQ.out]; rfl), (by repeat (with_reducible first | exact Below.refl _ _ | exact HL.out | refine bl_drewN ?_ _ | refine bl_drew ?_ | refine bl_alloc ?_ _ | refine bl_set ?_ (by dsimp only; omega) _))⟩
    | false =>
      go_upto_region 3 with fail
      go_cut [52] (fun s wx => s = .bool (momB m) ∧ W = wx)
      case first =>
        by_cases hk : m.kind = 1
        · have hd : (m.kind == 1) = true := by simp [hk]
          have HK := Lib.hid hk
          clear hk
          go_wp2
          all_goals
            go_meet
            refine ⟨congrArg Value.bool ?_, rfl⟩
            have := HK.out
            go_tidy
            unfold momB
            grind
        · have hd : (m.kind == 1) = false := by simp [hk]
          have HK := Lib.hid hk
          clear hk
          go_wp2
          all_goals
            go_meet
            refine ⟨congrArg Value.bool ?_, rfl⟩
            have := HK.out
            go_tidy
            unfold momB
            grind
      case rest =>
        obtain ⟨rfl, rfl⟩ := hcut
        clear x0 y0 y1 y2 y3 y4
        have HH : Hid (momHd t.fns.length m = !momB m) := Lib.hid (by rw [HM.out, HQ.out]; rfl)
        generalize hq : momB m = q at HH
        clear hq
        cases q with
        | true =>
          go_wp2
          go_ret
          have HL := HB
          exact ⟨ret_bool (by unfold momOk; rw [HH.out]; rfl), (by repeat (with_reducible first | exact Below.refl _ _ | exact HL.out | refine bl_drewN ?_ _ | refine bl_drew ?_ | refine bl_alloc ?_ _ | refine bl_set ?_ (by dsimp only; omega) _))⟩
        | false =>
          go_wp2_with fail
          clear y5
          have bad : ∀ k, k < m.vars.length → varOk (elt m.vars k) = false → momOk t.fns.length m = false := fun k hk hb => by
            have : varsOk m.vars = false := by
              cases hh : varsOk m.vars with
              | false => rfl
              | true =>
                unfold varsOk at hh
                rw [List.all_eq_true] at hh
                have h3 := hh (elt m.vars k) (by rw [elt_eq hk]; exact List.getElem_mem hk)
                rw [hb] at h3; cases h3
            unfold momOk; rw [this, Bool.and_false]
          have BAD := Lib.hid bad
          clear bad
          go_loopw [56] (fun i wr => ∃ k : Nat, k ≤ m.vars.length ∧ i = .int .i64 k ∧ varsOk (m.vars.take k) = true ∧ Below w.heap.size w wr) (fun i _ => m.vars.length - (intOf i).toNat)
          case atStart => exact ⟨0, Nat.zero_le _, rfl, by simp [varsOk], HB.out⟩
          case round =>
            obtain ⟨k, hk, rfl, hq, hb⟩ := hrel
            have HL := Lib.hid hb
            have HF := Lib.hid hq
            clear hq
            by_cases hlt : k < m.vars.length
            · obtain ⟨A', c', he, _, hrow⟩ := HV.out.later hb
              obtain ⟨rfl, rfl⟩ : A = A' ∧ c = c' := by simpa using he
              obtain ⟨b, o, rfl, hc⟩ := hrow (by omega)
              have hc0 : wr.cell? ⟨b, o + k * 2, none⟩ = some (.string (elt m.vars k).nm) := hc k hlt 0 (by omega)
              have hc1 : wr.cell? ⟨b, o + k * 2 + 1, none⟩ = some (.string (elt m.vars k).tx) := hc k hlt 1 (by omega)
              have HSn := Lib.hid (varsOk_snoc m.vars k hlt)
              obtain ⟨hz1, hz2⟩ := HS.out k hlt
              clear hc he hrow hb
              by_cases h0 : (elt m.vars k).nm.size = 0
              · have hd : (((elt m.vars k).nm.size : Int) == 0) = true := by simp [h0]
                have H0 := Lib.hid h0
                clear h0
                go_wp2
                go_ret
                exact ⟨ret_bool (BAD.out k hlt (by unfold varOk inB; simp [H0.out])).symm, (by repeat (with_reducible first | exact Below.refl _ _ | exact HL.out | refine bl_drewN ?_ _ | refine bl_drew ?_ | refine bl_alloc ?_ _ | refine bl_set ?_ (by dsimp only; omega) _))⟩
              · have hd : (((elt m.vars k).nm.size : Int) == 0) = false := by rw [beq_eq_false_iff_ne]; omega
                have H0 := Lib.hid h0
                clear h0
                go_wp2
                all_goals first
                  | (go_roundw
                     case rel =>
                       refine ⟨k + 1, by omega, by go_num, ?_, (by repeat (with_reducible first | exact Below.refl _ _ | exact HL.out | refine bl_drewN ?_ _ | refine bl_drew ?_ | refine bl_alloc ?_ _ | refine bl_set ?_ (by dsimp only; omega) _))⟩
                       rw [HSn.out, HF.out]
                       have := H0.out
                       go_tidy
                       unfold varOk inB
                       grind
                     case measure => simp [intOf]; omega)
                  | (go_ret
                     refine ⟨ret_bool (BAD.out k hlt ?_).symm, (by repeat (with_reducible first | exact Below.refl _ _ | exact HL.out | refine bl_drewN ?_ _ | refine bl_drew ?_ | refine bl_alloc ?_ _ | refine bl_set ?_ (by dsimp only; omega) _))⟩
                     go_tidy
                     unfold varOk inB
                     grind)
            · obtain rfl : k = m.vars.length := by omega
              clear hb
              go_wp2
              go_ret
              have := HF.out
              rw [List.take_length] at this
              exact ⟨ret_bool (by unfold momOk; rw [HH.out, this]; rfl), HL.out⟩
end Go.Proofs.Ytcklnjjbhngbcaa

namespace Go.Proofs.Ytcklnjjbhngbcaa
open Go.RowKit Go.Proofs.Lens

theorem bl_trans {lo : Nat} {a b c : World} (h : Below lo a b) (k : Below lo b c) : Below lo a c := ⟨k.os.trans h.os, k.tape.trans h.tape, k.output.trans h.output, Nat.le_trans h.size k.size, fun j hj => (k.block j hj).trans (h.block j hj)⟩
set_option maxRecDepth 100000 in
set_option maxHeartbeats 2000000 in
theorem spec_TraceOk_calls (v1 v2 : Value) (t : PTr) (w : World) (h : RdTr w v1 v2 t) (hsm : smTr t) :
    Calls Try.prog 45 #[.agg #[v1, v2]] w fun e w' => e = .returned (.agg #[.int .i64 (faultP t).1, .int .i64 (faultP t).2]) ∧ Below w.heap.size w w' := by
  have HT := Lib.hid h
  have HT0 := Lib.hid h
  have HSM := Lib.hid hsm
  obtain ⟨⟨A1, c1, rfl, hn1, -⟩, ⟨vv, ⟨A2, c2, rfl, hn2, -⟩, -⟩⟩ := h
  obtain ⟨⟨hs1, -⟩, ⟨hs2, -⟩⟩ := hsm
  go_enter Try.func45, Try.ntmps45
  go_upto_region 1 with fail
  generalize hW : World.alloc (World.alloc w _) _ = W
  have HB : Hid (Below w.heap.size w W) := by rw [← hW]; exact Lib.hid (by repeat (with_reducible first | exact Below.refl _ _ | exact HL.out | refine bl_drewN ?_ _ | refine bl_drew ?_ | refine bl_alloc ?_ _ | refine bl_set ?_ (by dsimp only; omega) _))
  have HX : Hid (BoxAt W w.heap.size [.slice A1 t.fns.length c1, .slice A2 t.moms.length c2]) := by rw [← hW]; exact Lib.hid ((BoxAt.new w _ _).later (bl_alloc (Below.refl _ _) _))
  have HR : Hid (Blk W (w.heap.size + 1) 67 2 (fun _ => .int .i64 0)) := by
    rw [← hW]
    have := Blk.made (w.alloc (.cells #[.slice A1 t.fns.length c1, .slice A2 t.moms.length c2] 35)) #[.int .i64 0, .int .i64 0] 67
    rw [World.size_alloc] at this
    exact Lib.hid <| this.congr fun j hj => by match j, hj with | 0, _ => rfl | 1, _ => rfl
  clear hW
  obtain ⟨x0, x1⟩ := HX.out.open2
  go_wp2_with fail
  refine (l1sizes_calls _ _ t _ (HT.out.later HB.out)).mono ?_
  rintro e w0 ⟨rfl, hb0⟩
  have hr := HR.out.later hb0
  have r0 := hr.cell (j := 0) (by omega)
  have r1 := hr.cell (j := 1) (by omega)
  have rf0 := hr.free 0
  have rf1 := hr.free 1
  have HR1 := Lib.hid hr
  have HL := Lib.hid hb0
  have HB1 := Lib.hid (bl_then HB.out HL.out)
  clear hr hb0 x0 x1
  obtain ⟨x0, x1⟩ := (HX.out.later HL.out).open2
  generalize hq : sizesOk t = q
  have HSO := Lib.hid hq
  clear hq
  cases q with
  | false =>
    go_wp2
    have hf : faultP t = (1, 0) := by unfold faultP; rw [if_pos HSO.out]
    refine bodyPost_ret (v := .agg #[.int .i64 1, .int .i64 0]) (by simp [results, Try.results45, go_sem, r0, r1]) rfl ⟨by rw [hf], ?_⟩
    have HL := HB1
    exact (by repeat (with_reducible first | exact Below.refl _ _ | exact HL.out | refine bl_drewN ?_ _ | refine bl_drew ?_ | refine bl_alloc ?_ _ | refine bl_set ?_ (by dsimp only; omega) _))
  | true =>
    have HT1 := Lib.hid (HT.out.later HB1.out)
    have HX1 := Lib.hid (HX.out.later HL.out)
    clear HL HB HT HX HR x0 x1
    obtain ⟨x0, x1⟩ := HX1.out.open2
    go_wp2_with fail
    go_loopw [16] (fun i wy => ∃ k : Nat, k ≤ t.moms.length ∧ i = .int .i64 k ∧ firstNZ (momCode t) (t.moms.length - 0) 0 = firstNZ (momCode t) (t.moms.length - k) k ∧ Below w0.heap.size w0 wy) (fun i _ => t.moms.length - (intOf i).toNat)
    case atStart => exact ⟨0, Nat.zero_le _, rfl, rfl, Below.refl _ _⟩
    case round =>
      obtain ⟨k, hk, rfl, hq, hb⟩ := hrel
      have HL := Lib.hid hb
      have HQ := Lib.hid hq
      clear hq
      by_cases hlt : k < t.moms.length
      · obtain ⟨b, o, vk, hA, c0, c1', c2', c3, c4, c5, hvk⟩ := rd_moment (HT1.out.2.later hb) hlt
        have HA := Lib.hid hA
        have HVK := Lib.hid hvk
        obtain ⟨Av, cv, rfl, -⟩ := hvk
        have HX2 := Lib.hid (HX1.out.later HL.out)
        have HR2 := Lib.hid (HR1.out.later HL.out)
        have HT2 := Lib.hid (HT1.out.later HL.out)
        have HB2 := Lib.hid (bl_then HB1.out HL.out)
        have hsm := HSM.out.2.2 k hlt
        have hsz : w.heap.size + 1 < wr.heap.size := HR2.out.lt
        clear hb x0 x1 r0 r1 rf0 rf1 hA
        subst A2
        obtain ⟨x0, x1⟩ := HX2.out.open2
        go_upto_region 6 with fail
        generalize hW2 : World.alloc wr _ = W2
        have hbl : Below wr.heap.size wr W2 := by rw [← hW2]; exact bl_alloc (Below.refl _ _) _
        have y0 : W2.cell? ⟨wr.heap.size, 0, none⟩ = some (.int .i64 (elt t.moms k).kind) := by rw [← hW2]; clear hW2; go_simp
        have y1 : W2.cell? ⟨wr.heap.size, 1, none⟩ = some (.int .i64 (elt t.moms k).task) := by rw [← hW2]; clear hW2; go_simp
        have y2 : W2.cell? ⟨wr.heap.size, 2, none⟩ = some (.int .i64 (elt t.moms k).fn) := by rw [← hW2]; clear hW2; go_simp
        have y3 : W2.cell? ⟨wr.heap.size, 3, none⟩ = some (.int .i64 (elt t.moms k).line) := by rw [← hW2]; clear hW2; go_simp
        have y4 : W2.cell? ⟨wr.heap.size, 4, none⟩ = some (.string (elt t.moms k).text) := by rw [← hW2]; clear hW2; go_simp
        have y5 : W2.cell? ⟨wr.heap.size, 5, none⟩ = some (.slice Av (elt t.moms k).vars.length cv) := by rw [← hW2]; clear hW2; go_simp
        have HX3 := Lib.hid (HX2.out.later hbl)
        have HR3 := Lib.hid (HR2.out.later hbl)
        have HT3 := Lib.hid (HT2.out.later hbl)
        have HV3 := Lib.hid (HVK.out.later hbl)
        have HB3 := Lib.hid (bl_then HB2.out hbl)
        have HL3 := Lib.hid (bl_then HL.out hbl)
        clear hbl hW2 x0 x1 HX2 HR2 HT2 HVK HB2 HL
        obtain ⟨x0, x1⟩ := HX3.out.open2
        go_wp2_with fail
        refine (l1moment_calls _ _ _ t (elt t.moms k) _ HT3.out HV3.out hsm hs1).mono ?_
        rintro e w1 ⟨rfl, hb⟩
        have HL2 := Lib.hid (bl_then HL3.out hb)
        have hr := HR3.out.later hb
        have r0 := hr.cell (j := 0) (by omega)
        have r1 := hr.cell (j := 1) (by omega)
        have rf0 := hr.free 0
        have rf1 := hr.free 1
        have HB4 := Lib.hid (bl_then HB3.out hb)
        generalize hmo : momOk t.fns.length (elt t.moms k) = mo
        have HMO := Lib.hid hmo
        clear hr hb x0 x1 y0 y1 y2 y3 y4 y5 c0 c1' c2' c3 c4 c5 hmo
        cases mo with
        | true =>
          go_wp2
          go_roundw
          case rel => exact ⟨k + 1, by omega, by go_num, HQ.out.trans (firstNZ_skip hlt (by unfold momCode; rw [if_pos HMO.out])), HL2.out⟩
          case measure => simp [intOf]; omega
        | false =>
          go_wp2
          have hf : faultP t = (2, (k : Int)) := by
            have h2 : firstNZ (momCode t) (t.moms.length - 0) 0 = (2, (k : Int)) := by
              rw [HQ.out, firstNZ_hit hlt (by unfold momCode; rw [if_neg (by rw [HMO.out]; simp)]; omega)]
              unfold momCode; rw [if_neg (by rw [HMO.out]; simp)]
            unfold faultP
            rw [if_neg (by rw [HSO.out]; simp), h2, if_pos (by simp)]
          refine bodyPost_ret (v := .agg #[.int .i64 2, .int .i64 k]) (by simp [results, Try.results45, go_sem, r0, r1]) rfl ⟨by rw [hf], ?_⟩
          have HL := HB4
          exact (by repeat (with_reducible first | exact Below.refl _ _ | exact HL.out | refine bl_drewN ?_ _ | refine bl_drew ?_ | refine bl_alloc ?_ _ | refine bl_set ?_ (by dsimp only; omega) _))
      · obtain rfl : k = t.moms.length := by omega
        clear hb x0 x1 r0 r1
        have HT2 := Lib.hid (HT1.out.later HL.out)
        have HX2 := Lib.hid (HX1.out.later HL.out)
        have HR2 := Lib.hid (HR1.out.later HL.out)
        have HB2 := Lib.hid (bl_then HB1.out HL.out)
        have HQ2 : Hid (firstNZ (momCode t) (t.moms.length - 0) 0 = (0, 0)) := Lib.hid (HQ.out.trans firstNZ_end)
        clear HB1 HX1 HR1 HQ HT1 rf0 rf1 HL
        obtain ⟨x0, x1⟩ := HX2.out.open2
        go_wp2_with fail
        refine (l1begin_calls _).mono ?_
        rintro e w1 ⟨g, T, f, rfl, hW, hb⟩
        have HW := Lib.hid hW
        have HL1 := Lib.hid hb
        have HX3 := Lib.hid (HX2.out.later hb)
        clear hW hb x0 x1
        obtain ⟨x0, x1⟩ := HX3.out.open2
        go_wp2_with fail
        go_loopw [32] (fun i wz => ∃ (k : Nat) (f : Nat → Value), k ≤ t.moms.length ∧ i = .int .i64 k ∧ firstNZ (moveCode t) (t.moms.length - 0) 0 = firstNZ (moveCode t) (t.moms.length - k) k ∧
          Inv (stN t.moms k) k ∧ IsS wz wr.heap.size g T (stN t.moms k) f ∧ Below wr.heap.size wr wz) (fun i _ => t.moms.length - (intOf i).toNat)
        case atStart => exact ⟨0, f, Nat.zero_le _, rfl, rfl, inv0, HW.out, HL1.out⟩
        case round =>
          obtain ⟨k, f, hk, rfl, hq, hinv, hW, hb⟩ := hrel
          have HQ := Lib.hid hq
          have HI := Lib.hid hinv
          have HW := Lib.hid hW
          have HL := Lib.hid hb
          clear hq hinv hW hb x0 x1
          by_cases hlt : k < t.moms.length
          · have HM := Lib.hid (HT2.out.2.later HL.out)
            obtain ⟨b, o, vk, hA, c0, c1', c2', c3, c4, c5, hvk⟩ := rd_moment HM.out hlt
            have HA := Lib.hid hA
            obtain ⟨Av, cv, rfl, -⟩ := hvk
            clear hA
            subst A2
            go_upto_region 13 with fail
            generalize hW2 : World.alloc wr _ = W2
            have hbl : Below wr.heap.size wr W2 := by rw [← hW2]; exact bl_alloc (Below.refl _ _) _
            have y0 : W2.cell? ⟨wr.heap.size, 0, none⟩ = some (.int .i64 (elt t.moms k).kind) := by rw [← hW2]; clear hW2; go_simp
            have y1 : W2.cell? ⟨wr.heap.size, 1, none⟩ = some (.int .i64 (elt t.moms k).task) := by rw [← hW2]; clear hW2; go_simp
            have y2 : W2.cell? ⟨wr.heap.size, 2, none⟩ = some (.int .i64 (elt t.moms k).fn) := by rw [← hW2]; clear hW2; go_simp
            have y3 : W2.cell? ⟨wr.heap.size, 3, none⟩ = some (.int .i64 (elt t.moms k).line) := by rw [← hW2]; clear hW2; go_simp
            have y4 : W2.cell? ⟨wr.heap.size, 4, none⟩ = some (.string (elt t.moms k).text) := by rw [← hW2]; clear hW2; go_simp
            have y5 : W2.cell? ⟨wr.heap.size, 5, none⟩ = some (.slice Av (elt t.moms k).vars.length cv) := by rw [← hW2]; clear hW2; go_simp
            have HS2 := Lib.hid (HW.out.later hbl)
            have HL2 := Lib.hid (bl_then HL.out hbl)
            clear hbl hW2
            go_wp2_with fail
            refine (move_calls _ g T _ _ (elt t.moms k) _ _ _ k k _ HS2.out HI.out).mono ?_
            rintro e w2 ⟨rfl, hb, hst⟩
            have HB3 := Lib.hid (bl_trans HL2.out hb.bl)
            have hr := HR2.out.later HB3.out
            have r0 := hr.cell (j := 0) (by omega)
            have r1 := hr.cell (j := 1) (by omega)
            have rf0 := hr.free 0
            have rf1 := hr.free 1
            have HBw := Lib.hid (bl_then HB2.out HB3.out)
            have HST := Lib.hid hst
            clear hr hb hst y0 y1 y2 y3 y4 y5 c0 c1' c2' c3 c4 c5
            have HMC : Hid (moveCode t k = checkP (stN t.moms k) (elt t.moms k)) := Lib.hid rfl
            generalize hcc : checkP (stN t.moms k) (elt t.moms k) = cc at HMC HST
            have HCC := Lib.hid hcc
            clear hcc
            by_cases hz : cc = 0
            · have hd : (cc != 0) = false := by simp [hz]
              have HZ := Lib.hid hz
              clear hz r0 r1 rf0 rf1
              have hmo : momOk t.fns.length (elt t.moms k) = true := by
                have := firstNZ_zero (f := momCode t) (d := t.moms.length - 0) (k := 0) (by rw [HQ2.out]) k (by omega) (by omega)
                unfold momCode at this
                by_cases h4 : momOk t.fns.length (elt t.moms k) = true
                · exact h4
                · rw [if_neg h4] at this; cases this
              have HI3 := Lib.hid (inv_step HI.out hmo (HCC.out.trans HZ.out))
              clear hmo
              go_wp2
              go_roundw
              case rel =>
                obtain ⟨f', hf'⟩ := HST.out HZ.out
                exact ⟨k + 1, f', by omega, by go_num, HQ.out.trans (firstNZ_skip hlt (by rw [HMC.out, HZ.out])), HI3.out, hf', HB3.out⟩
              case measure => simp [intOf]; omega
            · have hd : (cc != 0) = true := by simp [hz]
              have HZ := Lib.hid hz
              clear hz
              go_wp2
              have hf : faultP t = (cc, (k : Int)) := by
                unfold faultP
                rw [if_neg (by rw [HSO.out]; simp), HQ2.out, if_neg (by simp), HQ.out, firstNZ_hit hlt (by rw [HMC.out]; exact HZ.out), HMC.out]
              refine bodyPost_ret (v := .agg #[.int .i64 cc, .int .i64 k]) (by simp [results, Try.results45, go_sem, r0, r1]) rfl ⟨by rw [hf], ?_⟩
              have HL := HBw
              exact (by repeat (with_reducible first | exact Below.refl _ _ | exact HL.out | refine bl_drewN ?_ _ | refine bl_drew ?_ | refine bl_alloc ?_ _ | refine bl_set ?_ (by dsimp only; omega) _))
          · obtain rfl : k = t.moms.length := by omega
            have hr := HR2.out.later HL.out
            have r0 := hr.cell (j := 0) (by omega)
            have r1 := hr.cell (j := 1) (by omega)
            have rf0 := hr.free 0
            have rf1 := hr.free 1
            have HB3 := Lib.hid (bl_then HB2.out HL.out)
            clear hr
            go_wp2
            have hf : faultP t = (0, 0) := by
              unfold faultP
              rw [if_neg (by rw [HSO.out]; simp), HQ2.out, if_neg (by simp), HQ.out, firstNZ_end]
            refine bodyPost_ret (v := .agg #[.int .i64 0, .int .i64 0]) (by simp [results, Try.results45, go_sem, r0, r1]) rfl ⟨by rw [hf], ?_⟩
            have HL := HB3
            exact (by repeat (with_reducible first | exact Below.refl _ _ | exact HL.out | refine bl_drewN ?_ _ | refine bl_drew ?_ | refine bl_alloc ?_ _ | refine bl_set ?_ (by dsimp only; omega) _))
end Go.Proofs.Ytcklnjjbhngbcaa

namespace Go.Proofs.Ytcklnjjbhngbcaa
open Go.RowKit Go.Proofs.Lens

set_option maxRecDepth 100000 in
set_option maxHeartbeats 400000 in
theorem l1ok_calls (v1 v2 : Value) (t : PTr) (w : World) (h : RdTr w v1 v2 t) (hsm : smTr t) :
    Calls Try.prog 97 #[.agg #[v1, v2]] w fun e w' => e = .returned (.bool (soundP t)) ∧ Below w.heap.size w w' := by
  have HT := Lib.hid h
  have HS := Lib.hid hsm
  obtain ⟨⟨A1, c1, rfl, hn1, -⟩, ⟨vv, ⟨A2, c2, rfl, hn2, -⟩, -⟩⟩ := h
  clear hsm
  go_enter Try.func97, Try.ntmps97
  go_wp2_with fail
  refine (spec_TraceOk_calls _ _ t _ (HT.out.later (by repeat (with_reducible first | exact Below.refl _ _ | exact HL.out | refine bl_drewN ?_ _ | refine bl_drew ?_ | refine bl_alloc ?_ _ | refine bl_set ?_ (by dsimp only; omega) _))) HS.out).mono ?_; rintro e w1 ⟨rfl, hb⟩
  have HB := Lib.hid (bl_then (bl_alloc (Below.refl _ w) _) hb)
  clear hb
  go_wp2
  go_ret
  have HL := HB
  exact ⟨ret_bool (by unfold soundP; exact Bool.beq_eq_decide_eq _ _), (by repeat (with_reducible first | exact Below.refl _ _ | exact HL.out | refine bl_drewN ?_ _ | refine bl_drew ?_ | refine bl_alloc ?_ _ | refine bl_set ?_ (by dsimp only; omega) _))⟩
theorem l1ok_is (v1 v2 : Value) (t : PTr) (w : World) {b : Bool} (h : RdTr w v1 v2 t) (hsm : smTr t) (hs : soundP t = b) :
    Calls Try.prog 97 #[.agg #[v1, v2]] w fun e w' => e = .returned (.bool b) ∧ Below w.heap.size w w' := hs ▸ l1ok_calls v1 v2 t w h hsm

set_option maxRecDepth 100000 in
set_option maxHeartbeats 400000 in
theorem l1place_calls (v1 v2 : Value) (t : PTr) (k : Int) (w : World) (h : RdTr w v1 v2 t) :
    Calls Try.prog 98 #[.agg #[v1, v2], .int .i64 k] w fun e w' => e = .returned (.bool (placeOk t k)) ∧ Below w.heap.size w w' := by
  obtain ⟨⟨A1, c1, rfl, hn1, -⟩, ⟨vv, ⟨A2, c2, rfl, hn2, -⟩, -⟩⟩ := h
  go_enter Try.func98, Try.ntmps98
  go_wp2_with fail
  refine (l1in_calls _ _ _ _).mono ?_; rintro e w2 ⟨rfl, rfl⟩
  go_wp2
  go_ret
  exact ⟨rfl, bl_alloc (Below.refl _ _) _⟩
theorem l1place_is (v1 v2 : Value) (t : PTr) (k : Int) (w : World) {b : Bool} (h : RdTr w v1 v2 t) (hp : placeOk t k = b) :
    Calls Try.prog 98 #[.agg #[v1, v2], .int .i64 k] w fun e w' => e = .returned (.bool b) ∧ Below w.heap.size w w' := hp ▸ l1place_calls v1 v2 t k w h

def StPost (w : World) (s : PS) (e : Ending) (w' : World) : Prop := ∃ g T f, e = .returned (.pointer (some ⟨g, 0, none⟩)) ∧ IsS w' w.heap.size g T s f ∧ Below w.heap.size w w'
set_option maxRecDepth 100000 in
set_option maxHeartbeats 2000000 in
theorem l1at_calls (v1 v2 : Value) (t : PTr) (k : Int) (w : World) (h : RdTr w v1 v2 t) (hsm : smTr t) (hg : soundP t = true) (hk0 : -1 ≤ k) (hk1 : k < t.moms.length) :
    Calls Try.prog 143 #[.agg #[v1, v2], .int .i64 k] w (StPost w (stN t.moms (k + 1).toNat)) := by
  have HT := Lib.hid h
  obtain ⟨⟨A1, c1, rfl, hn1, -⟩, ⟨vv, ⟨A2, c2, rfl, hn2, -⟩, -⟩⟩ := h
  obtain ⟨⟨hs1, -⟩, ⟨hs2, -⟩⟩ := hsm
  have SO := Lib.hid (sound_iff hg)
  clear hg
  go_enter Try.func143, Try.ntmps143
  go_wp2_with fail
  generalize hW : World.alloc w _ = W
  have HB : Hid (Below w.heap.size w W) := by rw [← hW]; exact Lib.hid (by repeat (with_reducible first | exact Below.refl _ _ | exact HL.out | refine bl_drewN ?_ _ | refine bl_drew ?_ | refine bl_alloc ?_ _ | refine bl_set ?_ (by dsimp only; omega) _))
  have HX : Hid (BoxAt W w.heap.size [.slice A1 t.fns.length c1, .slice A2 t.moms.length c2]) := by rw [← hW]; exact Lib.hid (BoxAt.new w _ _)
  clear hW
  refine (l1begin_calls _).mono ?_
  rintro e w1 ⟨g, T, f, rfl, hS, hb⟩
  have HW := Lib.hid hS
  have HL := Lib.hid hb
  clear hS hb
  go_wp2_with fail
  go_loopw [6] (fun i wr => ∃ (n : Nat) (f : Nat → Value), n ≤ t.moms.length ∧ (n : Int) ≤ k + 1 ∧ i = .int .i64 n ∧ IsS wr W.heap.size g T (stN t.moms n) f ∧ Below W.heap.size W wr) (fun i _ => t.moms.length - (intOf i).toNat)
  case atStart => exact ⟨0, f, Nat.zero_le _, by omega, rfl, HW.out, HL.out⟩
  case round =>
    obtain ⟨n, f, hn, hn2, rfl, hS, hb⟩ := hrel
    clear HW HL
    have HW := Lib.hid hS
    have HL := Lib.hid hb
    clear hS hb
    by_cases h1 : (n : Int) ≤ k
    · have h2 : n < t.moms.length := by omega
      have HI := Lib.hid (SO.out.inv n hn)
      have HM := Lib.hid ((HT.out.2.later HB.out).later HL.out)
      obtain ⟨b, o, vk, hA, c0, c1', c2', c3, c4, c5, hvk⟩ := rd_moment HM.out h2
      obtain ⟨Av, cv, rfl, -⟩ := hvk
      subst hA
      obtain ⟨x0, x1⟩ := (HX.out.later HL.out).open2
      go_wp2_with fail
      refine (move_calls _ g T _ _ (elt t.moms n) _ _ _ n n _ HW.out HI.out).mono ?_
      rintro e w2 ⟨rfl, hb, hst⟩
      have HL2 := Lib.hid (bl_trans HL.out hb.bl)
      have HST := Lib.hid (hst (SO.out.moves n h2))
      clear hb hst x0 x1 c0 c1' c2' c3 c4 c5
      go_wp2
      go_roundw
      case rel =>
        obtain ⟨f', hf'⟩ := HST.out
        exact ⟨n + 1, f', by omega, by omega, by go_num, hf', HL2.out⟩
      case measure => simp [intOf]; omega
    · go_wp2
      go_ret
      have e : (k + 1).toNat = n := by omega
      rw [e]
      exact ⟨g, T, f, rfl, HW.out.lower HB.out.size, bl_then HB.out HL.out⟩

set_option maxRecDepth 100000 in
set_option maxHeartbeats 2000000 in
theorem l1stand_calls (v1 v2 : Value) (t : PTr) (k : Int) (w : World) (h : RdTr w v1 v2 t) (hsm : smTr t) (hg : goodP t k = true) :
    Calls Try.prog 99 #[.agg #[v1, v2], .int .i64 k] w (StPost w (atP t k)) := by
  have HT := Lib.hid h
  have HS := Lib.hid hsm
  obtain ⟨⟨A1, c1, rfl, hn1, -⟩, ⟨vv, ⟨A2, c2, rfl, hn2, -⟩, -⟩⟩ := h
  obtain ⟨⟨hs1, -⟩, ⟨hs2, -⟩⟩ := hsm
  unfold goodP at hg
  rw [Bool.and_eq_true] at hg
  have hp := inB_true.1 hg.2
  have HQ := Lib.hid hg.1
  clear hg
  by_cases hk : k = t.moms.length
  · have e : atP t k = stN t.moms (k - 1 + 1).toNat := by unfold atP atN; congr 1; omega
    have hd : (k == (t.moms.length : Int)) = true := by simp [hk]
    have HE := Lib.hid e
    have hk1 : 0 ≤ k := by omega
    have hk2 : k - 1 < t.moms.length := by omega
    clear hk e
    go_enter Try.func99, Try.ntmps99
    go_wp2_with fail
    refine (l1at_calls _ _ t _ _ (HT.out.later (by repeat (with_reducible first | exact Below.refl _ _ | exact HL.out | refine bl_drewN ?_ _ | refine bl_drew ?_ | refine bl_alloc ?_ _ | refine bl_set ?_ (by dsimp only; omega) _))) HS.out HQ.out (by omega) (by omega)).mono ?_
    rintro e w1 ⟨g, T, f, rfl, hS, hb⟩
    have HW := Lib.hid (hS.lower (lo' := w.heap.size) (by simp))
    have HB := Lib.hid (bl_then (bl_alloc (Below.refl _ w) _) hb)
    clear hS hb
    go_wp2
    go_ret
    exact ⟨g, T, f, rfl, by rw [HE.out]; exact HW.out, HB.out⟩
  · have e : atP t k = stN t.moms (k + 1).toNat := by unfold atP atN; congr 1; omega
    have hd : (k == (t.moms.length : Int)) = false := by simp [hk]
    have HE := Lib.hid e
    have hk2 : k < t.moms.length := by omega
    clear hk e
    go_enter Try.func99, Try.ntmps99
    go_wp2_with fail
    refine (l1at_calls _ _ t _ _ (HT.out.later (by repeat (with_reducible first | exact Below.refl _ _ | exact HL.out | refine bl_drewN ?_ _ | refine bl_drew ?_ | refine bl_alloc ?_ _ | refine bl_set ?_ (by dsimp only; omega) _))) HS.out HQ.out (by omega) (by omega)).mono ?_
    rintro e w1 ⟨g, T, f, rfl, hS, hb⟩
    have HW := Lib.hid (hS.lower (lo' := w.heap.size) (by simp))
    have HB := Lib.hid (bl_then (bl_alloc (Below.refl _ w) _) hb)
    clear hS hb
    go_wp2
    go_ret
    exact ⟨g, T, f, rfl, by rw [HE.out]; exact HW.out, HB.out⟩

set_option maxRecDepth 100000 in
set_option maxHeartbeats 400000 in
theorem spec_RunningAt_calls (v1 v2 : Value) (t : PTr) (k : Int) (w : World) (h : RdTr w v1 v2 t) (hsm : smTr t) :
    Calls Try.prog 40 #[.agg #[v1, v2], .int .i64 k] w fun e w' => e = .returned (.int .i64 (runP t k)) ∧ Below w.heap.size w w' := by
  have HT := Lib.hid h
  have HS := Lib.hid hsm
  obtain ⟨⟨A1, c1, rfl, hn1, -⟩, ⟨vv, ⟨A2, c2, rfl, hn2, -⟩, -⟩⟩ := h
  clear hsm
  cases hs : soundP t with
  | false =>
    have HR : Hid (runP t k = -1) := Lib.hid (by unfold runP goodP; rw [hs]; rfl)
    have HQ := Lib.hid hs
    clear hs
    go_enter Try.func40, Try.ntmps40
    go_wp2_with fail
    refine (l1ok_is _ _ t _ (HT.out.later (by repeat (with_reducible first | exact Below.refl _ _ | exact HL.out | refine bl_drewN ?_ _ | refine bl_drew ?_ | refine bl_alloc ?_ _ | refine bl_set ?_ (by dsimp only; omega) _))) HS.out HQ.out).mono ?_; rintro e w1 ⟨rfl, hb⟩
    have HB := Lib.hid (bl_then (bl_alloc (Below.refl _ w) _) hb)
    clear hb
    go_wp2
    go_ret
    exact ⟨ret_int HR.out.symm, HB.out⟩
  | true =>
    cases hp : placeOk t k with
    | false =>
      have HR : Hid (runP t k = -1) := Lib.hid (by unfold runP goodP; rw [hs, hp]; rfl)
      have HQ := Lib.hid hs
      have HP := Lib.hid hp
      clear hs hp
      go_enter Try.func40, Try.ntmps40
      go_wp2_with fail
      refine (l1ok_is _ _ t _ (HT.out.later (by repeat (with_reducible first | exact Below.refl _ _ | exact HL.out | refine bl_drewN ?_ _ | refine bl_drew ?_ | refine bl_alloc ?_ _ | refine bl_set ?_ (by dsimp only; omega) _))) HS.out HQ.out).mono ?_; rintro e w1 ⟨rfl, hb⟩
      have HX := Lib.hid ((BoxAt.new w [.slice A1 t.fns.length c1, .slice A2 t.moms.length c2] 35).later hb)
      have HB := Lib.hid (bl_then (bl_alloc (Below.refl _ w) _) hb)
      clear hb
      obtain ⟨x0, x1⟩ := HX.out.open2
      go_wp2_with fail
      refine (l1place_is _ _ t _ _ (HT.out.later HB.out) HP.out).mono ?_; rintro e w2 ⟨rfl, hb⟩
      clear x0 x1
      replace HB := Lib.hid (bl_then HB.out hb); clear hb
      go_wp2
      go_ret
      exact ⟨ret_int HR.out.symm, HB.out⟩
    | true =>
      have hg : goodP t k = true := by unfold goodP; rw [hs, hp]; rfl
      have HR : Hid (runP t k = (atP t k).cur) := Lib.hid (by unfold runP; rw [hg]; rfl)
      have HQ := Lib.hid hs
      have HP := Lib.hid hp
      have HG := Lib.hid hg
      clear hs hp hg
      go_enter Try.func40, Try.ntmps40
      go_wp2_with fail
      refine (l1ok_is _ _ t _ (HT.out.later (by repeat (with_reducible first | exact Below.refl _ _ | exact HL.out | refine bl_drewN ?_ _ | refine bl_drew ?_ | refine bl_alloc ?_ _ | refine bl_set ?_ (by dsimp only; omega) _))) HS.out HQ.out).mono ?_; rintro e w1 ⟨rfl, hb⟩
      have HX := Lib.hid ((BoxAt.new w [.slice A1 t.fns.length c1, .slice A2 t.moms.length c2] 35).later hb)
      have HB := Lib.hid (bl_then (bl_alloc (Below.refl _ w) _) hb)
      clear hb
      obtain ⟨x0, x1⟩ := HX.out.open2
      go_wp2_with fail
      refine (l1place_is _ _ t _ _ (HT.out.later HB.out) HP.out).mono ?_; rintro e w2 ⟨rfl, hb⟩
      clear x0 x1
      replace HB := Lib.hid (bl_then HB.out hb); replace HX := Lib.hid (HX.out.later hb); clear hb
      obtain ⟨x0, x1⟩ := HX.out.open2
      go_wp2_with fail
      refine (l1stand_calls _ _ t _ _ (HT.out.later HB.out) HS.out HG.out).mono ?_; rintro e w3 ⟨g, T, f, rfl, hS, hb⟩
      have c1' : w3.cell? ⟨g, 1, none⟩ = some (.int .i64 (atP t k).cur) := hS.blk.cell (j := 1) (by omega)
      clear hS x0 x1
      replace HB := Lib.hid (bl_then HB.out hb); clear hb
      go_wp2
      go_ret
      exact ⟨ret_int HR.out.symm, HB.out⟩
theorem IsS.mv {w w' : World} {lo lo' g T : Nat} {s : PS} {f : Nat → Value} {ts : List TypeId} (h : IsS w lo g T s f) (hm : Mv ts lo' w w') (h1 : 130 ∉ ts) (h2 : 56 ∉ ts) (h3 : 59 ∉ ts) : IsS w' lo g T s f :=
  ⟨h.lo1, h.lo2, h.blk.mv hm h1, h.tb.mv hm h2, fun i hi => (h.row i hi).mv hm h3, h.ne⟩
end Go.Proofs.Ytcklnjjbhngbcaa

namespace Go.Proofs.Ytcklnjjbhngbcaa
open Go.RowKit Go.Proofs.Lens

theorem IsS.at {w : World} {lo g T : Nat} {s : PS} {f : Nat → Value} (h : IsS w lo g T s f) {i : Int} (h0 : 0 ≤ i) (h1 : i ≤ 100) :
    ∃ A cap, w.cell? ⟨g, 0, none⟩ = some (.slice (some ⟨T, 0, none⟩) 101 101) ∧ w.cell? ⟨T, i.toNat, none⟩ = some (.slice A (s.stk i).length cap) ∧ (s.stk i).length ≤ cap ∧ cap ≤ 9223372036854775807 ∧
      OwR w lo 59 3 (s.stk i).length (frC (s.stk i).reverse) (.slice A (s.stk i).length cap) := by
  have hr := h.row i.toNat (by omega)
  rw [Int.toNat_of_nonneg h0] at hr
  obtain ⟨A, cap, hv, hc1, hc2⟩ := hr.cap
  rw [hv] at hr
  exact ⟨A, cap, h.blk.cell (j := 0) (by omega), (h.tb.cell (by omega)).trans (by rw [hv]), hc1, hc2, hr⟩

set_option maxRecDepth 100000 in
set_option maxHeartbeats 400000 in
theorem l4good_calls (v1 v2 : Value) (t : PTr) (k : Int) (w : World) (h : RdTr w v1 v2 t) (hsm : smTr t) :
    Calls Try.prog 114 #[.agg #[v1, v2], .int .i64 k] w fun e w' => e = .returned (.bool (goodP t k)) ∧ Below w.heap.size w w' := by
  have HT := Lib.hid h
  have HS := Lib.hid hsm
  obtain ⟨⟨A1, c1, rfl, hn1, -⟩, ⟨vv, ⟨A2, c2, rfl, hn2, -⟩, -⟩⟩ := h
  clear hsm
  cases hs : soundP t with
  | false =>
    have HR : Hid (goodP t k = false) := Lib.hid (by unfold goodP; rw [hs]; rfl)
    have HQ := Lib.hid hs
    clear hs
    go_enter Try.func114, Try.ntmps114
    go_wp2_with fail
    refine (l1ok_is _ _ t _ (HT.out.later (by repeat (with_reducible first | exact Below.refl _ _ | exact HL.out | refine bl_drewN ?_ _ | refine bl_drew ?_ | refine bl_alloc ?_ _ | refine bl_set ?_ (by dsimp only; omega) _))) HS.out HQ.out).mono ?_; rintro e w1 ⟨rfl, hb⟩
    have HB := Lib.hid (bl_then (bl_alloc (Below.refl _ w) _) hb)
    clear hb
    go_wp2
    go_ret
    exact ⟨ret_bool HR.out.symm, HB.out⟩
  | true =>
    have HR : Hid (goodP t k = placeOk t k) := Lib.hid (by unfold goodP; rw [hs]; rfl)
    have HQ := Lib.hid hs
    clear hs
    go_enter Try.func114, Try.ntmps114
    go_wp2_with fail
    refine (l1ok_is _ _ t _ (HT.out.later (by repeat (with_reducible first | exact Below.refl _ _ | exact HL.out | refine bl_drewN ?_ _ | refine bl_drew ?_ | refine bl_alloc ?_ _ | refine bl_set ?_ (by dsimp only; omega) _))) HS.out HQ.out).mono ?_; rintro e w1 ⟨rfl, hb⟩
    have HX := Lib.hid ((BoxAt.new w [.slice A1 t.fns.length c1, .slice A2 t.moms.length c2] 35).later hb)
    have HB := Lib.hid (bl_then (bl_alloc (Below.refl _ w) _) hb)
    clear hb
    obtain ⟨x0, x1⟩ := HX.out.open2
    go_wp2_with fail
    refine (l1place_is _ _ t _ _ (HT.out.later HB.out) rfl).mono ?_; rintro e w2 ⟨rfl, hb⟩
    clear x0 x1
    replace HB := Lib.hid (bl_then HB.out hb); clear hb
    go_wp2
    go_ret
    exact ⟨ret_bool HR.out.symm, HB.out⟩
theorem l4good_is (v1 v2 : Value) (t : PTr) (k : Int) (w : World) {b : Bool} (h : RdTr w v1 v2 t) (hsm : smTr t) (hg : goodP t k = b) :
    Calls Try.prog 114 #[.agg #[v1, v2], .int .i64 k] w fun e w' => e = .returned (.bool b) ∧ Below w.heap.size w w' := hg ▸ l4good_calls v1 v2 t k w h hsm

theorem good_cur {t : PTr} {k : Int} (h : goodP t k = true) : Inv (atP t k) (atN t k) := by
  unfold goodP at h
  rw [Bool.and_eq_true] at h
  exact (sound_iff h.1).inv _ (atN_le t k)
theorem good_bd {t : PTr} {k : Int} (h : goodP t k = true) : -1 ≤ k ∧ k ≤ t.moms.length := by
  unfold goodP at h
  rw [Bool.and_eq_true] at h
  exact inB_true.1 h.2
theorem good_sound {t : PTr} {k : Int} (h : goodP t k = true) : soundP t = true := by
  unfold goodP at h
  rw [Bool.and_eq_true] at h
  exact h.1

set_option maxRecDepth 100000 in
set_option maxHeartbeats 2000000 in
theorem l4into_calls (v1 v2 : Value) (t : PTr) (k : Int) (w : World) (h : RdTr w v1 v2 t) (hsm : smTr t) (hg : goodP t k = true) :
    Calls Try.prog 116 #[.agg #[v1, v2], .int .i64 k] w fun e w' => e = .returned (.int .i64 (intoP t k)) ∧ Below w.heap.size w w' := by
  have HT := Lib.hid h
  have HS := Lib.hid hsm
  obtain ⟨⟨A1, c1, rfl, hn1, -⟩, ⟨vv, ⟨A2, c2, rfl, hn2, -⟩, -⟩⟩ := h
  obtain ⟨⟨hs1, -⟩, ⟨hs2, -⟩⟩ := hsm
  obtain ⟨k0, k1⟩ := good_bd hg
  have HP : Hid (intoP t k = (firstB (intoQ t k) t.moms.length (t.moms.length - (k + 1).toNat) (k + 1).toNat : Nat)) := Lib.hid (by unfold intoP seekP; rw [if_pos hg])
  have HG := Lib.hid hg
  clear hg
  go_enter Try.func116, Try.ntmps116
  go_wp2_with fail
  refine (l1stand_calls _ _ t _ _ (HT.out.later (by repeat (with_reducible first | exact Below.refl _ _ | exact HL.out | refine bl_drewN ?_ _ | refine bl_drew ?_ | refine bl_alloc ?_ _ | refine bl_set ?_ (by dsimp only; omega) _))) HS.out HG.out).mono ?_; rintro e w1 ⟨g, T, f, rfl, hS, hb⟩
  have HX := Lib.hid ((BoxAt.new w [.slice A1 t.fns.length c1, .slice A2 t.moms.length c2] 35).later hb)
  have HB := Lib.hid (bl_then (bl_alloc (Below.refl _ w) _) hb)
  have cc : w1.cell? ⟨g, 1, none⟩ = some (.int .i64 (atP t k).cur) := hS.blk.cell (j := 1) (by omega)
  clear hb hS
  obtain ⟨x0, x1⟩ := HX.out.open2
  obtain ⟨j, hj⟩ : ∃ j : Nat, k + 1 = (j : Int) := ⟨(k + 1).toNat, by omega⟩
  have HJ := Lib.hid hj
  clear hj
  go_wp2_with fail
  go_loop [7] (fun i => ∃ n : Nat, j ≤ n ∧ i = .int .i64 n ∧ firstB (intoQ t k) t.moms.length (t.moms.length - j) j = firstB (intoQ t k) t.moms.length (t.moms.length - n) n) (fun i => t.moms.length - (intOf i).toNat)
  case atStart => exact ⟨j, Nat.le_refl _, by rw [← HJ.out], rfl⟩
  case round =>
    obtain ⟨n, hn, rfl, hq⟩ := hrel
    have HQ := Lib.hid hq
    clear hq
    by_cases h2 : n < t.moms.length
    · obtain ⟨b, o, vk, hA, c0, c1', -, -, -, -, -⟩ := rd_moment (HT.out.2.later HB.out) h2
      subst hA
      have HI : Hid (intoQ t k n = (((elt t.moms n).kind == 1) && ((elt t.moms n).task == (atP t k).cur))) := Lib.hid (by unfold intoQ; rw [Bool.beq_eq_decide_eq, Bool.beq_eq_decide_eq])
      generalize hk1 : ((elt t.moms n).kind == 1) = q1 at HI
      generalize hk2 : ((elt t.moms n).task == (atP t k).cur) = q2 at HI
      cases q1 <;> cases q2
      all_goals
        go_wp2
      · go_round
        case rel => exact ⟨n + 1, by omega, by go_num, HQ.out.trans (firstB_skip h2 HI.out)⟩
        case measure => simp [intOf]; omega
      · go_round
        case rel => exact ⟨n + 1, by omega, by go_num, HQ.out.trans (firstB_skip h2 HI.out)⟩
        case measure => simp [intOf]; omega
      · go_round
        case rel => exact ⟨n + 1, by omega, by go_num, HQ.out.trans (firstB_skip h2 HI.out)⟩
        case measure => simp [intOf]; omega
      · go_ret
        refine ⟨ret_int ?_, HB.out⟩
        rw [HP.out, HJ.out, Int.toNat_natCast, HQ.out, firstB_hit h2 HI.out]
    · go_wp2
      go_ret
      refine ⟨ret_int ?_, HB.out⟩
      rw [HP.out, HJ.out, Int.toNat_natCast, HQ.out, firstB_end (by omega)]

/-- What the reference's l4leave asks of moment i. -/
def leaveQ (t : PTr) (k kd ls : Int) (i : Nat) : Bool := decide ((elt t.moms i).kind = kd) && decide ((elt t.moms i).task = (atP t k).cur) && decide ((((stN t.moms (i + 1)).stk (atP t k).cur).length : Int) ≤ ((atP t k).stk (atP t k).cur).length - ls)
theorem over_leave (t : PTr) (k : Int) (i : Nat) : overQ t k i = leaveQ t k 1 0 i := by
  unfold overQ leaveQ
  congr 1
  apply decide_eq_decide.2
  omega
theorem out_leave (t : PTr) (k : Int) (i : Nat) : outQ t k i = leaveQ t k 3 1 i := by
  unfold outQ leaveQ
  congr 1
  apply decide_eq_decide.2
  omega
set_option maxRecDepth 100000 in
set_option maxHeartbeats 2000000 in
theorem l4leave_calls (v1 v2 : Value) (t : PTr) (k kd ls : Int) (w : World) (h : RdTr w v1 v2 t) (hsm : smTr t) (hg : goodP t k = true) (hl0 : 0 ≤ ls) (hl1 : ls ≤ 1) :
    Calls Try.prog 117 #[.agg #[v1, v2], .int .i64 k, .int .i64 kd, .int .i64 ls] w fun e w' => e = .returned (.int .i64 (seekP t k (leaveQ t k kd ls))) ∧ Below w.heap.size w w' := by
  have HT := Lib.hid h
  have HS := Lib.hid hsm
  obtain ⟨⟨A1, c1, rfl, hn1, -⟩, ⟨vv, ⟨A2, c2, rfl, hn2, -⟩, -⟩⟩ := h
  obtain ⟨⟨hs1, -⟩, ⟨hs2, -⟩⟩ := hsm
  obtain ⟨k0, k1⟩ := good_bd hg
  have HP : Hid (seekP t k (leaveQ t k kd ls) = (firstB (leaveQ t k kd ls) t.moms.length (t.moms.length - (k + 1).toNat) (k + 1).toNat : Nat)) := Lib.hid (by unfold seekP; rw [if_pos hg])
  have HG := Lib.hid hg
  have hi := good_cur hg
  have i0 := hi.lo
  have i1 := hi.hi
  have i2 := hi.deep (atP t k).cur
  have SO := Lib.hid (sound_iff (good_sound hg))
  clear hg hi
  go_enter Try.func117, Try.ntmps117
  go_wp2_with fail
  generalize hW : World.alloc w _ = W
  have HBW : Hid (Below w.heap.size w W) := by rw [← hW]; exact Lib.hid (by repeat (with_reducible first | exact Below.refl _ _ | exact HL.out | refine bl_drewN ?_ _ | refine bl_drew ?_ | refine bl_alloc ?_ _ | refine bl_set ?_ (by dsimp only; omega) _))
  have HX : Hid (BoxAt W w.heap.size [.slice A1 t.fns.length c1, .slice A2 t.moms.length c2]) := by rw [← hW]; exact Lib.hid (BoxAt.new w _ _)
  clear hW
  refine (l1stand_calls _ _ t _ _ (HT.out.later HBW.out) HS.out HG.out).mono ?_; rintro e w1 ⟨g, T, f, rfl, hS, hb⟩
  have HW := Lib.hid hS
  have HL := Lib.hid hb
  have cc : w1.cell? ⟨g, 1, none⟩ = some (.int .i64 (atP t k).cur) := hS.blk.cell (j := 1) (by omega)
  obtain ⟨Ad, cpd, c0, cr, -, -, -⟩ := hS.at i0 i1
  clear hb hS
  obtain ⟨x0, x1⟩ := (HX.out.later HL.out).open2
  obtain ⟨j, hj⟩ : ∃ j : Nat, k + 1 = (j : Int) := ⟨(k + 1).toNat, by omega⟩
  have HJ := Lib.hid hj
  clear hj
  have hcx : (atP t k).cur < 101 := by omega
  go_wp2_with fail
  clear x0 x1 cc c0 cr
  go_loopw [12] (fun i wr => ∃ (n : Nat) (f : Nat → Value), j ≤ n ∧ i = .int .i64 n ∧ firstB (leaveQ t k kd ls) t.moms.length (t.moms.length - j) j = firstB (leaveQ t k kd ls) t.moms.length (t.moms.length - n) n ∧
    (n ≤ t.moms.length → IsS wr W.heap.size g T (stN t.moms n) f) ∧ Below W.heap.size W wr) (fun i _ => t.moms.length - (intOf i).toNat)
  case atStart =>
    refine ⟨j, f, Nat.le_refl _, by rw [← HJ.out], rfl, fun hj => ?_, HL.out⟩
    have e : atP t k = stN t.moms j := by
      have := HJ.out
      unfold atP atN; congr 1; omega
    rw [← e]; exact HW.out
  case round =>
    obtain ⟨n, f, hn, rfl, hq, hS, hb⟩ := hrel
    clear HW HL
    have HQ := Lib.hid hq
    have HL := Lib.hid hb
    by_cases h2 : n < t.moms.length
    · have HW := Lib.hid (hS (by omega))
      clear hq hS hb
      obtain ⟨b, o, vk, hA, c0, c1', c2', c3, c4, c5, hvk⟩ := rd_moment ((HT.out.2.later HBW.out).later HL.out) h2
      obtain ⟨Av, cv, rfl, -⟩ := hvk
      subst hA
      obtain ⟨x0, x1⟩ := (HX.out.later HL.out).open2
      have hlo := HL.out.size
      go_upto_region 8 with fail
      have HMB : Hid (Blk (wr.alloc _) wr.heap.size 38 6 _) := Lib.hid (Blk.made wr #[.int .i64 (elt t.moms n).kind, .int .i64 (elt t.moms n).task, .int .i64 (elt t.moms n).fn, .int .i64 (elt t.moms n).line, .string (elt t.moms n).text, .slice Av (elt t.moms n).vars.length cv] 38)
      generalize hW2 : World.alloc wr _ = W2 at HMB ⊢
      have hbl : Below wr.heap.size wr W2 := by rw [← hW2]; exact bl_alloc (Below.refl _ _) _
      clear hW2 x0 x1 c0 c1' c2' c3 c4 c5
      have y0 : W2.cell? ⟨wr.heap.size, 0, none⟩ = some (.int .i64 (elt t.moms n).kind) := HMB.out.cell (j := 0) (by omega)
      have y1 : W2.cell? ⟨wr.heap.size, 1, none⟩ = some (.int .i64 (elt t.moms n).task) := HMB.out.cell (j := 1) (by omega)
      have y2 : W2.cell? ⟨wr.heap.size, 2, none⟩ = some (.int .i64 (elt t.moms n).fn) := HMB.out.cell (j := 2) (by omega)
      have y3 : W2.cell? ⟨wr.heap.size, 3, none⟩ = some (.int .i64 (elt t.moms n).line) := HMB.out.cell (j := 3) (by omega)
      have y4 : W2.cell? ⟨wr.heap.size, 4, none⟩ = some (.string (elt t.moms n).text) := HMB.out.cell (j := 4) (by omega)
      have y5 : W2.cell? ⟨wr.heap.size, 5, none⟩ = some (.slice Av (elt t.moms n).vars.length cv) := HMB.out.cell (j := 5) (by omega)
      have HI := Lib.hid (SO.out.inv n (by omega))
      replace HW := Lib.hid (HW.out.later hbl); replace HL := Lib.hid (bl_then HL.out hbl); clear hbl
      go_wp2_with fail
      refine (move_calls _ g T _ _ (elt t.moms n) _ _ _ n n _ HW.out HI.out).mono ?_
      rintro e w2 ⟨rfl, hb, hst⟩
      clear y0 y1 y2 y3 y4 y5
      replace HL := Lib.hid (bl_trans HL.out hb.bl)
      replace HMB := Lib.hid (HMB.out.mv hb (by decide))
      obtain ⟨f', hS'⟩ := hst (SO.out.moves n h2)
      replace hS' : IsS w2 W.heap.size g T (stN t.moms (n + 1)) f' := hS'
      clear HW
      have HW := Lib.hid hS'
      have y0 : w2.cell? ⟨wr.heap.size, 0, none⟩ = some (.int .i64 (elt t.moms n).kind) := HMB.out.cell (j := 0) (by omega)
      have y1 : w2.cell? ⟨wr.heap.size, 1, none⟩ = some (.int .i64 (elt t.moms n).task) := HMB.out.cell (j := 1) (by omega)
      obtain ⟨Ae, cpe, c0, cr, -, -, -⟩ := hS'.at i0 i1
      clear hb hS' hst
      have HI : Hid (leaveQ t k kd ls n = (((elt t.moms n).kind == kd) && ((elt t.moms n).task == (atP t k).cur) && decide ((((stN t.moms (n + 1)).stk (atP t k).cur).length : Int) ≤ ((atP t k).stk (atP t k).cur).length - ls))) := Lib.hid (by unfold leaveQ; rw [Bool.beq_eq_decide_eq, Bool.beq_eq_decide_eq])
      generalize hk1 : ((elt t.moms n).kind == kd) = q1 at HI
      generalize hk2 : ((elt t.moms n).task == (atP t k).cur) = q2 at HI
      generalize hk3 : decide ((((stN t.moms (n + 1)).stk (atP t k).cur).length : Int) ≤ ((atP t k).stk (atP t k).cur).length - ls) = q3 at HI
      cases q1 <;> cases q2 <;> cases q3
      all_goals
        go_wp2
        first
          | (go_roundw
             case rel => exact ⟨n + 1, f', by omega, by go_num, HQ.out.trans (firstB_skip h2 HI.out), fun _ => HW.out, HL.out⟩
             case measure => simp [intOf]; omega)
          | (go_ret
             refine ⟨ret_int ?_, bl_then HBW.out HL.out⟩
             rw [HP.out, HJ.out, Int.toNat_natCast, HQ.out, firstB_hit h2 HI.out])
    · clear hq hS hb
      obtain ⟨x0, x1⟩ := (HX.out.later HL.out).open2
      go_wp2
      go_ret
      refine ⟨ret_int ?_, bl_then HBW.out HL.out⟩
      rw [HP.out, HJ.out, Int.toNat_natCast, HQ.out, firstB_end (by omega)]
end Go.Proofs.Ytcklnjjbhngbcaa

namespace Go.Proofs.Ytcklnjjbhngbcaa
open Go.RowKit Go.Proofs.Lens

/-- The types of the blocks that the specification's FnCounts turns. -/
def fcTys : List TypeId := [130, 56, 59, 50, 4]

set_option maxRecDepth 100000 in
set_option maxHeartbeats 2000000 in
theorem spec_FnCounts_bad (v1 v2 : Value) (t : PTr) (w : World) (h : RdTr w v1 v2 t) (hsm : smTr t) (hs : soundP t = false) :
    Calls Try.prog 63 #[.agg #[v1, v2]] w (OwRet w 50 4 (fcP t).length (fcRow (fcP t))) := by
  have HT := Lib.hid h
  have HS := Lib.hid hsm
  obtain ⟨⟨A1, c1, rfl, hn1, -⟩, ⟨vv, ⟨A2, c2, rfl, hn2, -⟩, -⟩⟩ := h
  have HR : Hid (fcP t = []) := Lib.hid (by unfold fcP; rw [hs]; rfl)
  have HQ := Lib.hid hs
  clear hs hsm
  go_enter Try.func63, Try.ntmps63
  go_wp2_with fail
  refine (l1ok_is _ _ t _ (HT.out.later (by repeat (with_reducible first | exact Below.refl _ _ | exact HL.out | refine bl_drewN ?_ _ | refine bl_drew ?_ | refine bl_alloc ?_ _ | refine bl_set ?_ (by dsimp only; omega) _))) HS.out HQ.out).mono ?_; rintro e w1 ⟨rfl, hb⟩
  have HB := Lib.hid (bl_then (bl_alloc (Below.refl _ w) _) hb)
  clear hb
  go_wp2
  go_ret
  rw [HR.out]
  exact ⟨_, rfl, OwR.nil, HB.out⟩

set_option maxRecDepth 100000 in
set_option maxHeartbeats 8000000 in
theorem spec_FnCounts_good (v1 v2 : Value) (t : PTr) (w : World) (h : RdTr w v1 v2 t) (hsm : smTr t) (hs : soundP t = true) :
    Calls Try.prog 63 #[.agg #[v1, v2]] w (OwRet w 50 4 (fcP t).length (fcRow (fcP t))) := by
  have HT := Lib.hid h
  have HS := Lib.hid hsm
  obtain ⟨⟨A1, c1, rfl, hn1, -⟩, ⟨vv, ⟨A2, c2, rfl, hn2, -⟩, -⟩⟩ := h
  have HR : Hid (fcP t = fcList (fcN t.moms t.moms.length) t.fns.length) := Lib.hid (by unfold fcP; rw [hs]; rfl)
  have HQ := Lib.hid hs
  have hso := sound_iff hs
  obtain ⟨nf0, nf1, nm1⟩ := sound_fns hso
  have SO := Lib.hid hso
  obtain ⟨C, hC, hc, hmk⟩ := make_law (P := Try.prog) 45 50 Try.underlying45 i_fc t.fns.length (by omega) (by omega)
  obtain ⟨D, hD, hd, hmk2⟩ := make_law (P := Try.prog) 101 4 Try.underlying101 i_bool t.fns.length (by omega) (by omega)
  have HC := Lib.hid hC
  have Hc := Lib.hid hc
  have HD := Lib.hid hD
  have Hd := Lib.hid hd
  clear hs hsm hso hC hc hD hd
  go_enter Try.func63, Try.ntmps63
  go_wp2_with fail
  refine (l1ok_is _ _ t _ (HT.out.later (by repeat (with_reducible first | exact Below.refl _ _ | exact HL.out | refine bl_drewN ?_ _ | refine bl_drew ?_ | refine bl_alloc ?_ _ | refine bl_set ?_ (by dsimp only; omega) _))) HS.out HQ.out).mono ?_; rintro e w1 ⟨rfl, hb⟩
  have HX := Lib.hid ((Blk.made w #[.slice A1 t.fns.length c1, .slice A2 t.moms.length c2] 35).later hb)
  have HM := Lib.hid (Mv.then (ts := fcTys) ((Mv.refl _ _ w).alloc (Nat.le_refl _) _) (by simp) hb)
  have hw1 : w.heap.size < w1.heap.size := HX.out.lt
  clear hb
  have x0 : w1.cell? ⟨w.heap.size, 0, none⟩ = some (.slice A1 t.fns.length c1) := HX.out.cell (j := 0) (by simp)
  go_wp2_with fail
  clear x0
  go_loopw [20] (fun i wr => ∃ q : Nat, q ≤ t.fns.length ∧ i = .int .i64 q ∧ OwR wr w1.heap.size 50 4 t.fns.length (fcI q) (.slice (some ⟨w1.heap.size, 0, none⟩) t.fns.length t.fns.length) ∧ Mv fcTys w.heap.size w wr ∧
    Blk wr w.heap.size 35 2 (fun j => #[Value.slice A1 t.fns.length c1, .slice A2 t.moms.length c2].getD j undef)) (fun i _ => t.fns.length - (intOf i).toNat)
  case atStart =>
    exact ⟨0, Nat.zero_le _, rfl, OwR.made HC.out Hc.out (by rfl) (by simp only [maxLen]; omega) _ (fun i hi j hj => by match j, hj with | 0, _ => rfl | 1, _ => rfl | 2, _ => rfl | 3, _ => rfl), HM.out.alloc HM.out.size _, HX.out.alloc _⟩
  case round =>
    obtain ⟨q, hq, rfl, hO, hM, hX⟩ := hrel
    clear HM HX
    have HO := Lib.hid hO
    have HM := Lib.hid hM
    have HX := Lib.hid hX
    clear hO hM hX
    by_cases hlt : q < t.fns.length
    · have x1 := HO.out.cells hlt (j := 0) (by omega)
      have x2 := HO.out.free (q * 4)
      have hlt' : (q : Int) < (t.fns.length : Int) := by omega
      simp only [Nat.add_zero] at x1
      go_wp2
      go_roundw
      case rel => exact ⟨q + 1, by omega, by go_num, fcI_set HO.out hlt, HM.out.setO HO.out (Nat.le_of_lt hw1) (by decide) _ _, HX.out.far (by dsimp only; omega) _⟩
      case measure => simp [intOf]; omega
    · obtain rfl : q = t.fns.length := by omega
      have x1 := HO.out.cells nf0 (j := 1) (by omega)
      have x2 := HO.out.free 1
      simp only [Nat.zero_mul, Nat.zero_add] at x1
      go_wp2_with fail
      refine (l1begin_calls _).mono ?_; rintro e w2 ⟨g, T, f, rfl, hS, hb⟩
      have hM := HM.out.setO HO.out (Nat.le_of_lt hw1) (by decide) 1 (.int .i64 1)
      have HO2 := Lib.hid ((fcI_end HO.out nf0).later hb)
      have HX2 := Lib.hid ((HX.out.far (p := ⟨w1.heap.size, 1, none⟩) (by dsimp only; omega) (.int .i64 1)).later hb)
      have HS2 := Lib.hid (hS.lower (lo' := w.heap.size) hM.size)
      have HM2 := Lib.hid (hM.then hM.size hb)
      clear hM hS hb x1 x2 HO HX HM
      have x1 : w2.cell? ⟨w.heap.size, 1, none⟩ = some (.slice A2 t.moms.length c2) := HX2.out.cell (j := 1) (by simp)
      go_wp2_with fail
      clear x1
      go_loopw [36] (fun i wr => ∃ (n : Nat) (f : Nat → Value), n ≤ t.moms.length ∧ i = .int .i64 n ∧ IsS wr w.heap.size g T (stN t.moms n) f ∧
        OwR wr w1.heap.size 50 4 t.fns.length (fcC (fcN t.moms n)) (.slice (some ⟨w1.heap.size, 0, none⟩) t.fns.length t.fns.length) ∧ Mv fcTys w.heap.size w wr ∧
        Blk wr w.heap.size 35 2 (fun j => #[Value.slice A1 t.fns.length c1, .slice A2 t.moms.length c2].getD j undef)) (fun i _ => t.moms.length - (intOf i).toNat)
      case atStart => exact ⟨0, f, Nat.zero_le _, rfl, HS2.out, HO2.out, HM2.out, HX2.out⟩
      case round =>
        obtain ⟨n, f, hn, rfl, hS, hO, hM, hX⟩ := hrel
        clear HS2 HO2 HM2 HX2
        have HSS := Lib.hid hS
        have HO := Lib.hid hO
        have HM := Lib.hid hM
        have HX := Lib.hid hX
        clear hS hO hM hX
        by_cases h2 : n < t.moms.length
        · obtain ⟨b, o, vk, hA, d0, d1, d2, d3, d4, d5, hvk⟩ := rd_moment (HT.out.2.later HM.out.bl) h2
          obtain ⟨Av, cv, rfl, -⟩ := hvk
          subst hA
          have hlo := HM.out.size
          have hbd := fcN_bd t.moms n (elt t.moms n).fn.toNat
          obtain ⟨b1, b2, b3⟩ := hbd
          have hfn := mom_fn (SO.out.moms n h2)
          go_upto_region 14 with fail
          have HMB : Hid (Blk (wr.alloc _) wr.heap.size 38 6 _) := Lib.hid (Blk.made wr #[.int .i64 (elt t.moms n).kind, .int .i64 (elt t.moms n).task, .int .i64 (elt t.moms n).fn, .int .i64 (elt t.moms n).line, .string (elt t.moms n).text, .slice Av (elt t.moms n).vars.length cv] 38)
          generalize hW2 : World.alloc wr _ = W2 at HMB ⊢
          have hbl : Below wr.heap.size wr W2 := by rw [← hW2]; exact bl_alloc (Below.refl _ _) _
          have hmb : w.heap.size < wr.heap.size := HX.out.lt
          clear hW2 d0 d1 d2 d3 d4 d5
          have y0 : W2.cell? ⟨wr.heap.size, 0, none⟩ = some (.int .i64 (elt t.moms n).kind) := HMB.out.cell (j := 0) (by omega)
          have y1 : W2.cell? ⟨wr.heap.size, 1, none⟩ = some (.int .i64 (elt t.moms n).task) := HMB.out.cell (j := 1) (by omega)
          have y2 : W2.cell? ⟨wr.heap.size, 2, none⟩ = some (.int .i64 (elt t.moms n).fn) := HMB.out.cell (j := 2) (by omega)
          have y3 : W2.cell? ⟨wr.heap.size, 3, none⟩ = some (.int .i64 (elt t.moms n).line) := HMB.out.cell (j := 3) (by omega)
          have y4 : W2.cell? ⟨wr.heap.size, 4, none⟩ = some (.string (elt t.moms n).text) := HMB.out.cell (j := 4) (by omega)
          have y5 : W2.cell? ⟨wr.heap.size, 5, none⟩ = some (.slice Av (elt t.moms n).vars.length cv) := HMB.out.cell (j := 5) (by omega)
          have HI := Lib.hid (SO.out.inv n hn)
          replace HM := Lib.hid (HM.out.then HM.out.size hbl)
          replace HX := Lib.hid (HX.out.later hbl)
          replace HO := Lib.hid (HO.out.later hbl)
          replace HSS := Lib.hid (HSS.out.later hbl)
          clear hbl
          go_wp2_with fail
          refine (move_calls _ g T _ _ (elt t.moms n) _ _ _ n n _ HSS.out HI.out).mono ?_
          rintro e w3 ⟨rfl, hmv, hst⟩
          obtain ⟨f', hS'⟩ := hst (SO.out.moves n h2)
          replace hS' : IsS w3 w.heap.size g T (stN t.moms (n + 1)) f' := hS'
          clear HSS
          have HSS := Lib.hid hS'
          replace HMB := Lib.hid (HMB.out.mv hmv (by decide))
          replace HX := Lib.hid (HX.out.mv hmv (by decide))
          replace HO := Lib.hid (HO.out.mv hmv (by decide))
          replace HM := Lib.hid (HM.out.trans (hmv.mono (by decide)))
          clear hmv hst hS' y0 y1 y2 y3 y4 y5
          have y0 : w3.cell? ⟨wr.heap.size, 0, none⟩ = some (.int .i64 (elt t.moms n).kind) := HMB.out.cell (j := 0) (by omega)
          have y2 : w3.cell? ⟨wr.heap.size, 2, none⟩ = some (.int .i64 (elt t.moms n).fn) := HMB.out.cell (j := 2) (by omega)
          obtain ⟨fq, hfq⟩ : ∃ fq : Nat, (elt t.moms n).fn = (fq : Int) := ⟨(elt t.moms n).fn.toNat, by omega⟩
          have HFQ := Lib.hid hfq
          have hfq1 : (elt t.moms n).fn.toNat < t.fns.length := by omega
          have hfq2 : (elt t.moms n).fn < (t.fns.length : Int) := by omega
          by_cases k2 : (elt t.moms n).kind = 2
          · have hd1 : ((elt t.moms n).kind == 2) = true := by simp [k2]
            have hd2 : ((elt t.moms n).kind != 1) = true := by simp [k2]
            have HK2 := Lib.hid k2
            have z1 := HO.out.cells hfq1 (j := 1) (by omega)
            have z2 := HO.out.free ((elt t.moms n).fn.toNat * 4 + 1)
            have z3 : w3.cell? ⟨w1.heap.size, (elt t.moms n).fn.toNat * 4 + 1, none⟩ = some (.int .i64 ((fcN t.moms n).cal (elt t.moms n).fn.toNat)) := z1
            clear k2 hfq z1
            go_wp2
            go_roundw
            case rel =>
              refine ⟨n + 1, f', by omega, by go_num, ?_, ?_, HM.out.setO HO.out (Nat.le_of_lt hw1) (by decide) _ _, HX.out.far (by dsimp only; omega) _⟩
              · exact HSS.out.mv ((Mv.refl [50] w.heap.size w3).setO HO.out (Nat.le_of_lt hw1) (by decide) _ _) (by decide) (by decide) (by decide)
              · have := fcC_cal HO.out hfq1 (fn := (elt t.moms n).fn) (by omega)
                have e : fcN t.moms (n + 1) = ⟨bump (fcN t.moms n).cal (elt t.moms n).fn, (fcN t.moms n).slf, (fcN t.moms n).tot⟩ := by
                  show fcStep _ _ _ = _
                  unfold fcStep; rw [if_pos HK2.out]
                rw [e]; exact this
            case measure => simp [intOf]; omega
          · by_cases k1 : (elt t.moms n).kind = 1
            · have hd1 : ((elt t.moms n).kind == 2) = false := by simp [k1]
              have hd2 : ((elt t.moms n).kind != 1) = false := by simp [k1]
              have HK1 := Lib.hid k1
              have z3 : w3.cell? ⟨w1.heap.size, (elt t.moms n).fn.toNat * 4 + 2, none⟩ = some (.int .i64 ((fcN t.moms n).slf (elt t.moms n).fn.toNat)) := HO.out.cells hfq1 (j := 2) (by omega)
              have z2 := HO.out.free ((elt t.moms n).fn.toNat * 4 + 2)
              have x0 : w3.cell? ⟨w.heap.size, 0, none⟩ = some (.slice A1 t.fns.length c1) := HX.out.cell (j := 0) (by simp)
              have hne : ¬ w1.heap.size = w.heap.size := by omega
              clear k1 k2 hfq
              have hw3 : w1.heap.size < w3.heap.size := HO.out.blt.2
              go_upto_region 20 with fail
              have hset := (Mv.refl [50] w.heap.size w3).setO HO.out (Nat.le_of_lt hw1) (by decide) ((elt t.moms n).fn.toNat * 4 + 2) (.int .i64 ((fcN t.moms n).slf (elt t.moms n).fn.toNat + 1))
              have hO4 := (fcC_slf HO.out hfq1 (fn := (elt t.moms n).fn) (by omega)).later (bl_alloc (Below.refl _ _) (.cells D 4))
              have hS4 := (HSS.out.mv hset (by decide) (by decide) (by decide)).later (bl_alloc (Below.refl _ _) (.cells D 4))
              have hX4 := (HX.out.far (p := ⟨w1.heap.size, (elt t.moms n).fn.toNat * 4 + 2, none⟩) (by dsimp only; omega) (.int .i64 ((fcN t.moms n).slf (elt t.moms n).fn.toNat + 1))).alloc (.cells D 4)
              have hM4 := (HM.out.setO HO.out (Nat.le_of_lt hw1) (by decide) ((elt t.moms n).fn.toNat * 4 + 2) (.int .i64 ((fcN t.moms n).slf (elt t.moms n).fn.toNat + 1))).alloc (by rw [World.size_setCell]; exact HM.out.size) (.cells D 4)
              have hB4 := OwR.made (e := 4) (w := w3.setCell ⟨w1.heap.size, (elt t.moms n).fn.toNat * 4 + 2, none⟩ (.int .i64 ((fcN t.moms n).slf (elt t.moms n).fn.toNat + 1))) HD.out Hd.out (by rfl) (by simp only [maxLen]; omega) (fun i _ => .bool (openIn [] i)) (fun i hi j hj => by
                obtain rfl : j = 0 := by omega
                rfl)
              rw [World.size_setCell] at hB4
              generalize hW4 : World.alloc _ _ = W4 at hO4 hS4 hX4 hM4 hB4 ⊢
              clear hW4 hset z3 z2 x0 y0 y2 HO HSS HX HM HMB hd1 hd2
              have HI2 := SO.out.inv (n + 1) (by omega)
              have i0 := HI2.lo
              have i1 := HI2.hi
              have i2 := HI2.deep (stN t.moms (n + 1)).cur
              have hcx : (stN t.moms (n + 1)).cur < 101 := by omega
              have HFN := Lib.hid (SO.out.fnsIn (n + 1) (by omega))
              have HTOT := Lib.hid (fun j => (fcN_bd t.moms n j).2.2)
              obtain ⟨Ah, ch, c0', c1', c2', -, -, hv, -⟩ := hS4.heads i0 i1
              have HV := Lib.hid hv
              have HSS := Lib.hid hS4
              have HO := Lib.hid hO4
              have HX := Lib.hid hX4
              have HM := Lib.hid hM4
              have HB := Lib.hid hB4
              clear hS4 hO4 hX4 hM4 hB4 hv HI2
              go_quiet (fail)
              go_wp2_with fail
              clear c0' c1' c2'
              go_loopw [84] (fun i wx => ∃ q : Nat, q ≤ (stN t.moms (n + 1)).top.length ∧ i = .int .i64 q ∧ IsS wx w.heap.size g T (stN t.moms (n + 1)) f' ∧
                OwR wx w1.heap.size 50 4 t.fns.length (fcC ⟨(fcN t.moms n).cal, bump (fcN t.moms n).slf (elt t.moms n).fn, bumpAll (fcN t.moms n).tot ((stN t.moms (n + 1)).top.reverse.take q)⟩) (.slice (some ⟨w1.heap.size, 0, none⟩) t.fns.length t.fns.length) ∧
                OwR wx w3.heap.size 4 1 t.fns.length (fun i _ => .bool (openIn ((stN t.moms (n + 1)).top.reverse.take q) i)) (.slice (some ⟨w3.heap.size, 0, none⟩) t.fns.length t.fns.length) ∧ Mv fcTys w.heap.size w wx ∧
                Blk wx w.heap.size 35 2 (fun j => #[Value.slice A1 t.fns.length c1, .slice (some ⟨b, o, none⟩) t.moms.length c2].getD j undef)) (fun i _ => (stN t.moms (n + 1)).top.length - (intOf i).toNat)
              case atStart =>
                refine ⟨0, Nat.zero_le _, rfl, HSS.out.drewN _, ?_, ?_, HM.out.drewN _, HX.out⟩
                · rw [List.take_zero]
                  exact HO.out.congr fun i hi j hj => by
                    match j, hj with
                    | 0, _ => rfl
                    | 1, _ => rfl
                    | 2, _ => rfl
                    | 3, _ => simp only [fcC, bumpAll_nil]
                · rw [List.take_zero]; exact HB.out
              case round =>
                obtain ⟨q, hq, rfl, hS, hO, hB, hM, hX⟩ := hrel
                clear HSS HO HX HM HB
                have HSS := Lib.hid hS
                have HO := Lib.hid hO
                have HM := Lib.hid hM
                have HX := Lib.hid hX
                have HB := Lib.hid hB
                clear hS hO hM hX hB
                by_cases hql : q < (stN t.moms (n + 1)).top.length
                · obtain ⟨Ah', ch', -, -, -, hcap, hcap2, hv', hrow⟩ := HSS.out.heads i0 i1
                  have hvv : Value.slice Ah (stN t.moms (n + 1)).top.length ch = Value.slice Ah' (stN t.moms (n + 1)).top.length ch' := by rw [← HV.out, hv']
                  obtain ⟨rfl, rfl⟩ : Ah = Ah' ∧ ch = ch' := by simpa using hvv
                  obtain ⟨b5, hb5⟩ : ∃ b5, Ah = some ⟨b5, 0, none⟩ := by
                    obtain ⟨A7, c7, e7, hop⟩ := hrow.open'
                    obtain ⟨b7, e8, -⟩ := hop (by omega)
                    cases e7
                    exact ⟨b7, e8⟩
                  subst hb5
                  have hqt : (q : Int) < ((stN t.moms (n + 1)).top.length : Int) := by omega
                  obtain ⟨fr, hfr⟩ : ∃ fr, elt (stN t.moms (n + 1)).top.reverse q = fr := ⟨_, rfl⟩
                  have u0 : wr.cell? ⟨b5, q * 3, none⟩ = some (.int .i64 fr.fn) := by have := hrow.cells hql (j := 0) (by omega); rw [← hfr]; exact this
                  have u1 : wr.cell? ⟨b5, q * 3 + 1, none⟩ = some (.int .i64 fr.line) := by have := hrow.cells hql (j := 1) (by omega); rw [← hfr]; exact this
                  have u2 : wr.cell? ⟨b5, q * 3 + 2, none⟩ = some (.int .i64 fr.frm) := by have := hrow.cells hql (j := 2) (by omega); rw [← hfr]; exact this
                  have hmem : fr ∈ (stN t.moms (n + 1)).stk (stN t.moms (n + 1)).cur := by
                    have : fr ∈ (stN t.moms (n + 1)).top.reverse := by rw [← hfr, elt_eq (by simpa using hql)]; exact List.getElem_mem _
                    simpa [PS.top] using this
                  obtain ⟨g0, g1⟩ := HFN.out _ fr hmem
                  have HTK := Lib.hid (take_snoc (xs := (stN t.moms (n + 1)).top.reverse) (i := q) (by simpa using hql))
                  have HFR := Lib.hid hfr
                  obtain ⟨fg, hfg⟩ : ∃ fg : Nat, fr.fn = (fg : Int) := ⟨fr.fn.toNat, by omega⟩
                  have e1 : fr.fn.toNat = fg := by omega
                  have hfg1 : fg < t.fns.length := by omega
                  have hfg2 : (fg : Int) < (t.fns.length : Int) := by omega
                  have HFG := Lib.hid hfg
                  rw [hfg] at u0
                  have hxl := HM.out.size
                  have hxl' : w.heap.size ≤ wr.heap.size := hxl
                  have hsx := HB.out.blt.2
                  have hox := HO.out.blt.2
                  have v0 : wr.cell? ⟨w3.heap.size, fg, none⟩ = some (.bool (openIn ((stN t.moms (n + 1)).top.reverse.take q) fg)) := by have := HB.out.cells hfg1 (j := 0) (by omega); simpa only [Nat.mul_one, Nat.add_zero] using this
                  have v1 := HB.out.free fg
                  have v2 : wr.cell? ⟨w1.heap.size, fg * 4 + 3, none⟩ = some (.int .i64 (bumpAll (fcN t.moms n).tot ((stN t.moms (n + 1)).top.reverse.take q) fg)) := HO.out.cells hfg1 (j := 3) (by omega)
                  have v3 := HO.out.free (fg * 4 + 3)
                  obtain ⟨q0, q1⟩ := bumpAll_bd (l := (stN t.moms (n + 1)).top.reverse.take q) (HTOT.out fg)
                  generalize hzz : bumpAll (fcN t.moms n).tot ((stN t.moms (n + 1)).top.reverse.take q) fg = zz at v2 q0 q1
                  generalize hop : openIn ((stN t.moms (n + 1)).top.reverse.take q) fg = ob at v0
                  have HZZ := Lib.hid hzz
                  have HOP := Lib.hid hop
                  clear hzz hop hv' hrow hvv hfr hmem hfg e1 g0 g1
                  cases ob with
                  | true =>
                    go_wp2
                    go_roundw
                    case rel =>
                      refine ⟨q + 1, by omega, by go_num, HSS.out.later (bl_alloc (Below.refl _ _) _), ?_, ?_, HM.out.alloc HM.out.size _, HX.out.alloc _⟩
                      · rw [HTK.out, HFR.out]
                        exact (HO.out.later (bl_alloc (Below.refl _ _) _)).congr fun i hi j hj => by
                          match j, hj with
                          | 0, _ => rfl
                          | 1, _ => rfl
                          | 2, _ => rfl
                          | 3, _ => simp only [fcC]; rw [bumpAll_old HFG.out HOP.out]
                      · rw [HTK.out, HFR.out]
                        exact (HB.out.later (bl_alloc (Below.refl _ _) _)).congr fun i hi j hj => by
                          rw [openIn_snoc]
                          by_cases hig : fr.fn = (i : Int)
                          · obtain rfl : fg = i := by have := HFG.out; omega
                            rw [HOP.out]; simp
                          · simp [hig]
                    case measure => simp [intOf]; omega
                  | false =>
                    have hB1 := HB.out
                    have hO1 := HO.out
                    have hM1 := Mv.refl [4, 50] w.heap.size wr
                    have hB2 : OwR _ _ _ _ _ (fun i _ => .bool (openIn ((stN t.moms (n + 1)).top.reverse.take q ++ [fr]) i)) _ := OwR.set (u := .bool true) (i0 := fg) (j0 := 0) hB1 hfg1 (by omega) (fun i j hi hj hne => by
                      rw [openIn_snoc]
                      have : ¬ fr.fn = (i : Int) := by have := HFG.out; omega
                      simp [this]) (by rw [openIn_snoc]; simp [HFG.out])
                    simp only [Nat.mul_one, Nat.add_zero] at hB2
                    obtain ⟨Nb, Fb, hBk⟩ := hB1.block (b := w3.heap.size) rfl
                    have hO2 := OwR.other hO1 hBk (by decide) fg (.bool true)
                    have hM2 := hM1.setO hB1 (by omega) (by decide) fg (.bool true)
                    obtain ⟨No, Fo, hOk⟩ := hO2.block (b := w1.heap.size) rfl
                    have hO3 := fcC_tot (fn := (fg : Int)) hO2 hfg1 rfl
                    dsimp only at hO3
                    rw [HZZ.out] at hO3
                    have hB3 := OwR.other hB2 hOk (by decide) (fg * 4 + 3) (.int .i64 (zz + 1))
                    have hM3 := hM2.setO hO2 (by omega) (by decide) (fg * 4 + 3) (.int .i64 (zz + 1))
                    have RO := Lib.hid (hO3.later (bl_alloc (Below.refl _ _) (.cells #[.int .i64 (fg : Int), .int .i64 fr.line, .int .i64 fr.frm] 59)))
                    have RB := Lib.hid (hB3.later (bl_alloc (Below.refl _ _) (.cells #[.int .i64 (fg : Int), .int .i64 fr.line, .int .i64 fr.frm] 59)))
                    have RM := Lib.hid (hM3.alloc (by simp; exact hxl') (.cells #[.int .i64 (fg : Int), .int .i64 fr.line, .int .i64 fr.frm] 59))
                    clear hB1 hO1 hM1 hB2 hBk hO2 hM2 hOk hO3 hB3 hM3
                    go_wp2
                    go_roundw
                    case rel =>
                      refine ⟨q + 1, by omega, by go_num, HSS.out.mv RM.out (by decide) (by decide) (by decide), ?_, ?_, HM.out.trans (RM.out.mono (by decide)), HX.out.mv RM.out (by decide)⟩
                      · rw [HTK.out, HFR.out]
                        exact RO.out.congr fun i hi j hj => by
                          match j, hj with
                          | 0, _ => rfl
                          | 1, _ => rfl
                          | 2, _ => rfl
                          | 3, _ => simp only [fcC]; rw [bumpAll_new HFG.out HOP.out]
                      · rw [HTK.out, HFR.out]
                        exact RB.out
                    case measure => simp [intOf]; omega
                · obtain rfl : q = (stN t.moms (n + 1)).top.length := by omega
                  go_wp2
                  go_roundw
                  case rel =>
                    refine ⟨n + 1, f', by omega, by go_num, HSS.out, ?_, HM.out, HX.out⟩
                    have e : fcN t.moms (n + 1) = ⟨(fcN t.moms n).cal, bump (fcN t.moms n).slf (elt t.moms n).fn, bumpAll (fcN t.moms n).tot (stN t.moms (n + 1)).top⟩ := by
                      show fcStep _ _ _ = _
                      unfold fcStep; rw [if_neg (by rw [HK1.out]; decide), if_pos HK1.out]
                    rw [e]
                    exact HO.out.congr fun i hi j hj => by
                      match j, hj with
                      | 0, _ => rfl
                      | 1, _ => rfl
                      | 2, _ => rfl
                      | 3, _ =>
                        simp only [fcC]
                        rw [List.take_of_length_le (by simp), bumpAll_rev]
                  case measure => simp [intOf]; omega
            · have hd1 : ((elt t.moms n).kind == 2) = false := by simp [k2]
              have hd2 : ((elt t.moms n).kind != 1) = true := by simp [k1]
              have HK1 := Lib.hid k1
              have HK2 := Lib.hid k2
              clear k1 k2 hfq
              go_wp2
              go_roundw
              case rel =>
                refine ⟨n + 1, f', by omega, by go_num, HSS.out, ?_, HM.out, HX.out⟩
                have e : fcN t.moms (n + 1) = fcN t.moms n := by
                  show fcStep _ _ _ = _
                  unfold fcStep; rw [if_neg HK2.out, if_neg HK1.out]
                rw [e]; exact HO.out
              case measure => simp [intOf]; omega
        · obtain rfl : n = t.moms.length := by omega
          go_wp2
          go_ret
          refine ⟨_, rfl, ?_, HM.out.bl⟩
          rw [HR.out, fcList_len]
          exact (HO.out.lower (Nat.le_of_lt hw1)).congr fun i hi j hj => (fcList_row _ hi).symm
theorem spec_FnCounts_calls (v1 v2 : Value) (t : PTr) (w : World) (h : RdTr w v1 v2 t) (hsm : smTr t) :
    Calls Try.prog 63 #[.agg #[v1, v2]] w (OwRet w 50 4 (fcP t).length (fcRow (fcP t))) := by
  cases hs : soundP t with
  | false => exact spec_FnCounts_bad v1 v2 t w h hsm hs
  | true => exact spec_FnCounts_good v1 v2 t w h hsm hs
end Go.Proofs.Ytcklnjjbhngbcaa
