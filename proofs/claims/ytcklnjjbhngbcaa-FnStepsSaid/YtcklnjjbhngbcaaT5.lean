/- The specification's l1sizes, l1moment. -/
import Derived.Test.YtcklnjjbhngbcaaT4
import Derived.Test.YtcklnjjbhngbcaaI0
import Derived.Test.YtcklnjjbhngbcaaI3m
namespace Go.Proofs.Ytcklnjjbhngbcaa
open Go.RowKit Go.Proofs.Lens

set_option maxRecDepth 100000 in
set_option maxHeartbeats 2000000 in
theorem l1sizes_calls (v1 v2 : Value) (t : PTr) (w : World) (h : RdTr w v1 v2 t) :
    Calls Try.prog 104 #[.agg #[v1, v2]] w fun e w' => e = .returned (.bool (sizesOk t)) ∧ Below w.heap.size w w' := by
  have HT := Lib.hid h
  obtain ⟨⟨A1, c1, rfl, hn1, -⟩, ⟨vv, ⟨A2, c2, rfl, hn2, -⟩, -⟩⟩ := h
  have HSZ := Lib.hid (sizesOk_eq t)
  go_enter Try.func104, Try.ntmps104
  go_upto_region 1 with fail
  generalize hW : World.alloc w _ = W
  have HB : Hid (Below w.heap.size w W) := by rw [← hW]; exact Lib.hid (by repeat (with_reducible first | exact Below.refl _ _ | exact HL.out | refine bl_drewN ?_ _ | refine bl_drew ?_ | refine bl_alloc ?_ _ | refine bl_set ?_ (by dsimp only; omega) _))
  have HX : Hid (BoxAt W w.heap.size [.slice A1 t.fns.length c1, .slice A2 t.moms.length c2]) := by rw [← hW]; exact Lib.hid (BoxAt.new w _ _)
  clear hW
  obtain ⟨x0, x1⟩ := HX.out.open2
  go_cut [20] (fun s wx => s = .bool (szHd t) ∧ W = wx)
  case first =>
    by_cases h0 : t.fns.length = 0
    · have hd : ((t.fns.length : Int) == 0) = true := by simp [h0]
      have H0 := Lib.hid h0
      clear h0
      go_wp2
      go_meet
      exact ⟨by unfold szHd; simp [H0.out], rfl⟩
    · have hd : ((t.fns.length : Int) == 0) = false := by rw [beq_eq_false_iff_ne]; omega
      have H0 := Lib.hid h0
      clear h0
      go_wp2
      all_goals
        go_meet
        refine ⟨congrArg Value.bool ?_, rfl⟩
        have h0 := H0.out
        go_tidy
        unfold szHd
        grind
  case rest =>
    obtain ⟨rfl, rfl⟩ := hcut
    generalize hq : szHd t = q
    have HQ := Lib.hid hq
    clear hq
    cases q with
    | true =>
      go_wp2
      go_ret
      have HL := HB
      exact ⟨ret_bool (by rw [HSZ.out, HQ.out]; rfl), (by repeat (with_reducible first | exact Below.refl _ _ | exact HL.out | refine bl_drewN ?_ _ | refine bl_drew ?_ | refine bl_alloc ?_ _ | refine bl_set ?_ (by dsimp only; omega) _))⟩
    | false =>
      go_wp2_with fail
      go_loopw [24] (fun i wr => ∃ k : Nat, k ≤ t.fns.length ∧ i = .int .i64 k ∧ fnsOk (t.fns.take k) = true ∧ Below w.heap.size w wr) (fun i _ => t.fns.length - (intOf i).toNat)
      case atStart => exact ⟨0, Nat.zero_le _, rfl, by simp [fnsOk], HB.out⟩
      case round =>
        obtain ⟨k, hk, rfl, hq, hb⟩ := hrel
        have HL := Lib.hid hb
        have HF := Lib.hid hq
        clear hq
        by_cases hlt : k < t.fns.length
        · obtain ⟨A', c', he, _, hrow⟩ := HT.out.1.later hb
          obtain ⟨rfl, rfl⟩ : A1 = A' ∧ c1 = c' := by simpa using he
          obtain ⟨b, o, rfl, hc⟩ := hrow (by omega)
          have hc0 : wr.cell? ⟨b, o + k, none⟩ = some (.string (elt t.fns k)) := by have := hc k hlt 0 (by omega); simp only [Nat.mul_one, Nat.add_zero] at this; exact this
          have HSn := Lib.hid (fnsOk_snoc t.fns k hlt)
          clear hc he hrow hb x0 x1
          by_cases hs : (elt t.fns k).size ≤ 40
          · have HS := Lib.hid hs
            go_wp2
            go_roundw
            case rel => exact ⟨k + 1, by omega, by go_num, by rw [HSn.out, HF.out]; simpa using HS.out, (by repeat (with_reducible first | exact Below.refl _ _ | exact HL.out | refine bl_drewN ?_ _ | refine bl_drew ?_ | refine bl_alloc ?_ _ | refine bl_set ?_ (by dsimp only; omega) _))⟩
            case measure => simp [intOf]; omega
          · have HS := Lib.hid hs
            go_wp2
            go_ret
            refine ⟨ret_bool ?_, (by repeat (with_reducible first | exact Below.refl _ _ | exact HL.out | refine bl_drewN ?_ _ | refine bl_drew ?_ | refine bl_alloc ?_ _ | refine bl_set ?_ (by dsimp only; omega) _))⟩
            rw [HSZ.out, HQ.out]
            have : fnsOk t.fns = false := by
              cases hh : fnsOk t.fns with
              | false => rfl
              | true =>
                unfold fnsOk at hh
                rw [List.all_eq_true] at hh
                have h3 := hh (elt t.fns k) (by rw [elt_eq hlt]; exact List.getElem_mem hlt)
                exact absurd (by simpa using h3) HS.out
            rw [this]; rfl
        · obtain rfl : k = t.fns.length := by omega
          clear hb x0 x1
          go_wp2
          go_ret
          refine ⟨ret_bool ?_, (by repeat (with_reducible first | exact Below.refl _ _ | exact HL.out | refine bl_drewN ?_ _ | refine bl_drew ?_ | refine bl_alloc ?_ _ | refine bl_set ?_ (by dsimp only; omega) _))⟩
          have := HF.out
          rw [List.take_length] at this
          rw [HSZ.out, HQ.out, this]; rfl

/-- What is wrong with a moment's head, as the specification asks it: a first and a second question. -/
def momA (nf : Nat) (m : PMom) : Bool :=
  !inB m.kind 1 7 || !inB m.task 0 100 || !inB m.fn 0 (nf - 1) || !inB m.line 0 100000 || decide (4000 < m.text.size) || decide (200 < m.vars.length)
def momB (m : PMom) : Bool := decide (m.kind = 1) && decide (m.line = 0)
theorem momHd_eq (nf : Nat) (m : PMom) : momHd nf m = !(momA nf m || momB m) := by
  unfold momHd momA momB
  cases h1 : inB m.kind 1 7 <;> cases h2 : inB m.task 0 100 <;> cases h3 : inB m.fn 0 (nf - 1) <;> cases h4 : inB m.line 0 100000 <;> simp
  have := inB_true.1 h4
  grind
end Go.Proofs.Ytcklnjjbhngbcaa
