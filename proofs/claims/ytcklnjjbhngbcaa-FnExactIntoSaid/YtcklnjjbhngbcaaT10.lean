/- The specification's l4before; Into, Over, Out, Before. (Written by T10.py.) -/
import Derived.Test.YtcklnjjbhngbcaaT9
namespace Go.Proofs.Ytcklnjjbhngbcaa
open Go.RowKit Go.Proofs.Lens

set_option maxRecDepth 100000 in
set_option maxHeartbeats 2000000 in
theorem l4before_calls (v1 v2 : Value) (t : PTr) (k : Int) (w : World) (h : RdTr w v1 v2 t) (hsm : smTr t) (hg : goodP t k = true) :
    Calls Try.prog 115 #[.agg #[v1, v2], .int .i64 k] w fun e w' => e = .returned (.int .i64 (beforeP t k)) ∧ Below w.heap.size w w' := by
  have HT := Lib.hid h
  have HS := Lib.hid hsm
  obtain ⟨⟨A1, c1, rfl, hn1, -⟩, ⟨vv, ⟨A2, c2, rfl, hn2, -⟩, -⟩⟩ := h
  obtain ⟨⟨hs1, -⟩, ⟨hs2, -⟩⟩ := hsm
  obtain ⟨k0, k1⟩ := good_bd hg
  have HP : Hid (beforeP t k = lastB (intoQ t k) k.toNat) := Lib.hid (by unfold beforeP; rw [if_pos hg])
  have HG := Lib.hid hg
  clear hg
  go_enter Try.func115, Try.ntmps115
  go_wp2_with fail
  refine (l1stand_calls _ _ t _ _ (HT.out.later (by repeat (with_reducible first | exact Below.refl _ _ | exact HL.out | refine bl_drewN ?_ _ | refine bl_drew ?_ | refine bl_alloc ?_ _ | refine bl_set ?_ (by dsimp only; omega) _))) HS.out HG.out).mono ?_; rintro e w1 ⟨g, T, f, rfl, hS, hb⟩
  have HX := Lib.hid ((BoxAt.new w [.slice A1 t.fns.length c1, .slice A2 t.moms.length c2] 35).later hb)
  have HB := Lib.hid (bl_then (bl_alloc (Below.refl _ w) _) hb)
  have cc : w1.cell? ⟨g, 1, none⟩ = some (.int .i64 (atP t k).cur) := hS.blk.cell (j := 1) (by omega)
  clear hb hS
  obtain ⟨x0, x1⟩ := HX.out.open2
  go_wp2_with fail
  go_loop [7] (fun i => ∃ x : Int, i = .int .i64 x ∧ -2 ≤ x ∧ x < t.moms.length ∧ lastB (intoQ t k) k.toNat = lastB (intoQ t k) (x + 1).toNat) (fun i => (intOf i + 2).toNat)
  case atStart => exact ⟨k - 1, rfl, by omega, by omega, by rw [show k - 1 + 1 = k by omega]⟩
  case round =>
    obtain ⟨x, rfl, hx0, hx1, hq⟩ := hrel
    have HQ := Lib.hid hq
    clear hq
    by_cases h2 : 0 ≤ x
    · obtain ⟨n, rfl⟩ : ∃ n : Nat, x = (n : Int) := ⟨x.toNat, by omega⟩
      obtain ⟨b, o, vk, hA, c0, c1', -, -, -, -, -⟩ := rd_moment (HT.out.2.later HB.out) (k := n) (by omega)
      subst hA
      have HI : Hid (intoQ t k n = (((elt t.moms n).kind == 1) && ((elt t.moms n).task == (atP t k).cur))) := Lib.hid (by unfold intoQ; rw [Bool.beq_eq_decide_eq, Bool.beq_eq_decide_eq])
      generalize hk1 : ((elt t.moms n).kind == 1) = q1 at HI
      generalize hk2 : ((elt t.moms n).task == (atP t k).cur) = q2 at HI
      cases q1 <;> cases q2
      all_goals
        go_wp2
        first
          | (go_round
             case rel =>
               refine ⟨(n : Int) - 1, rfl, by omega, by omega, ?_⟩
               rw [HQ.out, show (n : Int) - 1 + 1 = n by omega, show ((n : Int) + 1).toNat = n + 1 by omega, Int.toNat_natCast, lastB, if_neg (by rw [HI.out]; simp)]
             case measure => simp [intOf]; omega)
          | (go_ret
             refine ⟨ret_int ?_, HB.out⟩
             rw [HP.out, HQ.out, show ((n : Int) + 1).toNat = n + 1 by omega, lastB, if_pos (by rw [HI.out]; rfl)])
    · go_wp2
      go_ret
      refine ⟨ret_int ?_, HB.out⟩
      rw [HP.out, HQ.out, show (x + 1).toNat = 0 by omega]; rfl


set_option maxRecDepth 100000 in
set_option maxHeartbeats 400000 in
theorem spec_Into_calls (v1 v2 : Value) (t : PTr) (k : Int) (w : World) (h : RdTr w v1 v2 t) (hsm : smTr t) :
    Calls Try.prog 51 #[.agg #[v1, v2], .int .i64 k] w fun e w' => e = .returned (.int .i64 (intoP t k)) ∧ Below w.heap.size w w' := by
  have HT := Lib.hid h
  have HS := Lib.hid hsm
  obtain ⟨⟨A1, c1, rfl, hn1, -⟩, ⟨vv, ⟨A2, c2, rfl, hn2, -⟩, -⟩⟩ := h
  clear hsm
  cases hg : goodP t k with
  | false =>
    have HR : Hid (intoP t k = -2) := Lib.hid (by unfold intoP seekP; rw [if_neg (by rw [hg]; simp)])
    have HG := Lib.hid hg
    clear hg
    go_enter Try.func51, Try.ntmps51
    go_wp2_with fail
    refine (l4good_is _ _ t k _ (HT.out.later (by repeat (with_reducible first | exact Below.refl _ _ | exact HL.out | refine bl_drewN ?_ _ | refine bl_drew ?_ | refine bl_alloc ?_ _ | refine bl_set ?_ (by dsimp only; omega) _))) HS.out HG.out).mono ?_; rintro e w1 ⟨rfl, hb⟩
    have HB := Lib.hid (bl_then (bl_alloc (Below.refl _ w) _) hb)
    clear hb
    go_wp2
    go_ret
    exact ⟨ret_int HR.out.symm, HB.out⟩
  | true =>
    have HG := Lib.hid hg
    clear hg
    go_enter Try.func51, Try.ntmps51
    go_wp2_with fail
    refine (l4good_is _ _ t k _ (HT.out.later (by repeat (with_reducible first | exact Below.refl _ _ | exact HL.out | refine bl_drewN ?_ _ | refine bl_drew ?_ | refine bl_alloc ?_ _ | refine bl_set ?_ (by dsimp only; omega) _))) HS.out HG.out).mono ?_; rintro e w1 ⟨rfl, hb⟩
    have HX := Lib.hid ((BoxAt.new w [.slice A1 t.fns.length c1, .slice A2 t.moms.length c2] 35).later hb)
    have HB := Lib.hid (bl_then (bl_alloc (Below.refl _ w) _) hb)
    clear hb
    obtain ⟨x0, x1⟩ := HX.out.open2
    go_wp2_with fail
    refine (l4into_calls _ _ t k _ (HT.out.later HB.out) HS.out HG.out).mono ?_; rintro e w2 ⟨rfl, hb⟩
    clear x0 x1
    replace HB := Lib.hid (bl_then HB.out hb); clear hb
    go_wp2
    go_ret
    exact ⟨rfl, HB.out⟩

set_option maxRecDepth 100000 in
set_option maxHeartbeats 400000 in
theorem spec_Before_calls (v1 v2 : Value) (t : PTr) (k : Int) (w : World) (h : RdTr w v1 v2 t) (hsm : smTr t) :
    Calls Try.prog 50 #[.agg #[v1, v2], .int .i64 k] w fun e w' => e = .returned (.int .i64 (beforeP t k)) ∧ Below w.heap.size w w' := by
  have HT := Lib.hid h
  have HS := Lib.hid hsm
  obtain ⟨⟨A1, c1, rfl, hn1, -⟩, ⟨vv, ⟨A2, c2, rfl, hn2, -⟩, -⟩⟩ := h
  clear hsm
  cases hg : goodP t k with
  | false =>
    have HR : Hid (beforeP t k = -2) := Lib.hid (by unfold beforeP; rw [if_neg (by rw [hg]; simp)])
    have HG := Lib.hid hg
    clear hg
    go_enter Try.func50, Try.ntmps50
    go_wp2_with fail
    refine (l4good_is _ _ t k _ (HT.out.later (by repeat (with_reducible first | exact Below.refl _ _ | exact HL.out | refine bl_drewN ?_ _ | refine bl_drew ?_ | refine bl_alloc ?_ _ | refine bl_set ?_ (by dsimp only; omega) _))) HS.out HG.out).mono ?_; rintro e w1 ⟨rfl, hb⟩
    have HB := Lib.hid (bl_then (bl_alloc (Below.refl _ w) _) hb)
    clear hb
    go_wp2
    go_ret
    exact ⟨ret_int HR.out.symm, HB.out⟩
  | true =>
    have HG := Lib.hid hg
    clear hg
    go_enter Try.func50, Try.ntmps50
    go_wp2_with fail
    refine (l4good_is _ _ t k _ (HT.out.later (by repeat (with_reducible first | exact Below.refl _ _ | exact HL.out | refine bl_drewN ?_ _ | refine bl_drew ?_ | refine bl_alloc ?_ _ | refine bl_set ?_ (by dsimp only; omega) _))) HS.out HG.out).mono ?_; rintro e w1 ⟨rfl, hb⟩
    have HX := Lib.hid ((BoxAt.new w [.slice A1 t.fns.length c1, .slice A2 t.moms.length c2] 35).later hb)
    have HB := Lib.hid (bl_then (bl_alloc (Below.refl _ w) _) hb)
    clear hb
    obtain ⟨x0, x1⟩ := HX.out.open2
    go_wp2_with fail
    refine (l4before_calls _ _ t k _ (HT.out.later HB.out) HS.out HG.out).mono ?_; rintro e w2 ⟨rfl, hb⟩
    clear x0 x1
    replace HB := Lib.hid (bl_then HB.out hb); clear hb
    go_wp2
    go_ret
    exact ⟨rfl, HB.out⟩

set_option maxRecDepth 100000 in
set_option maxHeartbeats 400000 in
theorem spec_Over_calls (v1 v2 : Value) (t : PTr) (k : Int) (w : World) (h : RdTr w v1 v2 t) (hsm : smTr t) :
    Calls Try.prog 53 #[.agg #[v1, v2], .int .i64 k] w fun e w' => e = .returned (.int .i64 (overP t k)) ∧ Below w.heap.size w w' := by
  have HT := Lib.hid h
  have HS := Lib.hid hsm
  obtain ⟨⟨A1, c1, rfl, hn1, -⟩, ⟨vv, ⟨A2, c2, rfl, hn2, -⟩, -⟩⟩ := h
  clear hsm
  cases hg : goodP t k with
  | false =>
    have HR : Hid (overP t k = -2) := Lib.hid (by unfold overP seekP; rw [if_neg (by rw [hg]; simp)])
    have HG := Lib.hid hg
    clear hg
    go_enter Try.func53, Try.ntmps53
    go_wp2_with fail
    refine (l4good_is _ _ t k _ (HT.out.later (by repeat (with_reducible first | exact Below.refl _ _ | exact HL.out | refine bl_drewN ?_ _ | refine bl_drew ?_ | refine bl_alloc ?_ _ | refine bl_set ?_ (by dsimp only; omega) _))) HS.out HG.out).mono ?_; rintro e w1 ⟨rfl, hb⟩
    have HB := Lib.hid (bl_then (bl_alloc (Below.refl _ w) _) hb)
    clear hb
    go_wp2
    go_ret
    exact ⟨ret_int HR.out.symm, HB.out⟩
  | true =>
    have HG := Lib.hid hg
    clear hg
    go_enter Try.func53, Try.ntmps53
    go_wp2_with fail
    refine (l4good_is _ _ t k _ (HT.out.later (by repeat (with_reducible first | exact Below.refl _ _ | exact HL.out | refine bl_drewN ?_ _ | refine bl_drew ?_ | refine bl_alloc ?_ _ | refine bl_set ?_ (by dsimp only; omega) _))) HS.out HG.out).mono ?_; rintro e w1 ⟨rfl, hb⟩
    have HX := Lib.hid ((BoxAt.new w [.slice A1 t.fns.length c1, .slice A2 t.moms.length c2] 35).later hb)
    have HB := Lib.hid (bl_then (bl_alloc (Below.refl _ w) _) hb)
    clear hb
    obtain ⟨x0, x1⟩ := HX.out.open2
    go_wp2_with fail
    refine (l4leave_calls _ _ t k 1 0 _ (HT.out.later HB.out) HS.out HG.out (by omega) (by omega)).mono ?_; rintro e w2 ⟨rfl, hb⟩
    clear x0 x1
    replace HB := Lib.hid (bl_then HB.out hb); clear hb
    go_wp2
    go_ret
    exact ⟨ret_int (by unfold overP seekP; rw [firstB_congr (over_leave t k)]), HB.out⟩

set_option maxRecDepth 100000 in
set_option maxHeartbeats 400000 in
theorem spec_Out_calls (v1 v2 : Value) (t : PTr) (k : Int) (w : World) (h : RdTr w v1 v2 t) (hsm : smTr t) :
    Calls Try.prog 52 #[.agg #[v1, v2], .int .i64 k] w fun e w' => e = .returned (.int .i64 (outP t k)) ∧ Below w.heap.size w w' := by
  have HT := Lib.hid h
  have HS := Lib.hid hsm
  obtain ⟨⟨A1, c1, rfl, hn1, -⟩, ⟨vv, ⟨A2, c2, rfl, hn2, -⟩, -⟩⟩ := h
  clear hsm
  cases hg : goodP t k with
  | false =>
    have HR : Hid (outP t k = -2) := Lib.hid (by unfold outP seekP; rw [if_neg (by rw [hg]; simp)])
    have HG := Lib.hid hg
    clear hg
    go_enter Try.func52, Try.ntmps52
    go_wp2_with fail
    refine (l4good_is _ _ t k _ (HT.out.later (by repeat (with_reducible first | exact Below.refl _ _ | exact HL.out | refine bl_drewN ?_ _ | refine bl_drew ?_ | refine bl_alloc ?_ _ | refine bl_set ?_ (by dsimp only; omega) _))) HS.out HG.out).mono ?_; rintro e w1 ⟨rfl, hb⟩
    have HB := Lib.hid (bl_then (bl_alloc (Below.refl _ w) _) hb)
    clear hb
    go_wp2
    go_ret
    exact ⟨ret_int HR.out.symm, HB.out⟩
  | true =>
    have HG := Lib.hid hg
    clear hg
    go_enter Try.func52, Try.ntmps52
    go_wp2_with fail
    refine (l4good_is _ _ t k _ (HT.out.later (by repeat (with_reducible first | exact Below.refl _ _ | exact HL.out | refine bl_drewN ?_ _ | refine bl_drew ?_ | refine bl_alloc ?_ _ | refine bl_set ?_ (by dsimp only; omega) _))) HS.out HG.out).mono ?_; rintro e w1 ⟨rfl, hb⟩
    have HX := Lib.hid ((BoxAt.new w [.slice A1 t.fns.length c1, .slice A2 t.moms.length c2] 35).later hb)
    have HB := Lib.hid (bl_then (bl_alloc (Below.refl _ w) _) hb)
    clear hb
    obtain ⟨x0, x1⟩ := HX.out.open2
    go_wp2_with fail
    refine (l4leave_calls _ _ t k 3 1 _ (HT.out.later HB.out) HS.out HG.out (by omega) (by omega)).mono ?_; rintro e w2 ⟨rfl, hb⟩
    clear x0 x1
    replace HB := Lib.hid (bl_then HB.out hb); clear hb
    go_wp2
    go_ret
    exact ⟨ret_int (by unfold outP seekP; rw [firstB_congr (out_leave t k)]), HB.out⟩
end Go.Proofs.Ytcklnjjbhngbcaa
