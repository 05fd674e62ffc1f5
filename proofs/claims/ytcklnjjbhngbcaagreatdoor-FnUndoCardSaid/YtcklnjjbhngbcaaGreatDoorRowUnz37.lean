/- Lemmas and contracts of functions that the theorem of this claim leans on (texts T9, T11). -/
import Derived.Test.YtcklnjjbhngbcaaGreatDoorRowUnz36
import Derived.Test.YtcklnjjbhngbcaaGreatDoorRowUnz05
namespace Go.Proofs.YtcklnjjbhngbcaaGreatDoor
open Go.RowKit Go.Proofs.Lens

theorem IsS.at {w : World} {lo g T : Nat} {s : PS} {f : Nat → Value} (h : IsS w lo g T s f) {i : Int} (h0 : 0 ≤ i) (h1 : i ≤ 100) :
    ∃ A cap, w.cell? ⟨g, 0, none⟩ = some (.slice (some ⟨T, 0, none⟩) 101 101) ∧ w.cell? ⟨T, i.toNat, none⟩ = some (.slice A (s.stk i).length cap) ∧ (s.stk i).length ≤ cap ∧ cap ≤ 9223372036854775807 ∧
      OwR w lo 42 3 (s.stk i).length (frC (s.stk i).reverse) (.slice A (s.stk i).length cap) := by
  have hr := h.row i.toNat (by omega)
  rw [Int.toNat_of_nonneg h0] at hr
  obtain ⟨A, cap, hv, hc1, hc2⟩ := hr.cap
  rw [hv] at hr
  exact ⟨A, cap, h.blk.cell (j := 0) (by omega), (h.tb.cell (by omega)).trans (by rw [hv]), hc1, hc2, hr⟩

theorem good_cur {t : PTr} {k : Int} (h : goodP t k = true) : Inv (atP t k) (atN t k) := by
  unfold goodP at h
  rw [Bool.and_eq_true] at h
  exact (sound_iff h.1).inv _ (atN_le t k)
theorem good_bd {t : PTr} {k : Int} (h : goodP t k = true) : -1 ≤ k ∧ k ≤ t.moms.length := by
  unfold goodP at h
  rw [Bool.and_eq_true] at h
  exact inB_true.1 h.2
theorem good_sound {t : PTr} {k : Int} (h : goodP t k = true) : soundP t = true := by
  unfold goodP at h
  rw [Bool.and_eq_true] at h
  exact h.1

set_option maxRecDepth 100000 in
set_option maxHeartbeats 2000000 in
theorem l4into_calls (v1 v2 : Value) (t : PTr) (k : Int) (w : World) (h : RdTr w v1 v2 t) (hsm : smTr t) (hg : goodP t k = true) :
    Calls Tryz.prog 93 #[.agg #[v1, v2], .int .i64 k] w fun e w' => e = .returned (.int .i64 (intoP t k)) ∧ Below w.heap.size w w' := by
  have HT := Lib.hid h
  have HS := Lib.hid hsm
  obtain ⟨⟨A1, c1, rfl, hn1, -⟩, ⟨vv, ⟨A2, c2, rfl, hn2, -⟩, -⟩⟩ := h
  obtain ⟨⟨hs1, -⟩, ⟨hs2, -⟩⟩ := hsm
  obtain ⟨k0, k1⟩ := good_bd hg
  have HP : Hid (intoP t k = (firstB (intoQ t k) t.moms.length (t.moms.length - (k + 1).toNat) (k + 1).toNat : Nat)) := Lib.hid (by unfold intoP seekP; rw [if_pos hg])
  have HG := Lib.hid hg
  clear hg
  go_enter Tryz.func93, Tryz.ntmps93
  go_wp2_with fail
  refine (l1stand_calls _ _ t _ _ (HT.out.later (by repeat (with_reducible first | exact Below.refl _ _ | exact HL.out | refine bl_drewN ?_ _ | refine bl_drew ?_ | refine bl_alloc ?_ _ | refine bl_set ?_ (by dsimp only; omega) _))) HS.out HG.out).mono ?_; rintro e w1 ⟨g, T, f, rfl, hS, hb⟩
  have HX := Lib.hid ((BoxAt.new w [.slice A1 t.fns.length c1, .slice A2 t.moms.length c2] 26).later hb)
  have HB := Lib.hid (bl_then (bl_alloc (Below.refl _ w) _) hb)
  have cc : w1.cell? ⟨g, 1, none⟩ = some (.int .i64 (atP t k).cur) := hS.blk.cell (j := 1) (by omega)
  clear hb hS
  obtain ⟨x0, x1⟩ := HX.out.open2
  obtain ⟨j, hj⟩ : ∃ j : Nat, k + 1 = (j : Int) := ⟨(k + 1).toNat, by omega⟩
  have HJ := Lib.hid hj
  clear hj
  go_wp2_with fail
  go_loop [7] (fun i => ∃ n : Nat, j ≤ n ∧ i = .int .i64 n ∧ firstB (intoQ t k) t.moms.length (t.moms.length - j) j = firstB (intoQ t k) t.moms.length (t.moms.length - n) n) (fun i => t.moms.length - (intOf i).toNat)
  case atStart => exact ⟨j, Nat.le_refl _, by rw [← HJ.out], rfl⟩
  case round =>
    obtain ⟨n, hn, rfl, hq⟩ := hrel
    have HQ := Lib.hid hq
    clear hq
    by_cases h2 : n < t.moms.length
    · obtain ⟨b, o, vk, hA, c0, c1', -, -, -, -, -⟩ := rd_moment (HT.out.2.later HB.out) h2
      subst hA
      have HI : Hid (intoQ t k n = (((elt t.moms n).kind == 1) && ((elt t.moms n).task == (atP t k).cur))) := Lib.hid (by unfold intoQ; rw [Bool.beq_eq_decide_eq, Bool.beq_eq_decide_eq])
      generalize hk1 : ((elt t.moms n).kind == 1) = q1 at HI
      generalize hk2 : ((elt t.moms n).task == (atP t k).cur) = q2 at HI
      cases q1 <;> cases q2
      all_goals
        go_wp2
      · go_round
        case rel => exact ⟨n + 1, by omega, by go_num, HQ.out.trans (firstB_skip h2 HI.out)⟩
        case measure => simp [intOf]; omega
      · go_round
        case rel => exact ⟨n + 1, by omega, by go_num, HQ.out.trans (firstB_skip h2 HI.out)⟩
        case measure => simp [intOf]; omega
      · go_round
        case rel => exact ⟨n + 1, by omega, by go_num, HQ.out.trans (firstB_skip h2 HI.out)⟩
        case measure => simp [intOf]; omega
      · go_ret
        refine ⟨ret_int ?_, HB.out⟩
        rw [HP.out, HJ.out, Int.toNat_natCast, HQ.out, firstB_hit h2 HI.out]
    · go_wp2
      go_ret
      refine ⟨ret_int ?_, HB.out⟩
      rw [HP.out, HJ.out, Int.toNat_natCast, HQ.out, firstB_end (by omega)]

/-- What the reference's l4leave asks of moment i. -/
def leaveQ (t : PTr) (k kd ls : Int) (i : Nat) : Bool := decide ((elt t.moms i).kind = kd) && decide ((elt t.moms i).task = (atP t k).cur) && decide ((((stN t.moms (i + 1)).stk (atP t k).cur).length : Int) ≤ ((atP t k).stk (atP t k).cur).length - ls)
theorem over_leave (t : PTr) (k : Int) (i : Nat) : overQ t k i = leaveQ t k 1 0 i := by
  unfold overQ leaveQ
  congr 1
  apply decide_eq_decide.2
  omega
theorem out_leave (t : PTr) (k : Int) (i : Nat) : outQ t k i = leaveQ t k 3 1 i := by
  unfold outQ leaveQ
  congr 1
  apply decide_eq_decide.2
  omega
set_option maxRecDepth 100000 in
set_option maxHeartbeats 2000000 in
theorem l4leave_calls (v1 v2 : Value) (t : PTr) (k kd ls : Int) (w : World) (h : RdTr w v1 v2 t) (hsm : smTr t) (hg : goodP t k = true) (hl0 : 0 ≤ ls) (hl1 : ls ≤ 1) :
    Calls Tryz.prog 94 #[.agg #[v1, v2], .int .i64 k, .int .i64 kd, .int .i64 ls] w fun e w' => e = .returned (.int .i64 (seekP t k (leaveQ t k kd ls))) ∧ Below w.heap.size w w' := by
  have HT := Lib.hid h
  have HS := Lib.hid hsm
  obtain ⟨⟨A1, c1, rfl, hn1, -⟩, ⟨vv, ⟨A2, c2, rfl, hn2, -⟩, -⟩⟩ := h
  obtain ⟨⟨hs1, -⟩, ⟨hs2, -⟩⟩ := hsm
  obtain ⟨k0, k1⟩ := good_bd hg
  have HP : Hid (seekP t k (leaveQ t k kd ls) = (firstB (leaveQ t k kd ls) t.moms.length (t.moms.length - (k + 1).toNat) (k + 1).toNat : Nat)) := Lib.hid (by unfold seekP; rw [if_pos hg])
  have HG := Lib.hid hg
  have hi := good_cur hg
  have i0 := hi.lo
  have i1 := hi.hi
  have i2 := hi.deep (atP t k).cur
  have SO := Lib.hid (sound_iff (good_sound hg))
  clear hg hi
  go_enter Tryz.func94, Tryz.ntmps94
  go_wp2_with fail
  generalize hW : World.alloc w _ = W
  have HBW : Hid (Below w.heap.size w W) := by rw [← hW]; exact Lib.hid (by repeat (with_reducible first | exact Below.refl _ _ | exact HL.out | refine bl_drewN ?_ _ | refine bl_drew ?_ | refine bl_alloc ?_ _ | refine bl_set ?_ (by dsimp only; omega) _))
  have HX : Hid (BoxAt W w.heap.size [.slice A1 t.fns.length c1, .slice A2 t.moms.length c2]) := by rw [← hW]; exact Lib.hid (BoxAt.new w _ _)
  clear hW
  refine (l1stand_calls _ _ t _ _ (HT.out.later HBW.out) HS.out HG.out).mono ?_; rintro e w1 ⟨g, T, f, rfl, hS, hb⟩
  have HW := Lib.hid hS
  have HL := Lib.hid hb
  have cc : w1.cell? ⟨g, 1, none⟩ = some (.int .i64 (atP t k).cur) := hS.blk.cell (j := 1) (by omega)
  obtain ⟨Ad, cpd, c0, cr, -, -, -⟩ := hS.at i0 i1
  clear hb hS
  obtain ⟨x0, x1⟩ := (HX.out.later HL.out).open2
  obtain ⟨j, hj⟩ : ∃ j : Nat, k + 1 = (j : Int) := ⟨(k + 1).toNat, by omega⟩
  have HJ := Lib.hid hj
  clear hj
  have hcx : (atP t k).cur < 101 := by omega
  go_wp2_with fail
  clear x0 x1 cc c0 cr
  go_loopw [12] (fun i wr => ∃ (n : Nat) (f : Nat → Value), j ≤ n ∧ i = .int .i64 n ∧ firstB (leaveQ t k kd ls) t.moms.length (t.moms.length - j) j = firstB (leaveQ t k kd ls) t.moms.length (t.moms.length - n) n ∧
    (n ≤ t.moms.length → IsS wr W.heap.size g T (stN t.moms n) f) ∧ Below W.heap.size W wr) (fun i _ => t.moms.length - (intOf i).toNat)
  case atStart =>
    refine ⟨j, f, Nat.le_refl _, by rw [← HJ.out], rfl, fun hj => ?_, HL.out⟩
    have e : atP t k = stN t.moms j := by
      have := HJ.out
      unfold atP atN; congr 1; omega
    rw [← e]; exact HW.out
  case round =>
    obtain ⟨n, f, hn, rfl, hq, hS, hb⟩ := hrel
    clear HW HL
    have HQ := Lib.hid hq
    have HL := Lib.hid hb
    by_cases h2 : n < t.moms.length
    · have HW := Lib.hid (hS (by omega))
      clear hq hS hb
      obtain ⟨b, o, vk, hA, c0, c1', c2', c3, c4, c5, hvk⟩ := rd_moment ((HT.out.2.later HBW.out).later HL.out) h2
      obtain ⟨Av, cv, rfl, -⟩ := hvk
      subst hA
      obtain ⟨x0, x1⟩ := (HX.out.later HL.out).open2
      have hlo := HL.out.size
      go_upto_region 8 with fail
      have HMB : Hid (Blk (wr.alloc _) wr.heap.size 114 6 _) := Lib.hid (Blk.made wr #[.int .i64 (elt t.moms n).kind, .int .i64 (elt t.moms n).task, .int .i64 (elt t.moms n).fn, .int .i64 (elt t.moms n).line, .string (elt t.moms n).text, .slice Av (elt t.moms n).vars.length cv] 114)
      generalize hW2 : World.alloc wr _ = W2 at HMB ⊢
      have hbl : Below wr.heap.size wr W2 := by rw [← hW2]; exact bl_alloc (Below.refl _ _) _
      clear hW2 x0 x1 c0 c1' c2' c3 c4 c5
      have y0 : W2.cell? ⟨wr.heap.size, 0, none⟩ = some (.int .i64 (elt t.moms n).kind) := HMB.out.cell (j := 0) (by omega)
      have y1 : W2.cell? ⟨wr.heap.size, 1, none⟩ = some (.int .i64 (elt t.moms n).task) := HMB.out.cell (j := 1) (by omega)
      have y2 : W2.cell? ⟨wr.heap.size, 2, none⟩ = some (.int .i64 (elt t.moms n).fn) := HMB.out.cell (j := 2) (by omega)
      have y3 : W2.cell? ⟨wr.heap.size, 3, none⟩ = some (.int .i64 (elt t.moms n).line) := HMB.out.cell (j := 3) (by omega)
      have y4 : W2.cell? ⟨wr.heap.size, 4, none⟩ = some (.string (elt t.moms n).text) := HMB.out.cell (j := 4) (by omega)
      have y5 : W2.cell? ⟨wr.heap.size, 5, none⟩ = some (.slice Av (elt t.moms n).vars.length cv) := HMB.out.cell (j := 5) (by omega)
      have HI := Lib.hid (SO.out.inv n (by omega))
      replace HW := Lib.hid (HW.out.later hbl); replace HL := Lib.hid (bl_then HL.out hbl); clear hbl
      go_wp2_with fail
      refine (move_calls _ g T _ _ (elt t.moms n) _ _ _ n n _ HW.out HI.out).mono ?_
      rintro e w2 ⟨rfl, hb, hst⟩
      clear y0 y1 y2 y3 y4 y5
      replace HL := Lib.hid (bl_trans HL.out hb.bl)
      replace HMB := Lib.hid (HMB.out.mv hb (by decide))
      obtain ⟨f', hS'⟩ := hst (SO.out.moves n h2)
      replace hS' : IsS w2 W.heap.size g T (stN t.moms (n + 1)) f' := hS'
      clear HW
      have HW := Lib.hid hS'
      have y0 : w2.cell? ⟨wr.heap.size, 0, none⟩ = some (.int .i64 (elt t.moms n).kind) := HMB.out.cell (j := 0) (by omega)
      have y1 : w2.cell? ⟨wr.heap.size, 1, none⟩ = some (.int .i64 (elt t.moms n).task) := HMB.out.cell (j := 1) (by omega)
      obtain ⟨Ae, cpe, c0, cr, -, -, -⟩ := hS'.at i0 i1
      clear hb hS' hst
      have HI : Hid (leaveQ t k kd ls n = (((elt t.moms n).kind == kd) && ((elt t.moms n).task == (atP t k).cur) && decide ((((stN t.moms (n + 1)).stk (atP t k).cur).length : Int) ≤ ((atP t k).stk (atP t k).cur).length - ls))) := Lib.hid (by unfold leaveQ; rw [Bool.beq_eq_decide_eq, Bool.beq_eq_decide_eq])
      generalize hk1 : ((elt t.moms n).kind == kd) = q1 at HI
      generalize hk2 : ((elt t.moms n).task == (atP t k).cur) = q2 at HI
      generalize hk3 : decide ((((stN t.moms (n + 1)).stk (atP t k).cur).length : Int) ≤ ((atP t k).stk (atP t k).cur).length - ls) = q3 at HI
      cases q1 <;> cases q2 <;> cases q3
      all_goals
        go_wp2
        first
          | (go_roundw
             case rel => exact ⟨n + 1, f', by omega, by go_num, HQ.out.trans (firstB_skip h2 HI.out), fun _ => HW.out, HL.out⟩
             case measure => simp [intOf]; omega)
          | (go_ret
             refine ⟨ret_int ?_, bl_then HBW.out HL.out⟩
             rw [HP.out, HJ.out, Int.toNat_natCast, HQ.out, firstB_hit h2 HI.out])
    · clear hq hS hb
      obtain ⟨x0, x1⟩ := (HX.out.later HL.out).open2
      go_wp2
      go_ret
      refine ⟨ret_int ?_, bl_then HBW.out HL.out⟩
      rw [HP.out, HJ.out, Int.toNat_natCast, HQ.out, firstB_end (by omega)]
end Go.Proofs.YtcklnjjbhngbcaaGreatDoor

namespace Go.Proofs.YtcklnjjbhngbcaaGreatDoor
open Go.RowKit Go.Proofs.Lens

theorem l1in_is (x a b : Int) (w : World) {q : Bool} (h : inB x a b = q) : Calls Tryz.prog 137 #[.int .i64 x, .int .i64 a, .int .i64 b] w fun e w' => e = .returned (.bool q) ∧ w = w' := h ▸ l1in_calls x a b w
set_option maxRecDepth 100000 in
set_option maxHeartbeats 2000000 in
theorem l1inner_calls (v : Value) (xs : List PFr) (w : World) (h : RdFrs w v xs) (hn : xs.length ≤ 1048576) :
    Calls Tryz.prog 96 #[v] w (OwRet w 42 3 xs.length (frC xs.reverse)) := by
  have HV := Lib.hid h
  obtain ⟨A, c, rfl, hm, -⟩ := h
  go_enter Tryz.func96, Tryz.ntmps96
  go_wp2_with fail
  go_loopw [3, 4] (fun o i wr => ∃ q : Nat, q ≤ xs.length ∧ i = .int .i64 ((xs.length : Int) - 1 - q) ∧ OwR wr w.heap.size 42 3 q (frC xs.reverse) o ∧ Below w.heap.size w wr) (fun _ i _ => (intOf i + 1).toNat)
  case atStart => exact ⟨0, Nat.zero_le _, by simp, OwR.nil, Below.refl _ _⟩
  case round =>
    obtain ⟨q, hq, rfl, hO, hb⟩ := hrel
    have HO := Lib.hid hO
    have HB := Lib.hid hb
    obtain ⟨A3, c3, rfl, -⟩ := hO.cap
    have hsz := hb.size
    clear hO hb
    by_cases hlt : q < xs.length
    · obtain ⟨p, hp⟩ : ∃ p : Nat, (xs.length : Int) - 1 - q = (p : Int) := ⟨xs.length - 1 - q, by omega⟩
      have hp' : p < xs.length := by omega
      obtain ⟨A', c', he, _, hrow⟩ := HV.out.later HB.out
      obtain ⟨rfl, rfl⟩ : A = A' ∧ c = c' := by simpa using he
      obtain ⟨b, o, rfl, hc⟩ := hrow (by omega)
      have x0 : wr.cell? ⟨b, o + p * 3, none⟩ = some (.int .i64 (elt xs p).fn) := hc p hp' 0 (by omega)
      have x1 : wr.cell? ⟨b, o + p * 3 + 1, none⟩ = some (.int .i64 (elt xs p).line) := hc p hp' 1 (by omega)
      have x2 : wr.cell? ⟨b, o + p * 3 + 2, none⟩ = some (.int .i64 (elt xs p).frm) := hc p hp' 2 (by omega)
      have hpi : (p : Int) < (xs.length : Int) := by omega
      have HN : Hid (elt xs.reverse q = elt xs p) := Lib.hid (by
        rw [elt_eq (by simpa using hlt), elt_eq hp', List.getElem_reverse]
        congr 1
        omega)
      rw [hp]
      have HP := Lib.hid hp
      clear hc he hrow hp
      go_wp2_with (at_builtin; refine stopped ?_)
      unfold Stopped
      refine wpList_append1 _ (by rfl) _ _ 35 (by rfl) w.heap.size 42 _ 3 24 Tryz.underlying35 i_frame rfl (by omega) _ q _ (frC xs.reverse) (by rfl) HO.out [.int .i64 (elt xs p).fn, .int .i64 (elt xs p).line, .int .i64 (elt xs p).frm] rfl (by simp [Value.oneCell']) (by rfl) (fun _ _ _ _ => rfl) ?hN hsz (by omega) (by omega) ?_
      case hN =>
        intro j hj
        simp only [frC, HN.out]
        match j, hj with
        | 0, _ => rfl
        | 1, _ => rfl
        | 2, _ => rfl
      intro g cap w1 hO1 hG1 _ _
      go_wp2
      go_roundw
      case rel =>
        have := HP.out
        exact ⟨q + 1, by omega, by congr 1 <;> omega, hO1, bl_own HB.out hsz HO.out hG1⟩
      case measure => simp [intOf] <;> omega
    · obtain rfl : q = xs.length := by omega
      go_wp2
      go_ret
      exact ⟨_, rfl, HO.out, HB.out⟩

end Go.Proofs.YtcklnjjbhngbcaaGreatDoor
