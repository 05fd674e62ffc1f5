/- The specification's l1ok, l1place, l1at, l1stand, l4good, RunningAt. -/
import Derived.Test.YtcklnjjbhngbcaaT7
import Derived.Test.YtcklnjjbhngbcaaP2
namespace Go.Proofs.Ytcklnjjbhngbcaa
open Go.RowKit Go.Proofs.Lens

set_option maxRecDepth 100000 in
set_option maxHeartbeats 400000 in
theorem l1ok_calls (v1 v2 : Value) (t : PTr) (w : World) (h : RdTr w v1 v2 t) (hsm : smTr t) :
    Calls Try.prog 97 #[.agg #[v1, v2]] w fun e w' => e = .returned (.bool (soundP t)) ∧ Below w.heap.size w w' := by
  have HT := Lib.hid h
  have HS := Lib.hid hsm
  obtain ⟨⟨A1, c1, rfl, hn1, -⟩, ⟨vv, ⟨A2, c2, rfl, hn2, -⟩, -⟩⟩ := h
  clear hsm
  go_enter Try.func97, Try.ntmps97
  go_wp2_with fail
  refine (spec_TraceOk_calls _ _ t _ (HT.out.later (by repeat (with_reducible first | exact Below.refl _ _ | exact HL.out | refine bl_drewN ?_ _ | refine bl_drew ?_ | refine bl_alloc ?_ _ | refine bl_set ?_ (by dsimp only; omega) _))) HS.out).mono ?_; rintro e w1 ⟨rfl, hb⟩
  have HB := Lib.hid (bl_then (bl_alloc (Below.refl _ w) _) hb)
  clear hb
  go_wp2
  go_ret
  have HL := HB
  exact ⟨ret_bool (by unfold soundP; exact Bool.beq_eq_decide_eq _ _), (by repeat (with_reducible first | exact Below.refl _ _ | exact HL.out | refine bl_drewN ?_ _ | refine bl_drew ?_ | refine bl_alloc ?_ _ | refine bl_set ?_ (by dsimp only; omega) _))⟩
theorem l1ok_is (v1 v2 : Value) (t : PTr) (w : World) {b : Bool} (h : RdTr w v1 v2 t) (hsm : smTr t) (hs : soundP t = b) :
    Calls Try.prog 97 #[.agg #[v1, v2]] w fun e w' => e = .returned (.bool b) ∧ Below w.heap.size w w' := hs ▸ l1ok_calls v1 v2 t w h hsm

set_option maxRecDepth 100000 in
set_option maxHeartbeats 400000 in
theorem l1place_calls (v1 v2 : Value) (t : PTr) (k : Int) (w : World) (h : RdTr w v1 v2 t) :
    Calls Try.prog 98 #[.agg #[v1, v2], .int .i64 k] w fun e w' => e = .returned (.bool (placeOk t k)) ∧ Below w.heap.size w w' := by
  obtain ⟨⟨A1, c1, rfl, hn1, -⟩, ⟨vv, ⟨A2, c2, rfl, hn2, -⟩, -⟩⟩ := h
  go_enter Try.func98, Try.ntmps98
  go_wp2_with fail
  refine (l1in_calls _ _ _ _).mono ?_; rintro e w2 ⟨rfl, rfl⟩
  go_wp2
  go_ret
  exact ⟨rfl, bl_alloc (Below.refl _ _) _⟩
theorem l1place_is (v1 v2 : Value) (t : PTr) (k : Int) (w : World) {b : Bool} (h : RdTr w v1 v2 t) (hp : placeOk t k = b) :
    Calls Try.prog 98 #[.agg #[v1, v2], .int .i64 k] w fun e w' => e = .returned (.bool b) ∧ Below w.heap.size w w' := hp ▸ l1place_calls v1 v2 t k w h

def StPost (w : World) (s : PS) (e : Ending) (w' : World) : Prop := ∃ g T f, e = .returned (.pointer (some ⟨g, 0, none⟩)) ∧ IsS w' w.heap.size g T s f ∧ Below w.heap.size w w'
set_option maxRecDepth 100000 in
set_option maxHeartbeats 2000000 in
theorem l1at_calls (v1 v2 : Value) (t : PTr) (k : Int) (w : World) (h : RdTr w v1 v2 t) (hsm : smTr t) (hg : soundP t = true) (hk0 : -1 ≤ k) (hk1 : k < t.moms.length) :
    Calls Try.prog 143 #[.agg #[v1, v2], .int .i64 k] w (StPost w (stN t.moms (k + 1).toNat)) := by
  have HT := Lib.hid h
  obtain ⟨⟨A1, c1, rfl, hn1, -⟩, ⟨vv, ⟨A2, c2, rfl, hn2, -⟩, -⟩⟩ := h
  obtain ⟨⟨hs1, -⟩, ⟨hs2, -⟩⟩ := hsm
  have SO := Lib.hid (sound_iff hg)
  clear hg
  go_enter Try.func143, Try.ntmps143
  go_wp2_with fail
  generalize hW : World.alloc w _ = W
  have HB : Hid (Below w.heap.size w W) := by rw [← hW]; exact Lib.hid (by repeat (with_reducible first | exact Below.refl _ _ | exact HL.out | refine bl_drewN ?_ _ | refine bl_drew ?_ | refine bl_alloc ?_ _ | refine bl_set ?_ (by dsimp only; omega) _))
  have HX : Hid (BoxAt W w.heap.size [.slice A1 t.fns.length c1, .slice A2 t.moms.length c2]) := by rw [← hW]; exact Lib.hid (BoxAt.new w _ _)
  clear hW
  refine (l1begin_calls _).mono ?_
  rintro e w1 ⟨g, T, f, rfl, hS, hb⟩
  have HW := Lib.hid hS
  have HL := Lib.hid hb
  clear hS hb
  go_wp2_with fail
  go_loopw [6] (fun i wr => ∃ (n : Nat) (f : Nat → Value), n ≤ t.moms.length ∧ (n : Int) ≤ k + 1 ∧ i = .int .i64 n ∧ IsS wr W.heap.size g T (stN t.moms n) f ∧ Below W.heap.size W wr) (fun i _ => t.moms.length - (intOf i).toNat)
  case atStart => exact ⟨0, f, Nat.zero_le _, by omega, rfl, HW.out, HL.out⟩
  case round =>
    obtain ⟨n, f, hn, hn2, rfl, hS, hb⟩ := hrel
    clear HW HL
    have HW := Lib.hid hS
    have HL := Lib.hid hb
    clear hS hb
    by_cases h1 : (n : Int) ≤ k
    · have h2 : n < t.moms.length := by omega
      have HI := Lib.hid (SO.out.inv n hn)
      have HM := Lib.hid ((HT.out.2.later HB.out).later HL.out)
      obtain ⟨b, o, vk, hA, c0, c1', c2', c3, c4, c5, hvk⟩ := rd_moment HM.out h2
      obtain ⟨Av, cv, rfl, -⟩ := hvk
      subst hA
      obtain ⟨x0, x1⟩ := (HX.out.later HL.out).open2
      go_wp2_with fail
      refine (move_calls _ g T _ _ (elt t.moms n) _ _ _ n n _ HW.out HI.out).mono ?_
      rintro e w2 ⟨rfl, hb, hst⟩
      have HL2 := Lib.hid (bl_trans HL.out hb.bl)
      have HST := Lib.hid (hst (SO.out.moves n h2))
      clear hb hst x0 x1 c0 c1' c2' c3 c4 c5
      go_wp2
      go_roundw
      case rel =>
        obtain ⟨f', hf'⟩ := HST.out
        exact ⟨n + 1, f', by omega, by omega, by go_num, hf', HL2.out⟩
      case measure => simp [intOf]; omega
    · go_wp2
      go_ret
      have e : (k + 1).toNat = n := by omega
      rw [e]
      exact ⟨g, T, f, rfl, HW.out.lower HB.out.size, bl_then HB.out HL.out⟩

set_option maxRecDepth 100000 in
set_option maxHeartbeats 2000000 in
theorem l1stand_calls (v1 v2 : Value) (t : PTr) (k : Int) (w : World) (h : RdTr w v1 v2 t) (hsm : smTr t) (hg : goodP t k = true) :
    Calls Try.prog 99 #[.agg #[v1, v2], .int .i64 k] w (StPost w (atP t k)) := by
  have HT := Lib.hid h
  have HS := Lib.hid hsm
  obtain ⟨⟨A1, c1, rfl, hn1, -⟩, ⟨vv, ⟨A2, c2, rfl, hn2, -⟩, -⟩⟩ := h
  obtain ⟨⟨hs1, -⟩, ⟨hs2, -⟩⟩ := hsm
  unfold goodP at hg
  rw [Bool.and_eq_true] at hg
  have hp := inB_true.1 hg.2
  have HQ := Lib.hid hg.1
  clear hg
  by_cases hk : k = t.moms.length
  · have e : atP t k = stN t.moms (k - 1 + 1).toNat := by unfold atP atN; congr 1; omega
    have hd : (k == (t.moms.length : Int)) = true := by simp [hk]
    have HE := Lib.hid e
    have hk1 : 0 ≤ k := by omega
    have hk2 : k - 1 < t.moms.length := by omega
    clear hk e
    go_enter Try.func99, Try.ntmps99
    go_wp2_with fail
    refine (l1at_calls _ _ t _ _ (HT.out.later (by repeat (with_reducible first | exact Below.refl _ _ | exact HL.out | refine bl_drewN ?_ _ | refine bl_drew ?_ | refine bl_alloc ?_ _ | refine bl_set ?_ (by dsimp only; omega) _))) HS.out HQ.out (by omega) (by omega)).mono ?_
    rintro e w1 ⟨g, T, f, rfl, hS, hb⟩
    have HW := Lib.hid (hS.lower (lo' := w.heap.size) (by simp))
    have HB := Lib.hid (bl_then (bl_alloc (Below.refl _ w) _) hb)
    clear hS hb
    go_wp2
    go_ret
    exact ⟨g, T, f, rfl, by rw [HE.out]; exact HW.out, HB.out⟩
  · have e : atP t k = stN t.moms (k + 1).toNat := by unfold atP atN; congr 1; omega
    have hd : (k == (t.moms.length : Int)) = false := by simp [hk]
    have HE := Lib.hid e
    have hk2 : k < t.moms.length := by omega
    clear hk e
    go_enter Try.func99, Try.ntmps99
    go_wp2_with fail
    refine (l1at_calls _ _ t _ _ (HT.out.later (by repeat (with_reducible first | exact Below.refl _ _ | exact HL.out | refine bl_drewN ?_ _ | refine bl_drew ?_ | refine bl_alloc ?_ _ | refine bl_set ?_ (by dsimp only; omega) _))) HS.out HQ.out (by omega) (by omega)).mono ?_
    rintro e w1 ⟨g, T, f, rfl, hS, hb⟩
    have HW := Lib.hid (hS.lower (lo' := w.heap.size) (by simp))
    have HB := Lib.hid (bl_then (bl_alloc (Below.refl _ w) _) hb)
    clear hS hb
    go_wp2
    go_ret
    exact ⟨g, T, f, rfl, by rw [HE.out]; exact HW.out, HB.out⟩

set_option maxRecDepth 100000 in
set_option maxHeartbeats 400000 in
theorem spec_RunningAt_calls (v1 v2 : Value) (t : PTr) (k : Int) (w : World) (h : RdTr w v1 v2 t) (hsm : smTr t) :
    Calls Try.prog 40 #[.agg #[v1, v2], .int .i64 k] w fun e w' => e = .returned (.int .i64 (runP t k)) ∧ Below w.heap.size w w' := by
  have HT := Lib.hid h
  have HS := Lib.hid hsm
  obtain ⟨⟨A1, c1, rfl, hn1, -⟩, ⟨vv, ⟨A2, c2, rfl, hn2, -⟩, -⟩⟩ := h
  clear hsm
  cases hs : soundP t with
  | false =>
    have HR : Hid (runP t k = -1) := Lib.hid (by unfold runP goodP; rw [hs]; rfl)
    have HQ := Lib.hid hs
    clear hs
    go_enter Try.func40, Try.ntmps40
    go_wp2_with fail
    refine (l1ok_is _ _ t _ (HT.out.later (by repeat (with_reducible first | exact Below.refl _ _ | exact HL.out | refine bl_drewN ?_ _ | refine bl_drew ?_ | refine bl_alloc ?_ _ | refine bl_set ?_ (by dsimp only; omega) _))) HS.out HQ.out).mono ?_; rintro e w1 ⟨rfl, hb⟩
    have HB := Lib.hid (bl_then (bl_alloc (Below.refl _ w) _) hb)
    clear hb
    go_wp2
    go_ret
    exact ⟨ret_int HR.out.symm, HB.out⟩
  | true =>
    cases hp : placeOk t k with
    | false =>
      have HR : Hid (runP t k = -1) := Lib.hid (by unfold runP goodP; rw [hs, hp]; rfl)
      have HQ := Lib.hid hs
      have HP := Lib.hid hp
      clear hs hp
      go_enter Try.func40, Try.ntmps40
      go_wp2_with fail
      refine (l1ok_is _ _ t _ (HT.out.later (by repeat (with_reducible first | exact Below.refl _ _ | exact HL.out | refine bl_drewN ?_ _ | refine bl_drew ?_ | refine bl_alloc ?_ _ | refine bl_set ?_ (by dsimp only; omega) _))) HS.out HQ.out).mono ?_; rintro e w1 ⟨rfl, hb⟩
      have HX := Lib.hid ((BoxAt.new w [.slice A1 t.fns.length c1, .slice A2 t.moms.length c2] 35).later hb)
      have HB := Lib.hid (bl_then (bl_alloc (Below.refl _ w) _) hb)
      clear hb
      obtain ⟨x0, x1⟩ := HX.out.open2
      go_wp2_with fail
      refine (l1place_is _ _ t _ _ (HT.out.later HB.out) HP.out).mono ?_; rintro e w2 ⟨rfl, hb⟩
      clear x0 x1
      replace HB := Lib.hid (bl_then HB.out hb); clear hb
      go_wp2
      go_ret
      exact ⟨ret_int HR.out.symm, HB.out⟩
    | true =>
      have hg : goodP t k = true := by unfold goodP; rw [hs, hp]; rfl
      have HR : Hid (runP t k = (atP t k).cur) := Lib.hid (by unfold runP; rw [hg]; rfl)
      have HQ := Lib.hid hs
      have HP := Lib.hid hp
      have HG := Lib.hid hg
      clear hs hp hg
      go_enter Try.func40, Try.ntmps40
      go_wp2_with fail
      refine (l1ok_is _ _ t _ (HT.out.later (by repeat (with_reducible first | exact Below.refl _ _ | exact HL.out | refine bl_drewN ?_ _ | refine bl_drew ?_ | refine bl_alloc ?_ _ | refine bl_set ?_ (by dsimp only; omega) _))) HS.out HQ.out).mono ?_; rintro e w1 ⟨rfl, hb⟩
      have HX := Lib.hid ((BoxAt.new w [.slice A1 t.fns.length c1, .slice A2 t.moms.length c2] 35).later hb)
      have HB := Lib.hid (bl_then (bl_alloc (Below.refl _ w) _) hb)
      clear hb
      obtain ⟨x0, x1⟩ := HX.out.open2
      go_wp2_with fail
      refine (l1place_is _ _ t _ _ (HT.out.later HB.out) HP.out).mono ?_; rintro e w2 ⟨rfl, hb⟩
      clear x0 x1
      replace HB := Lib.hid (bl_then HB.out hb); replace HX := Lib.hid (HX.out.later hb); clear hb
      obtain ⟨x0, x1⟩ := HX.out.open2
      go_wp2_with fail
      refine (l1stand_calls _ _ t _ _ (HT.out.later HB.out) HS.out HG.out).mono ?_; rintro e w3 ⟨g, T, f, rfl, hS, hb⟩
      have c1' : w3.cell? ⟨g, 1, none⟩ = some (.int .i64 (atP t k).cur) := hS.blk.cell (j := 1) (by omega)
      clear hS x0 x1
      replace HB := Lib.hid (bl_then HB.out hb); clear hb
      go_wp2
      go_ret
      exact ⟨ret_int HR.out.symm, HB.out⟩
theorem IsS.mv {w w' : World} {lo lo' g T : Nat} {s : PS} {f : Nat → Value} {ts : List TypeId} (h : IsS w lo g T s f) (hm : Mv ts lo' w w') (h1 : 130 ∉ ts) (h2 : 56 ∉ ts) (h3 : 59 ∉ ts) : IsS w' lo g T s f :=
  ⟨h.lo1, h.lo2, h.blk.mv hm h1, h.tb.mv hm h2, fun i hi => (h.row i hi).mv hm h3, h.ne⟩
end Go.Proofs.Ytcklnjjbhngbcaa
