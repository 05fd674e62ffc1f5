/- Lemmas and contracts of functions that the theorem of this claim leans on (texts I4). -/
import Derived.Test.YtcklnjjbhngbcaaGreatDoorRowUnz10
import Derived.Test.YtcklnjjbhngbcaaGreatDoorRowUnz02
namespace Go.Proofs.YtcklnjjbhngbcaaGreatDoor
open Go.RowKit Go.Proofs.Lens

theorem sound_eq (t : PTr) : soundP t = ((faultP t).1 == 0 && (faultP t).2 == 0) := by
  cases h : soundP t with
  | true => rw [fault_of_sound h]; rfl
  | false =>
    have : (faultP t).1 ≠ 0 := by simpa [soundP] using h
    simp [this]
set_option maxRecDepth 100000 in
set_option maxHeartbeats 400000 in
theorem sound_calls (v1 v2 : Value) (t : PTr) (w : World) (h : RdTr w v1 v2 t) (hsm : smTr t) :
    Calls Tryz.prog 38 #[.agg #[v1, v2]] w fun e w' => e = .returned (.bool (soundP t)) ∧ Below w.heap.size w w' := by
  have HT := Lib.hid h
  have HS := Lib.hid hsm
  have HQ := Lib.hid (sound_eq t)
  obtain ⟨⟨A1, c1, rfl, hn1, -⟩, ⟨vv, ⟨A2, c2, rfl, hn2, -⟩, -⟩⟩ := h
  clear hsm
  go_enter Tryz.func38, Tryz.ntmps38
  go_wp2_with fail
  refine (impl_TraceOk_calls _ _ t _ (HT.out.later (by repeat (with_reducible first | exact Below.refl _ _ | exact HL.out | refine bl_drewN ?_ _ | refine bl_drew ?_ | refine bl_alloc ?_ _ | refine bl_set ?_ (by dsimp only; omega) _))) HS.out).mono ?_; rintro e w1 ⟨rfl, hb⟩
  have HB := Lib.hid (bl_then (bl_alloc (Below.refl _ w) _) hb)
  clear hb
  go_wp2
  all_goals
    go_ret
    refine ⟨ret_bool ?_, HB.out⟩
    have := HQ.out
    rw [this]
    simp [*]
theorem sound_is (v1 v2 : Value) (t : PTr) (w : World) {b : Bool} (h : RdTr w v1 v2 t) (hsm : smTr t) (hs : soundP t = b) :
    Calls Tryz.prog 38 #[.agg #[v1, v2]] w fun e w' => e = .returned (.bool b) ∧ Below w.heap.size w w' := hs ▸ sound_calls v1 v2 t w h hsm
theorem inside_is (x a b : Int) (w : World) {q : Bool} (h : inB x a b = q) : Calls Tryz.prog 116 #[.int .i64 x, .int .i64 a, .int .i64 b] w fun e w' => e = .returned (.bool q) ∧ w = w' := h ▸ inside_calls x a b w

set_option maxRecDepth 100000 in
set_option maxHeartbeats 400000 in
theorem at_bad (v1 v2 : Value) (t : PTr) (k : Int) (w : World) (h : RdTr w v1 v2 t) (hsm : smTr t) (hg : goodP t k = false) :
    Calls Tryz.prog 80 #[.agg #[v1, v2], .int .i64 k] w fun e w' => e = .returned (.pointer none) ∧ Below w.heap.size w w' := by
  have HT := Lib.hid h
  have HS := Lib.hid hsm
  obtain ⟨⟨A1, c1, rfl, hn1, -⟩, ⟨vv, ⟨A2, c2, rfl, hn2, -⟩, -⟩⟩ := h
  clear hsm
  cases hs : soundP t with
  | false =>
    have HQ := Lib.hid hs
    clear hs hg
    go_enter Tryz.func80, Tryz.ntmps80
    go_wp2_with fail
    refine (sound_is _ _ t _ (HT.out.later (by repeat (with_reducible first | exact Below.refl _ _ | exact HL.out | refine bl_drewN ?_ _ | refine bl_drew ?_ | refine bl_alloc ?_ _ | refine bl_set ?_ (by dsimp only; omega) _))) HS.out HQ.out).mono ?_; rintro e w1 ⟨rfl, hb⟩
    have HB := Lib.hid (bl_then (bl_alloc (Below.refl _ w) _) hb)
    clear hb
    go_wp2
    go_ret
    exact ⟨rfl, HB.out⟩
  | true =>
    have hp : placeOk t k = false := by unfold goodP at hg; rw [hs] at hg; exact hg
    have HQ := Lib.hid hs
    have HP := Lib.hid hp
    clear hs hg hp
    go_enter Tryz.func80, Tryz.ntmps80
    go_wp2_with fail
    refine (sound_is _ _ t _ (HT.out.later (by repeat (with_reducible first | exact Below.refl _ _ | exact HL.out | refine bl_drewN ?_ _ | refine bl_drew ?_ | refine bl_alloc ?_ _ | refine bl_set ?_ (by dsimp only; omega) _))) HS.out HQ.out).mono ?_; rintro e w1 ⟨rfl, hb⟩
    have HX := Lib.hid ((BoxAt.new w [.slice A1 t.fns.length c1, .slice A2 t.moms.length c2] 26).later hb)
    have HB := Lib.hid (bl_then (bl_alloc (Below.refl _ w) _) hb)
    clear hb
    obtain ⟨x0, x1⟩ := HX.out.open2
    go_wp2_with fail
    refine (inside_is _ _ _ _ HP.out).mono ?_; rintro e w2 ⟨rfl, rfl⟩
    go_wp2
    go_ret
    exact ⟨rfl, HB.out⟩

theorem goodP_true {t : PTr} {k : Int} (h : goodP t k = true) : soundP t = true ∧ placeOk t k = true ∧ -1 ≤ k ∧ k ≤ t.moms.length := by
  unfold goodP at h
  rw [Bool.and_eq_true] at h
  exact ⟨h.1, h.2, inB_true.1 h.2⟩
def AtPost (w : World) (v1 v2 : Value) (s : PS) (e : Ending) (w' : World) : Prop := ∃ g cl f, e = .returned (.pointer (some ⟨g, 0, none⟩)) ∧ IsW w' g v1 v2 s cl f ∧ w.heap.size ≤ g ∧ Below w.heap.size w w'
set_option maxRecDepth 100000 in
set_option maxHeartbeats 2000000 in
theorem at_good (v1 v2 : Value) (t : PTr) (k : Int) (w : World) (h : RdTr w v1 v2 t) (hsm : smTr t) (hg : goodP t k = true) :
    Calls Tryz.prog 80 #[.agg #[v1, v2], .int .i64 k] w (AtPost w v1 v2 (atP t k)) := by
  have HT := Lib.hid h
  have HS := Lib.hid hsm
  obtain ⟨⟨A1, c1, rfl, hn1, -⟩, ⟨vv, ⟨A2, c2, rfl, hn2, -⟩, -⟩⟩ := h
  obtain ⟨⟨hs1, -⟩, ⟨hs2, -⟩⟩ := hsm
  obtain ⟨g1, g2, g3, g4⟩ := goodP_true hg
  have HQ := Lib.hid g1
  have HP := Lib.hid g2
  have SO := Lib.hid (sound_iff g1)
  clear hg g1 g2
  go_enter Tryz.func80, Tryz.ntmps80
  go_wp2_with fail
  refine (sound_is _ _ t _ (HT.out.later (by repeat (with_reducible first | exact Below.refl _ _ | exact HL.out | refine bl_drewN ?_ _ | refine bl_drew ?_ | refine bl_alloc ?_ _ | refine bl_set ?_ (by dsimp only; omega) _))) HS.out HQ.out).mono ?_; rintro e w1 ⟨rfl, hb⟩
  have HX := Lib.hid ((BoxAt.new w [.slice A1 t.fns.length c1, .slice A2 t.moms.length c2] 26).later hb)
  have HB := Lib.hid (bl_then (bl_alloc (Below.refl _ w) _) hb)
  clear hb
  obtain ⟨x0, x1⟩ := HX.out.open2
  have hw := World.block_lt_of_cell? _ _ x0
  go_wp2_with fail
  refine (inside_is _ _ _ _ HP.out).mono ?_; rintro e w2 ⟨rfl, rfl⟩
  go_wp2_with fail
  refine (newWalk_calls _ _ _).mono ?_
  rintro e w2 ⟨g, f, rfl, hW, hg, hb⟩
  have HW := Lib.hid hW
  have HG : Hid (w.heap.size + 1 ≤ g) := Lib.hid (by omega)
  clear x0 x1 hw hg hW
  replace HX := Lib.hid (HX.out.later hb); replace HB := Lib.hid (bl_then HB.out hb); clear hb
  go_wp2_with fail
  go_loopw [6] (fun i wr => ∃ (n : Nat) (cl : List PFr) (f : Nat → Value), n ≤ t.moms.length ∧ (n : Int) ≤ k + 1 ∧ i = .int .i64 n ∧ IsW wr g (.slice A1 t.fns.length c1) (.slice A2 t.moms.length c2) (stN t.moms n) cl f ∧ Below w.heap.size w wr ∧
    BoxAt wr w.heap.size [.slice A1 t.fns.length c1, .slice A2 t.moms.length c2]) (fun i _ => t.moms.length - (intOf i).toNat)
  case atStart => exact ⟨0, [], f, Nat.zero_le _, by omega, rfl, HW.out, HB.out, HX.out⟩
  case round =>
    obtain ⟨n, cl, f, hn, hn2, rfl, hW, hb, hx⟩ := hrel
    clear HW HB HX
    have HW := Lib.hid hW
    have HB := Lib.hid hb
    have HX := Lib.hid hx
    clear hW hb hx
    obtain ⟨x0, x1⟩ := HX.out.open2
    by_cases h1 : (n : Int) ≤ k
    · by_cases h2 : n < t.moms.length
      · have HI := Lib.hid (SO.out.inv n hn)
        go_wp2_with fail
        refine (step_calls g _ _ _ _ _ t.moms n t.fns.length _ HW.out (HT.out.2.later HB.out) h2 HI.out (SO.out.moms n h2) (SO.out.moves n h2)).mono ?_
        rintro e w3 ⟨rfl, ⟨f', hW3⟩, hgb⟩
        have HX3 := Lib.hid (BoxAt.gb HX.out hgb (by have := HG.out; omega))
        have HB3 := Lib.hid (bl_grown HB.out hgb (by have := HG.out; omega))
        have HW3 := Lib.hid hW3
        clear hgb hW3 x0 x1
        go_wp2
        go_roundw
        case rel => exact ⟨n + 1, _, f', by omega, by omega, by go_num, HW3.out, HB3.out, HX3.out⟩
        case measure => simp [intOf]; omega
      · have hd : decide ((n : Int) < (t.moms.length : Int)) = false := by simp; omega
        go_wp2
        go_ret
        have e : atP t k = stN t.moms n := by unfold atP atN; rw [show min (k + 1).toNat t.moms.length = n by omega]
        exact ⟨g, cl, f, rfl, by rw [e]; exact HW.out, by have := HG.out; omega, HB.out⟩
    · go_wp2
      go_ret
      have e : atP t k = stN t.moms n := by unfold atP atN; rw [show min (k + 1).toNat t.moms.length = n by omega]
      exact ⟨g, cl, f, rfl, by rw [e]; exact HW.out, by have := HG.out; omega, HB.out⟩

set_option maxRecDepth 100000 in
set_option maxHeartbeats 400000 in
theorem impl_RunningAt_calls (v1 v2 : Value) (t : PTr) (k : Int) (w : World) (h : RdTr w v1 v2 t) (hsm : smTr t) :
    Calls Tryz.prog 32 #[.agg #[v1, v2], .int .i64 k] w fun e w' => e = .returned (.int .i64 (runP t k)) ∧ Below w.heap.size w w' := by
  have HT := Lib.hid h
  have HS := Lib.hid hsm
  obtain ⟨⟨A1, c1, rfl, hn1, -⟩, ⟨vv, ⟨A2, c2, rfl, hn2, -⟩, -⟩⟩ := h
  clear hsm
  cases hg : goodP t k with
  | false =>
    have HR : Hid (runP t k = -1) := Lib.hid (by unfold runP; rw [hg]; rfl)
    have HG := Lib.hid hg
    clear hg
    go_enter Tryz.func32, Tryz.ntmps32
    go_wp2_with fail
    refine (at_bad _ _ t k _ (HT.out.later (by repeat (with_reducible first | exact Below.refl _ _ | exact HL.out | refine bl_drewN ?_ _ | refine bl_drew ?_ | refine bl_alloc ?_ _ | refine bl_set ?_ (by dsimp only; omega) _))) HS.out HG.out).mono ?_; rintro e w1 ⟨rfl, hb⟩
    have HB := Lib.hid (bl_then (bl_alloc (Below.refl _ w) _) hb)
    clear hb
    go_wp2
    go_ret
    exact ⟨ret_int HR.out.symm, HB.out⟩
  | true =>
    have HR : Hid (runP t k = (atP t k).cur) := Lib.hid (by unfold runP; rw [hg]; rfl)
    have HG := Lib.hid hg
    clear hg
    go_enter Tryz.func32, Tryz.ntmps32
    go_wp2_with fail
    refine (at_good _ _ t k _ (HT.out.later (by repeat (with_reducible first | exact Below.refl _ _ | exact HL.out | refine bl_drewN ?_ _ | refine bl_drew ?_ | refine bl_alloc ?_ _ | refine bl_set ?_ (by dsimp only; omega) _))) HS.out HG.out).mono ?_; rintro e w1 ⟨g, cl, f, rfl, hW, hg, hb⟩
    have HB := Lib.hid (bl_then (bl_alloc (Below.refl _ w) _) hb)
    have c2 : w1.cell? ⟨g, 2, none⟩ = some (.int .i64 (atP t k).cur) := (hW.blk.cell (by omega)).trans (by rw [hW.cur])
    clear hb hW
    go_wp2
    go_ret
    exact ⟨ret_int HR.out.symm, HB.out⟩
end Go.Proofs.YtcklnjjbhngbcaaGreatDoor
