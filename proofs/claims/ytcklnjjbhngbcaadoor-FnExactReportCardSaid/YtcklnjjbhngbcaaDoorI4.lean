/- sound, at, RunningAt. -/
import Derived.Test.YtcklnjjbhngbcaaDoorI3
import Derived.Test.YtcklnjjbhngbcaaDoorP2
namespace Go.Proofs.YtcklnjjbhngbcaaDoor
open Go.RowKit Go.Proofs.Lens

theorem sound_eq (t : PTr) : soundP t = ((faultP t).1 == 0 && (faultP t).2 == 0) := by
  cases h : soundP t with
  | true => rw [fault_of_sound h]; rfl
  | false =>
    have : (faultP t).1 ≠ 0 := by simpa [soundP] using h
    simp [this]
set_option maxRecDepth 100000 in
set_option maxHeartbeats 400000 in
theorem sound_calls (v1 v2 : Value) (t : PTr) (w : World) (h : RdTr w v1 v2 t) (hsm : smTr t) :
    Calls Tryd.prog 29 #[.agg #[v1, v2]] w fun e w' => e = .returned (.bool (soundP t)) ∧ Below w.heap.size w w' := by
  have HT := Lib.hid h
  have HS := Lib.hid hsm
  have HQ := Lib.hid (sound_eq t)
  obtain ⟨⟨A1, c1, rfl, hn1, -⟩, ⟨vv, ⟨A2, c2, rfl, hn2, -⟩, -⟩⟩ := h
  clear hsm
  go_enter Tryd.func29, Tryd.ntmps29
  go_wp2_with fail
  refine (impl_TraceOk_calls _ _ t _ (HT.out.later (by repeat (with_reducible first | exact Below.refl _ _ | exact HL.out | refine bl_drewN ?_ _ | refine bl_drew ?_ | refine bl_alloc ?_ _ | refine bl_set ?_ (by dsimp only; omega) _))) HS.out).mono ?_; rintro e w1 ⟨rfl, hb⟩
  have HB := Lib.hid (bl_then (bl_alloc (Below.refl _ w) _) hb)
  clear hb
  go_wp2
  all_goals
    go_ret
    refine ⟨ret_bool ?_, HB.out⟩
    have := HQ.out
    rw [this]
    simp [*]
theorem sound_is (v1 v2 : Value) (t : PTr) (w : World) {b : Bool} (h : RdTr w v1 v2 t) (hsm : smTr t) (hs : soundP t = b) :
    Calls Tryd.prog 29 #[.agg #[v1, v2]] w fun e w' => e = .returned (.bool b) ∧ Below w.heap.size w w' := hs ▸ sound_calls v1 v2 t w h hsm
theorem inside_is (x a b : Int) (w : World) {q : Bool} (h : inB x a b = q) : Calls Tryd.prog 71 #[.int .i64 x, .int .i64 a, .int .i64 b] w fun e w' => e = .returned (.bool q) ∧ w = w' := h ▸ inside_calls x a b w

theorem goodP_true {t : PTr} {k : Int} (h : goodP t k = true) : soundP t = true ∧ placeOk t k = true ∧ -1 ≤ k ∧ k ≤ t.moms.length := by
  unfold goodP at h
  rw [Bool.and_eq_true] at h
  exact ⟨h.1, h.2, inB_true.1 h.2⟩
def AtPost (w : World) (v1 v2 : Value) (s : PS) (e : Ending) (w' : World) : Prop := ∃ g cl f, e = .returned (.pointer (some ⟨g, 0, none⟩)) ∧ IsW w' g v1 v2 s cl f ∧ w.heap.size ≤ g ∧ Below w.heap.size w w'
end Go.Proofs.YtcklnjjbhngbcaaDoor
