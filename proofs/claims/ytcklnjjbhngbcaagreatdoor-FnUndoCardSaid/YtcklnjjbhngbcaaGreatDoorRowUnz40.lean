/- Lemmas and contracts of functions that the theorem of this claim leans on (texts Q1). -/
import Derived.Test.YtcklnjjbhngbcaaGreatDoorRowUnz20
import Derived.Test.YtcklnjjbhngbcaaGreatDoorRowUnz37
import Derived.Test.YtcklnjjbhngbcaaGreatDoorRowUnz39
namespace Go.Proofs.YtcklnjjbhngbcaaGreatDoor
open Go.RowKit Go.Proofs.Lens
set_option linter.unusedSimpArgs false

set_option maxRecDepth 100000 in
set_option maxHeartbeats 2000000 in
theorem l5stop_calls (p : PStop) (w : World) : Calls Tryz.prog 139 #[.agg #[.int .i64 p.kind, .int .i64 p.fn, .int .i64 p.line, .string p.nm]] w fun e w' => e = .returned (.bool (noStop p)) ∧ Below w.heap.size w w' := by
  go_enter Tryz.func139, Tryz.ntmps139
  go_wp2
  all_goals
    go_ret
    refine ⟨ret_bool ?_, bl_alloc (Below.refl _ _) _⟩
    go_tidy
    unfold noStop noS
    grind [List.isEmpty_iff]
theorem l5stop_is (p : PStop) (w : World) {b : Bool} (h : noStop p = b) : Calls Tryz.prog 139 #[.agg #[.int .i64 p.kind, .int .i64 p.fn, .int .i64 p.line, .string p.nm]] w fun e w' => e = .returned (.bool b) ∧ Below w.heap.size w w' := h ▸ l5stop_calls p w
set_option maxRecDepth 100000 in
set_option maxHeartbeats 2000000 in
theorem specAsk_1 (a : PAsk) (w : World) (h1 : a.op = 1) (hz : a.nm.size ≤ 9223372036854775807) :
    Calls Tryz.prog 88 #[.agg #[.int .i64 a.op, .int .i64 a.n, .string a.nm, .int .i64 a.stop.kind, .int .i64 a.stop.fn, .int .i64 a.stop.line, .string a.stop.nm]] w fun e w' => e = .returned (.bool (askOk a)) ∧ Below w.heap.size w w' := by
  obtain ⟨op, n, nm, st⟩ := a
  simp only at h1 hz ⊢
  subst h1
  obtain ⟨c, hst⟩ : ∃ c, stopOk st = c := ⟨_, rfl⟩
  obtain ⟨b, hin⟩ : ∃ b, inB n 0 0 = b := ⟨_, rfl⟩
  have HA : Hid (askOk ⟨1, n, nm, st⟩ = (decide (n = 0) && noS nm && c)) := Lib.hid (by unfold askOk; simp [hst])
  go_enter Tryz.func88, Tryz.ntmps88
  go_wp2_with (first | (go_at_call 137; refine (l1in_is _ _ _ _ hin).mono ?_; rintro e w' ⟨rfl, rfl⟩) | (go_at_call 139; refine (l5stop_is st _ hst).mono ?_; rintro e w1 ⟨rfl, hbl⟩) | (go_at_call 138; refine (spec_StopOk_un st _ hst).mono ?_; rintro e w1 ⟨rfl, hbl⟩))
  all_goals
    go_ret
    refine ⟨ret_bool ?_, (by repeat (with_reducible first | exact Below.refl _ _ | exact bl_then (bl_alloc (Below.refl _ _) _) hbl | refine bl_alloc ?_ _ | refine bl_set ?_ (by dsimp only; omega) _))⟩
    go_tidy
    rw [HA.out]
    unfold noS
    clear hst hin
    grind [List.isEmpty_iff]
set_option maxRecDepth 100000 in
set_option maxHeartbeats 2000000 in
theorem specAsk_2 (a : PAsk) (w : World) (h1 : a.op = 2) (hz : a.nm.size ≤ 9223372036854775807) :
    Calls Tryz.prog 88 #[.agg #[.int .i64 a.op, .int .i64 a.n, .string a.nm, .int .i64 a.stop.kind, .int .i64 a.stop.fn, .int .i64 a.stop.line, .string a.stop.nm]] w fun e w' => e = .returned (.bool (askOk a)) ∧ Below w.heap.size w w' := by
  obtain ⟨op, n, nm, st⟩ := a
  simp only at h1 hz ⊢
  subst h1
  obtain ⟨c, hst⟩ : ∃ c, noStop st = c := ⟨_, rfl⟩
  obtain ⟨b, hin⟩ : ∃ b, inB n 0 49 = b := ⟨_, rfl⟩
  have HA : Hid (askOk ⟨2, n, nm, st⟩ = (b && noS nm && c)) := Lib.hid (by unfold askOk; simp [hst, hin])
  go_enter Tryz.func88, Tryz.ntmps88
  go_wp2_with (first | (go_at_call 137; refine (l1in_is _ _ _ _ hin).mono ?_; rintro e w' ⟨rfl, rfl⟩) | (go_at_call 139; refine (l5stop_is st _ hst).mono ?_; rintro e w1 ⟨rfl, hbl⟩) | (go_at_call 138; refine (spec_StopOk_un st _ hst).mono ?_; rintro e w1 ⟨rfl, hbl⟩))
  all_goals
    go_ret
    refine ⟨ret_bool ?_, (by repeat (with_reducible first | exact Below.refl _ _ | exact bl_then (bl_alloc (Below.refl _ _) _) hbl | refine bl_alloc ?_ _ | refine bl_set ?_ (by dsimp only; omega) _))⟩
    go_tidy
    rw [HA.out]
    unfold noS
    clear hst hin
    grind [List.isEmpty_iff]
set_option maxRecDepth 100000 in
set_option maxHeartbeats 2000000 in
theorem specAsk_13 (a : PAsk) (w : World) (h1 : a.op = 13) (hz : a.nm.size ≤ 9223372036854775807) :
    Calls Tryz.prog 88 #[.agg #[.int .i64 a.op, .int .i64 a.n, .string a.nm, .int .i64 a.stop.kind, .int .i64 a.stop.fn, .int .i64 a.stop.line, .string a.stop.nm]] w fun e w' => e = .returned (.bool (askOk a)) ∧ Below w.heap.size w w' := by
  obtain ⟨op, n, nm, st⟩ := a
  simp only at h1 hz ⊢
  subst h1
  obtain ⟨c, hst⟩ : ∃ c, noStop st = c := ⟨_, rfl⟩
  obtain ⟨b, hin⟩ : ∃ b, inB n 0 49 = b := ⟨_, rfl⟩
  have HA : Hid (askOk ⟨13, n, nm, st⟩ = (b && noS nm && c)) := Lib.hid (by unfold askOk; simp [hst, hin])
  go_enter Tryz.func88, Tryz.ntmps88
  go_wp2_with (first | (go_at_call 137; refine (l1in_is _ _ _ _ hin).mono ?_; rintro e w' ⟨rfl, rfl⟩) | (go_at_call 139; refine (l5stop_is st _ hst).mono ?_; rintro e w1 ⟨rfl, hbl⟩) | (go_at_call 138; refine (spec_StopOk_un st _ hst).mono ?_; rintro e w1 ⟨rfl, hbl⟩))
  all_goals
    go_ret
    refine ⟨ret_bool ?_, (by repeat (with_reducible first | exact Below.refl _ _ | exact bl_then (bl_alloc (Below.refl _ _) _) hbl | refine bl_alloc ?_ _ | refine bl_set ?_ (by dsimp only; omega) _))⟩
    go_tidy
    rw [HA.out]
    unfold noS
    clear hst hin
    grind [List.isEmpty_iff]
set_option maxRecDepth 100000 in
set_option maxHeartbeats 2000000 in
theorem specAsk_3 (a : PAsk) (w : World) (h1 : a.op = 3) (hz : a.nm.size ≤ 9223372036854775807) :
    Calls Tryz.prog 88 #[.agg #[.int .i64 a.op, .int .i64 a.n, .string a.nm, .int .i64 a.stop.kind, .int .i64 a.stop.fn, .int .i64 a.stop.line, .string a.stop.nm]] w fun e w' => e = .returned (.bool (askOk a)) ∧ Below w.heap.size w w' := by
  obtain ⟨op, n, nm, st⟩ := a
  simp only at h1 hz ⊢
  subst h1
  obtain ⟨c, hst⟩ : ∃ c, noStop st = c := ⟨_, rfl⟩
  obtain ⟨b, hin⟩ : ∃ b, inB n 0 0 = b := ⟨_, rfl⟩
  have HA : Hid (askOk ⟨3, n, nm, st⟩ = (decide (n = 0) && noS nm && c)) := Lib.hid (by unfold askOk; simp [hst, inB])
  go_enter Tryz.func88, Tryz.ntmps88
  go_wp2_with (first | (go_at_call 137; refine (l1in_is _ _ _ _ hin).mono ?_; rintro e w' ⟨rfl, rfl⟩) | (go_at_call 139; refine (l5stop_is st _ hst).mono ?_; rintro e w1 ⟨rfl, hbl⟩) | (go_at_call 138; refine (spec_StopOk_un st _ hst).mono ?_; rintro e w1 ⟨rfl, hbl⟩))
  all_goals
    go_ret
    refine ⟨ret_bool ?_, (by repeat (with_reducible first | exact Below.refl _ _ | exact bl_then (bl_alloc (Below.refl _ _) _) hbl | refine bl_alloc ?_ _ | refine bl_set ?_ (by dsimp only; omega) _))⟩
    go_tidy
    rw [HA.out]
    unfold noS
    clear hst hin
    grind [List.isEmpty_iff]
set_option maxRecDepth 100000 in
set_option maxHeartbeats 2000000 in
theorem specAsk_4 (a : PAsk) (w : World) (h1 : a.op = 4) (hz : a.nm.size ≤ 9223372036854775807) :
    Calls Tryz.prog 88 #[.agg #[.int .i64 a.op, .int .i64 a.n, .string a.nm, .int .i64 a.stop.kind, .int .i64 a.stop.fn, .int .i64 a.stop.line, .string a.stop.nm]] w fun e w' => e = .returned (.bool (askOk a)) ∧ Below w.heap.size w w' := by
  obtain ⟨op, n, nm, st⟩ := a
  simp only at h1 hz ⊢
  subst h1
  obtain ⟨c, hst⟩ : ∃ c, noStop st = c := ⟨_, rfl⟩
  obtain ⟨b, hin⟩ : ∃ b, inB n 0 0 = b := ⟨_, rfl⟩
  have HA : Hid (askOk ⟨4, n, nm, st⟩ = (decide (n = 0) && noS nm && c)) := Lib.hid (by unfold askOk; simp [hst, inB])
  go_enter Tryz.func88, Tryz.ntmps88
  go_wp2_with (first | (go_at_call 137; refine (l1in_is _ _ _ _ hin).mono ?_; rintro e w' ⟨rfl, rfl⟩) | (go_at_call 139; refine (l5stop_is st _ hst).mono ?_; rintro e w1 ⟨rfl, hbl⟩) | (go_at_call 138; refine (spec_StopOk_un st _ hst).mono ?_; rintro e w1 ⟨rfl, hbl⟩))
  all_goals
    go_ret
    refine ⟨ret_bool ?_, (by repeat (with_reducible first | exact Below.refl _ _ | exact bl_then (bl_alloc (Below.refl _ _) _) hbl | refine bl_alloc ?_ _ | refine bl_set ?_ (by dsimp only; omega) _))⟩
    go_tidy
    rw [HA.out]
    unfold noS
    clear hst hin
    grind [List.isEmpty_iff]
set_option maxRecDepth 100000 in
set_option maxHeartbeats 2000000 in
theorem specAsk_5 (a : PAsk) (w : World) (h1 : a.op = 5) (hz : a.nm.size ≤ 9223372036854775807) :
    Calls Tryz.prog 88 #[.agg #[.int .i64 a.op, .int .i64 a.n, .string a.nm, .int .i64 a.stop.kind, .int .i64 a.stop.fn, .int .i64 a.stop.line, .string a.stop.nm]] w fun e w' => e = .returned (.bool (askOk a)) ∧ Below w.heap.size w w' := by
  obtain ⟨op, n, nm, st⟩ := a
  simp only at h1 hz ⊢
  subst h1
  obtain ⟨c, hst⟩ : ∃ c, noStop st = c := ⟨_, rfl⟩
  obtain ⟨b, hin⟩ : ∃ b, inB n 0 0 = b := ⟨_, rfl⟩
  have HA : Hid (askOk ⟨5, n, nm, st⟩ = (decide (n = 0) && noS nm && c)) := Lib.hid (by unfold askOk; simp [hst, inB])
  go_enter Tryz.func88, Tryz.ntmps88
  go_wp2_with (first | (go_at_call 137; refine (l1in_is _ _ _ _ hin).mono ?_; rintro e w' ⟨rfl, rfl⟩) | (go_at_call 139; refine (l5stop_is st _ hst).mono ?_; rintro e w1 ⟨rfl, hbl⟩) | (go_at_call 138; refine (spec_StopOk_un st _ hst).mono ?_; rintro e w1 ⟨rfl, hbl⟩))
  all_goals
    go_ret
    refine ⟨ret_bool ?_, (by repeat (with_reducible first | exact Below.refl _ _ | exact bl_then (bl_alloc (Below.refl _ _) _) hbl | refine bl_alloc ?_ _ | refine bl_set ?_ (by dsimp only; omega) _))⟩
    go_tidy
    rw [HA.out]
    unfold noS
    clear hst hin
    grind [List.isEmpty_iff]
set_option maxRecDepth 100000 in
set_option maxHeartbeats 2000000 in
theorem specAsk_6 (a : PAsk) (w : World) (h1 : a.op = 6) (hz : a.nm.size ≤ 9223372036854775807) :
    Calls Tryz.prog 88 #[.agg #[.int .i64 a.op, .int .i64 a.n, .string a.nm, .int .i64 a.stop.kind, .int .i64 a.stop.fn, .int .i64 a.stop.line, .string a.stop.nm]] w fun e w' => e = .returned (.bool (askOk a)) ∧ Below w.heap.size w w' := by
  obtain ⟨op, n, nm, st⟩ := a
  simp only at h1 hz ⊢
  subst h1
  obtain ⟨c, hst⟩ : ∃ c, noStop st = c := ⟨_, rfl⟩
  obtain ⟨b, hin⟩ : ∃ b, inB n 0 0 = b := ⟨_, rfl⟩
  have HA : Hid (askOk ⟨6, n, nm, st⟩ = (decide (n = 0) && noS nm && c)) := Lib.hid (by unfold askOk; simp [hst, inB])
  go_enter Tryz.func88, Tryz.ntmps88
  go_wp2_with (first | (go_at_call 137; refine (l1in_is _ _ _ _ hin).mono ?_; rintro e w' ⟨rfl, rfl⟩) | (go_at_call 139; refine (l5stop_is st _ hst).mono ?_; rintro e w1 ⟨rfl, hbl⟩) | (go_at_call 138; refine (spec_StopOk_un st _ hst).mono ?_; rintro e w1 ⟨rfl, hbl⟩))
  all_goals
    go_ret
    refine ⟨ret_bool ?_, (by repeat (with_reducible first | exact Below.refl _ _ | exact bl_then (bl_alloc (Below.refl _ _) _) hbl | refine bl_alloc ?_ _ | refine bl_set ?_ (by dsimp only; omega) _))⟩
    go_tidy
    rw [HA.out]
    unfold noS
    clear hst hin
    grind [List.isEmpty_iff]
set_option maxRecDepth 100000 in
set_option maxHeartbeats 2000000 in
theorem specAsk_7 (a : PAsk) (w : World) (h1 : a.op = 7) (hz : a.nm.size ≤ 9223372036854775807) :
    Calls Tryz.prog 88 #[.agg #[.int .i64 a.op, .int .i64 a.n, .string a.nm, .int .i64 a.stop.kind, .int .i64 a.stop.fn, .int .i64 a.stop.line, .string a.stop.nm]] w fun e w' => e = .returned (.bool (askOk a)) ∧ Below w.heap.size w w' := by
  obtain ⟨op, n, nm, st⟩ := a
  simp only at h1 hz ⊢
  subst h1
  obtain ⟨c, hst⟩ : ∃ c, noStop st = c := ⟨_, rfl⟩
  obtain ⟨b, hin⟩ : ∃ b, inB n 0 0 = b := ⟨_, rfl⟩
  have HA : Hid (askOk ⟨7, n, nm, st⟩ = (decide (n = 0) && noS nm && c)) := Lib.hid (by unfold askOk; simp [hst, inB])
  go_enter Tryz.func88, Tryz.ntmps88
  go_wp2_with (first | (go_at_call 137; refine (l1in_is _ _ _ _ hin).mono ?_; rintro e w' ⟨rfl, rfl⟩) | (go_at_call 139; refine (l5stop_is st _ hst).mono ?_; rintro e w1 ⟨rfl, hbl⟩) | (go_at_call 138; refine (spec_StopOk_un st _ hst).mono ?_; rintro e w1 ⟨rfl, hbl⟩))
  all_goals
    go_ret
    refine ⟨ret_bool ?_, (by repeat (with_reducible first | exact Below.refl _ _ | exact bl_then (bl_alloc (Below.refl _ _) _) hbl | refine bl_alloc ?_ _ | refine bl_set ?_ (by dsimp only; omega) _))⟩
    go_tidy
    rw [HA.out]
    unfold noS
    clear hst hin
    grind [List.isEmpty_iff]
set_option maxRecDepth 100000 in
set_option maxHeartbeats 2000000 in
theorem specAsk_8 (a : PAsk) (w : World) (h1 : a.op = 8) (hz : a.nm.size ≤ 9223372036854775807) :
    Calls Tryz.prog 88 #[.agg #[.int .i64 a.op, .int .i64 a.n, .string a.nm, .int .i64 a.stop.kind, .int .i64 a.stop.fn, .int .i64 a.stop.line, .string a.stop.nm]] w fun e w' => e = .returned (.bool (askOk a)) ∧ Below w.heap.size w w' := by
  obtain ⟨op, n, nm, st⟩ := a
  simp only at h1 hz ⊢
  subst h1
  obtain ⟨c, hst⟩ : ∃ c, noStop st = c := ⟨_, rfl⟩
  obtain ⟨b, hin⟩ : ∃ b, inB n 0 0 = b := ⟨_, rfl⟩
  have HA : Hid (askOk ⟨8, n, nm, st⟩ = (decide (n = 0) && noS nm && c)) := Lib.hid (by unfold askOk; simp [hst, inB])
  go_enter Tryz.func88, Tryz.ntmps88
  go_wp2_with (first | (go_at_call 137; refine (l1in_is _ _ _ _ hin).mono ?_; rintro e w' ⟨rfl, rfl⟩) | (go_at_call 139; refine (l5stop_is st _ hst).mono ?_; rintro e w1 ⟨rfl, hbl⟩) | (go_at_call 138; refine (spec_StopOk_un st _ hst).mono ?_; rintro e w1 ⟨rfl, hbl⟩))
  all_goals
    go_ret
    refine ⟨ret_bool ?_, (by repeat (with_reducible first | exact Below.refl _ _ | exact bl_then (bl_alloc (Below.refl _ _) _) hbl | refine bl_alloc ?_ _ | refine bl_set ?_ (by dsimp only; omega) _))⟩
    go_tidy
    rw [HA.out]
    unfold noS
    clear hst hin
    grind [List.isEmpty_iff]
set_option maxRecDepth 100000 in
set_option maxHeartbeats 2000000 in
theorem specAsk_11 (a : PAsk) (w : World) (h1 : a.op = 11) (hz : a.nm.size ≤ 9223372036854775807) :
    Calls Tryz.prog 88 #[.agg #[.int .i64 a.op, .int .i64 a.n, .string a.nm, .int .i64 a.stop.kind, .int .i64 a.stop.fn, .int .i64 a.stop.line, .string a.stop.nm]] w fun e w' => e = .returned (.bool (askOk a)) ∧ Below w.heap.size w w' := by
  obtain ⟨op, n, nm, st⟩ := a
  simp only at h1 hz ⊢
  subst h1
  obtain ⟨c, hst⟩ : ∃ c, noStop st = c := ⟨_, rfl⟩
  obtain ⟨b, hin⟩ : ∃ b, inB n 0 0 = b := ⟨_, rfl⟩
  have HA : Hid (askOk ⟨11, n, nm, st⟩ = (decide (n = 0) && noS nm && c)) := Lib.hid (by unfold askOk; simp [hst, inB])
  go_enter Tryz.func88, Tryz.ntmps88
  go_wp2_with (first | (go_at_call 137; refine (l1in_is _ _ _ _ hin).mono ?_; rintro e w' ⟨rfl, rfl⟩) | (go_at_call 139; refine (l5stop_is st _ hst).mono ?_; rintro e w1 ⟨rfl, hbl⟩) | (go_at_call 138; refine (spec_StopOk_un st _ hst).mono ?_; rintro e w1 ⟨rfl, hbl⟩))
  all_goals
    go_ret
    refine ⟨ret_bool ?_, (by repeat (with_reducible first | exact Below.refl _ _ | exact bl_then (bl_alloc (Below.refl _ _) _) hbl | refine bl_alloc ?_ _ | refine bl_set ?_ (by dsimp only; omega) _))⟩
    go_tidy
    rw [HA.out]
    unfold noS
    clear hst hin
    grind [List.isEmpty_iff]
set_option maxRecDepth 100000 in
set_option maxHeartbeats 2000000 in
theorem specAsk_9 (a : PAsk) (w : World) (h1 : a.op = 9) (hz : a.nm.size ≤ 9223372036854775807) :
    Calls Tryz.prog 88 #[.agg #[.int .i64 a.op, .int .i64 a.n, .string a.nm, .int .i64 a.stop.kind, .int .i64 a.stop.fn, .int .i64 a.stop.line, .string a.stop.nm]] w fun e w' => e = .returned (.bool (askOk a)) ∧ Below w.heap.size w w' := by
  obtain ⟨op, n, nm, st⟩ := a
  simp only at h1 hz ⊢
  subst h1
  obtain ⟨c, hst⟩ : ∃ c, noStop st = c := ⟨_, rfl⟩
  obtain ⟨b, hin⟩ : ∃ b, inB n (-1) 3000 = b := ⟨_, rfl⟩
  have HA : Hid (askOk ⟨9, n, nm, st⟩ = (b && noS nm && c)) := Lib.hid (by unfold askOk; simp [hst, hin])
  go_enter Tryz.func88, Tryz.ntmps88
  go_wp2_with (first | (go_at_call 137; refine (l1in_is _ _ _ _ hin).mono ?_; rintro e w' ⟨rfl, rfl⟩) | (go_at_call 139; refine (l5stop_is st _ hst).mono ?_; rintro e w1 ⟨rfl, hbl⟩) | (go_at_call 138; refine (spec_StopOk_un st _ hst).mono ?_; rintro e w1 ⟨rfl, hbl⟩))
  all_goals
    go_ret
    refine ⟨ret_bool ?_, (by repeat (with_reducible first | exact Below.refl _ _ | exact bl_then (bl_alloc (Below.refl _ _) _) hbl | refine bl_alloc ?_ _ | refine bl_set ?_ (by dsimp only; omega) _))⟩
    go_tidy
    rw [HA.out]
    unfold noS
    clear hst hin
    grind [List.isEmpty_iff]
set_option maxRecDepth 100000 in
set_option maxHeartbeats 2000000 in
theorem specAsk_10 (a : PAsk) (w : World) (h1 : a.op = 10) (hz : a.nm.size ≤ 9223372036854775807) :
    Calls Tryz.prog 88 #[.agg #[.int .i64 a.op, .int .i64 a.n, .string a.nm, .int .i64 a.stop.kind, .int .i64 a.stop.fn, .int .i64 a.stop.line, .string a.stop.nm]] w fun e w' => e = .returned (.bool (askOk a)) ∧ Below w.heap.size w w' := by
  obtain ⟨op, n, nm, st⟩ := a
  simp only at h1 hz ⊢
  subst h1
  obtain ⟨c, hst⟩ : ∃ c, noStop st = c := ⟨_, rfl⟩
  obtain ⟨b, hin⟩ : ∃ b, inB n 0 100 = b := ⟨_, rfl⟩
  have HA : Hid (askOk ⟨10, n, nm, st⟩ = (b && noS nm && c)) := Lib.hid (by unfold askOk; simp [hst, hin])
  go_enter Tryz.func88, Tryz.ntmps88
  go_wp2_with (first | (go_at_call 137; refine (l1in_is _ _ _ _ hin).mono ?_; rintro e w' ⟨rfl, rfl⟩) | (go_at_call 139; refine (l5stop_is st _ hst).mono ?_; rintro e w1 ⟨rfl, hbl⟩) | (go_at_call 138; refine (spec_StopOk_un st _ hst).mono ?_; rintro e w1 ⟨rfl, hbl⟩))
  all_goals
    go_ret
    refine ⟨ret_bool ?_, (by repeat (with_reducible first | exact Below.refl _ _ | exact bl_then (bl_alloc (Below.refl _ _) _) hbl | refine bl_alloc ?_ _ | refine bl_set ?_ (by dsimp only; omega) _))⟩
    go_tidy
    rw [HA.out]
    unfold noS
    clear hst hin
    grind [List.isEmpty_iff]
set_option maxRecDepth 100000 in
set_option maxHeartbeats 2000000 in
theorem specAsk_12 (a : PAsk) (w : World) (h1 : a.op = 12) (hz : a.nm.size ≤ 9223372036854775807) :
    Calls Tryz.prog 88 #[.agg #[.int .i64 a.op, .int .i64 a.n, .string a.nm, .int .i64 a.stop.kind, .int .i64 a.stop.fn, .int .i64 a.stop.line, .string a.stop.nm]] w fun e w' => e = .returned (.bool (askOk a)) ∧ Below w.heap.size w w' := by
  obtain ⟨op, n, nm, st⟩ := a
  simp only at h1 hz ⊢
  subst h1
  obtain ⟨c, hst⟩ : ∃ c, noStop st = c := ⟨_, rfl⟩
  obtain ⟨b, hin⟩ : ∃ b, inB n 0 0 = b := ⟨_, rfl⟩
  have HA : Hid (askOk ⟨12, n, nm, st⟩ = (decide (n = 0) && decide (0 < nm.size) && decide (nm.size ≤ 40) && c)) := Lib.hid (by unfold askOk; simp [hst, inB]; grind)
  go_enter Tryz.func88, Tryz.ntmps88
  go_wp2_with (first | (go_at_call 137; refine (l1in_is _ _ _ _ hin).mono ?_; rintro e w' ⟨rfl, rfl⟩) | (go_at_call 139; refine (l5stop_is st _ hst).mono ?_; rintro e w1 ⟨rfl, hbl⟩) | (go_at_call 138; refine (spec_StopOk_un st _ hst).mono ?_; rintro e w1 ⟨rfl, hbl⟩))
  all_goals
    go_ret
    refine ⟨ret_bool ?_, (by repeat (with_reducible first | exact Below.refl _ _ | exact bl_then (bl_alloc (Below.refl _ _) _) hbl | refine bl_alloc ?_ _ | refine bl_set ?_ (by dsimp only; omega) _))⟩
    go_tidy
    have hA := HA.out
    clear HA hst hin
    grind
set_option maxRecDepth 100000 in
set_option maxHeartbeats 2000000 in
theorem specAsk_else (a : PAsk) (w : World) (h1 : ¬ (1 ≤ a.op ∧ a.op ≤ 13)) (hz : a.nm.size ≤ 9223372036854775807) :
    Calls Tryz.prog 88 #[.agg #[.int .i64 a.op, .int .i64 a.n, .string a.nm, .int .i64 a.stop.kind, .int .i64 a.stop.fn, .int .i64 a.stop.line, .string a.stop.nm]] w fun e w' => e = .returned (.bool (askOk a)) ∧ Below w.heap.size w w' := by
  obtain ⟨op, n, nm, st⟩ := a
  simp only at h1 hz ⊢
  have q1 : (op == 1) = false := by rw [beq_eq_false_iff_ne]; omega
  have q2 : (op == 2) = false := by rw [beq_eq_false_iff_ne]; omega
  have q3 : (op == 3) = false := by rw [beq_eq_false_iff_ne]; omega
  have q4 : (op == 4) = false := by rw [beq_eq_false_iff_ne]; omega
  have q5 : (op == 5) = false := by rw [beq_eq_false_iff_ne]; omega
  have q6 : (op == 6) = false := by rw [beq_eq_false_iff_ne]; omega
  have q7 : (op == 7) = false := by rw [beq_eq_false_iff_ne]; omega
  have q8 : (op == 8) = false := by rw [beq_eq_false_iff_ne]; omega
  have q9 : (op == 9) = false := by rw [beq_eq_false_iff_ne]; omega
  have q10 : (op == 10) = false := by rw [beq_eq_false_iff_ne]; omega
  have q11 : (op == 11) = false := by rw [beq_eq_false_iff_ne]; omega
  have q12 : (op == 12) = false := by rw [beq_eq_false_iff_ne]; omega
  have q13 : (op == 13) = false := by rw [beq_eq_false_iff_ne]; omega
  have HA : Hid (askOk ⟨op, n, nm, st⟩ = false) := Lib.hid (by
    cases h : askOk ⟨op, n, nm, st⟩ with
    | false => rfl
    | true => exact absurd (askOk_op h) h1)
  clear h1 hz
  go_enter Tryz.func88, Tryz.ntmps88
  go_wp2_with fail
  go_ret
  exact ⟨ret_bool HA.out.symm, bl_alloc (Below.refl _ _) _⟩
theorem l5askOk_calls (a : PAsk) (w : World) (hz : a.nm.size ≤ 9223372036854775807) :
    Calls Tryz.prog 88 #[.agg #[.int .i64 a.op, .int .i64 a.n, .string a.nm, .int .i64 a.stop.kind, .int .i64 a.stop.fn, .int .i64 a.stop.line, .string a.stop.nm]] w fun e w' => e = .returned (.bool (askOk a)) ∧ Below w.heap.size w w' := by
  by_cases h : 1 ≤ a.op ∧ a.op ≤ 13
  · have hc : a.op = 1 ∨ a.op = 2 ∨ a.op = 3 ∨ a.op = 4 ∨ a.op = 5 ∨ a.op = 6 ∨ a.op = 7 ∨ a.op = 8 ∨ a.op = 9 ∨ a.op = 10 ∨ a.op = 11 ∨ a.op = 12 ∨ a.op = 13 := by omega
    rcases hc with h | h | h | h | h | h | h | h | h | h | h | h | h
    · exact specAsk_1 a w h hz
    · exact specAsk_2 a w h hz
    · exact specAsk_3 a w h hz
    · exact specAsk_4 a w h hz
    · exact specAsk_5 a w h hz
    · exact specAsk_6 a w h hz
    · exact specAsk_7 a w h hz
    · exact specAsk_8 a w h hz
    · exact specAsk_9 a w h hz
    · exact specAsk_10 a w h hz
    · exact specAsk_11 a w h hz
    · exact specAsk_12 a w h hz
    · exact specAsk_13 a w h hz
  · exact specAsk_else a w h hz
end Go.Proofs.YtcklnjjbhngbcaaGreatDoor
