/- Lemmas and contracts of functions that the theorem of this claim leans on (texts T3). -/
import Derived.Test.YtcklnjjbhngbcaaGreatDoorRowLkz28
namespace Go.Proofs.YtcklnjjbhngbcaaGreatDoor
open Go.RowKit Go.Proofs.Lens


set_option maxRecDepth 100000 in
set_option maxHeartbeats 2000000 in
theorem move_nil (lo g T : Nat) (s : PS) (f : Nat → Value) (m : PMom) (Av : Option Addr) (nv cv : Nat) (k : Nat) (w : World) (h : IsS w lo g T s f) (hlo : 0 ≤ s.cur) (hhi : s.cur ≤ 100) (hk7 : m.kind ≠ 7) (hk2 : m.kind ≠ 2) (htask : m.task = s.cur) (hs : s.top = []) :
    Calls Tryz.prog 77 #[.pointer (some ⟨g, 0, none⟩), .agg #[.int .i64 m.kind, .int .i64 m.task, .int .i64 m.fn, .int .i64 m.line, .string m.text, .slice Av nv cv], .int .i64 k] w fun e w' =>
      e = .returned (.int .i64 (checkP s m)) ∧ Mv sTys lo w w' ∧ (checkP s m = 0 → ∃ f', IsS w' lo g T (stepP s m k) f') := by
  have hgw := h.blk.lt
  have hTw := h.tb.lt
  have hl1 := h.lo1
  have hl2 := h.lo2
  have hgT : g ≠ T := h.blk.ne h.tb (by decide)
  have H := Lib.hid h
  have hx : s.cur < 101 := by omega
  have hd : (m.kind == 7) = false := by simp [hk7]
  have hd1 : (m.task != s.cur) = false := by simp [htask]
  have hd2 : (m.kind == 2) = false := by simp [hk2]
  have HS := Lib.hid hs
  obtain ⟨A, cap, c0, c1, -, -, -, -, -⟩ := h.heads hlo hhi
  have hfn : fnP s = 0 := by unfold fnP; rw [hs]
  have e : checkP s m = if m.fn ≠ 0 ∨ m.kind = 1 ∨ m.kind = 3 then 4 else 0 := by unfold checkP; rw [if_neg hk7, if_neg (by omega), if_neg hk2, hs]
  have e2 : m.kind ≠ 1 → m.kind ≠ 3 → stepP s m k = s := fun h1 h3 => by unfold stepP; rw [if_neg hk7, if_neg hk2, if_neg h3, if_neg h1]
  have HE := Lib.hid e
  have HE2 := Lib.hid e2
  have HH := Lib.hid (And.intro hk7 hk2)
  clear h hk7 hk2 htask hs e e2
  by_cases hf : m.fn = 0
  · have hdf : (m.fn != fnP s) = false := by rw [hfn]; simp [hf]
    have HF := Lib.hid hf
    clear hf hfn
    by_cases hk1 : m.kind = 1
    · have hd4 : (m.kind == 1) = true := by simp [hk1]
      have HK1 := Lib.hid hk1
      clear hk1
      go_enter Tryz.func77, Tryz.ntmps77
      go_wp2_with (first | (go_at_call 84; refine (top_nil lo g T s f _ (H.out.later (by repeat (with_reducible first | exact Below.refl _ _ | exact HL.out | refine bl_drewN ?_ _ | refine bl_drew ?_ | refine bl_alloc ?_ _ | refine bl_set ?_ (by dsimp only; omega) _))) hlo hhi HS.out).mono ?_; rintro e w1 ⟨rfl, m', rfl⟩) | go_quiet (fail) | go_quiet ((go_at_call 82; exact quiet_joined (fn_calls lo g T s f _ (H.out.later (by repeat (with_reducible first | exact Below.refl _ _ | exact HL.out | refine bl_drewN ?_ _ | refine bl_drew ?_ | refine bl_alloc ?_ _ | refine bl_set ?_ (by dsimp only; omega) _))) hlo hhi))))
      go_ret
      have e : checkP s m = 4 := by rw [HE.out, if_pos (.inr (.inl HK1.out))]
      exact ⟨ret_int e.symm, (by repeat (first | exact Mv.refl _ _ _ | refine Mv.drewN ?_ _ | refine Mv.drew ?_ | refine Mv.alloc ?_ (by first | omega | (simp; omega)) _)), fun hh => by rw [e] at hh; cases hh⟩
    · have hd4 : (m.kind == 1) = false := by simp [hk1]
      by_cases hk3 : m.kind = 3
      · have hd5 : (m.kind == 3) = true := by simp [hk3]
        have HK3 := Lib.hid hk3
        clear hk1 hk3
        go_enter Tryz.func77, Tryz.ntmps77
        go_wp2_with (first | (go_at_call 84; refine (top_nil lo g T s f _ (H.out.later (by repeat (with_reducible first | exact Below.refl _ _ | exact HL.out | refine bl_drewN ?_ _ | refine bl_drew ?_ | refine bl_alloc ?_ _ | refine bl_set ?_ (by dsimp only; omega) _))) hlo hhi HS.out).mono ?_; rintro e w1 ⟨rfl, m', rfl⟩) | go_quiet (fail) | go_quiet ((go_at_call 82; exact quiet_joined (fn_calls lo g T s f _ (H.out.later (by repeat (with_reducible first | exact Below.refl _ _ | exact HL.out | refine bl_drewN ?_ _ | refine bl_drew ?_ | refine bl_alloc ?_ _ | refine bl_set ?_ (by dsimp only; omega) _))) hlo hhi))))
        go_ret
        have e : checkP s m = 4 := by rw [HE.out, if_pos (.inr (.inr HK3.out))]
        exact ⟨ret_int e.symm, (by repeat (first | exact Mv.refl _ _ _ | refine Mv.drewN ?_ _ | refine Mv.drew ?_ | refine Mv.alloc ?_ (by first | omega | (simp; omega)) _)), fun hh => by rw [e] at hh; cases hh⟩
      · have hd5 : (m.kind == 3) = false := by simp [hk3]
        have HK := Lib.hid (And.intro hk1 hk3)
        clear hk1 hk3
        go_enter Tryz.func77, Tryz.ntmps77
        go_wp2_with (first | (go_at_call 84; refine (top_nil lo g T s f _ (H.out.later (by repeat (with_reducible first | exact Below.refl _ _ | exact HL.out | refine bl_drewN ?_ _ | refine bl_drew ?_ | refine bl_alloc ?_ _ | refine bl_set ?_ (by dsimp only; omega) _))) hlo hhi HS.out).mono ?_; rintro e w1 ⟨rfl, m', rfl⟩) | go_quiet (fail) | go_quiet ((go_at_call 82; exact quiet_joined (fn_calls lo g T s f _ (H.out.later (by repeat (with_reducible first | exact Below.refl _ _ | exact HL.out | refine bl_drewN ?_ _ | refine bl_drew ?_ | refine bl_alloc ?_ _ | refine bl_set ?_ (by dsimp only; omega) _))) hlo hhi))))
        go_ret
        have e : checkP s m = 0 := by rw [HE.out, if_neg]; have := HK.out; have := HF.out; omega
        rw [HE2.out HK.out.1 HK.out.2]
        exact ⟨ret_int e.symm, (by repeat (first | exact Mv.refl _ _ _ | refine Mv.drewN ?_ _ | refine Mv.drew ?_ | refine Mv.alloc ?_ (by first | omega | (simp; omega)) _)), fun _ => ⟨f, H.out.later (by repeat (with_reducible first | exact Below.refl _ _ | exact HL.out | refine bl_drewN ?_ _ | refine bl_drew ?_ | refine bl_alloc ?_ _ | refine bl_set ?_ (by dsimp only; omega) _))⟩⟩
  · have hdf : (m.fn != fnP s) = true := by rw [hfn]; simp [hf]
    have HF := Lib.hid hf
    clear hf hfn
    go_enter Tryz.func77, Tryz.ntmps77
    go_wp2_with (first | (go_at_call 84; refine (top_nil lo g T s f _ (H.out.later (by repeat (with_reducible first | exact Below.refl _ _ | exact HL.out | refine bl_drewN ?_ _ | refine bl_drew ?_ | refine bl_alloc ?_ _ | refine bl_set ?_ (by dsimp only; omega) _))) hlo hhi HS.out).mono ?_; rintro e w1 ⟨rfl, m', rfl⟩) | go_quiet (fail) | go_quiet ((go_at_call 82; exact quiet_joined (fn_calls lo g T s f _ (H.out.later (by repeat (with_reducible first | exact Below.refl _ _ | exact HL.out | refine bl_drewN ?_ _ | refine bl_drew ?_ | refine bl_alloc ?_ _ | refine bl_set ?_ (by dsimp only; omega) _))) hlo hhi))))
    go_ret
    have e : checkP s m = 4 := by rw [HE.out, if_pos (.inl HF.out)]
    exact ⟨ret_int e.symm, (by repeat (first | exact Mv.refl _ _ _ | refine Mv.drewN ?_ _ | refine Mv.drew ?_ | refine Mv.alloc ?_ (by first | omega | (simp; omega)) _)), fun hh => by rw [e] at hh; cases hh⟩


set_option maxRecDepth 100000 in
set_option maxHeartbeats 2000000 in
theorem move_wrongfn (lo g T : Nat) (s : PS) (f : Nat → Value) (m : PMom) (Av : Option Addr) (nv cv : Nat) (k : Nat) (w : World) (h : IsS w lo g T s f) (hlo : 0 ≤ s.cur) (hhi : s.cur ≤ 100) (hk7 : m.kind ≠ 7) (hk2 : m.kind ≠ 2) (htask : m.task = s.cur) {fr : PFr} {r : List PFr} (hs : s.top = fr :: r) (hf : m.fn ≠ fr.fn) :
    Calls Tryz.prog 77 #[.pointer (some ⟨g, 0, none⟩), .agg #[.int .i64 m.kind, .int .i64 m.task, .int .i64 m.fn, .int .i64 m.line, .string m.text, .slice Av nv cv], .int .i64 k] w fun e w' =>
      e = .returned (.int .i64 (checkP s m)) ∧ Mv sTys lo w w' ∧ (checkP s m = 0 → ∃ f', IsS w' lo g T (stepP s m k) f') := by
  have hgw := h.blk.lt
  have hTw := h.tb.lt
  have hl1 := h.lo1
  have hl2 := h.lo2
  have hgT : g ≠ T := h.blk.ne h.tb (by decide)
  have H := Lib.hid h
  have hx : s.cur < 101 := by omega
  have hd : (m.kind == 7) = false := by simp [hk7]
  have hd1 : (m.task != s.cur) = false := by simp [htask]
  have hd2 : (m.kind == 2) = false := by simp [hk2]
  have HS := Lib.hid hs
  obtain ⟨b, cap, c0, c1, c2, hc1, hc2, hv, hrow, d0, d1, d2, hfz, hb1, hb2, hb3, hb4⟩ := h.tops hlo hhi hs
  have hfn : fnP s = fr.fn := by unfold fnP; rw [hs]
  have e : checkP s m = if m.fn ≠ fr.fn ∨ (m.kind = 3 ∧ fr.frm = -1) then 4 else 0 := by unfold checkP; rw [if_neg hk7, if_neg (by omega), if_neg hk2, hs]
  have HE := Lib.hid e
  have HH := Lib.hid (And.intro hk7 hk2)
  have HV := Lib.hid hv
  have HR := Lib.hid hrow
  have HFZ := Lib.hid hfz
  have hi0 : (0 : Int) ≤ (r.length : Int) := by omega
  have hi1 : (r.length : Int) < ((r.length + 1 : Nat) : Int) := by omega
  have hi2 : ((r.length : Int) < 0) ↔ False := by simp
  have hi3 : (r.length : Int).toNat = r.length := by simp
  have hdf : (m.fn != fnP s) = true := by rw [hfn]; simp [hf]
  have HF := Lib.hid hf
  clear hf hfn
  clear h hk7 hk2 htask hs e hv hrow hfz hc1 hc2
  go_enter Tryz.func77, Tryz.ntmps77
  go_wp2_with (first | (go_at_call 84; refine (top_cons lo g T s f _ (H.out.later (by repeat (with_reducible first | exact Below.refl _ _ | exact HL.out | refine bl_drewN ?_ _ | refine bl_drew ?_ | refine bl_alloc ?_ _ | refine bl_set ?_ (by dsimp only; omega) _))) hlo hhi HS.out).mono ?_; rintro e w1 ⟨rfl, m', rfl⟩) | go_quiet (fail) | go_quiet ((go_at_call 82; exact quiet_joined (fn_calls lo g T s f _ (H.out.later (by repeat (with_reducible first | exact Below.refl _ _ | exact HL.out | refine bl_drewN ?_ _ | refine bl_drew ?_ | refine bl_alloc ?_ _ | refine bl_set ?_ (by dsimp only; omega) _))) hlo hhi))))
  go_ret
  have e : checkP s m = 4 := by rw [HE.out, if_pos (.inl HF.out)]
  exact ⟨ret_int e.symm, (by repeat (first | exact Mv.refl _ _ _ | refine Mv.drewN ?_ _ | refine Mv.drew ?_ | refine Mv.alloc ?_ (by first | omega | (simp; omega)) _)), fun hh => by rw [e] at hh; cases hh⟩


set_option maxRecDepth 100000 in
set_option maxHeartbeats 2000000 in
theorem move_still (lo g T : Nat) (s : PS) (f : Nat → Value) (m : PMom) (Av : Option Addr) (nv cv : Nat) (k : Nat) (w : World) (h : IsS w lo g T s f) (hlo : 0 ≤ s.cur) (hhi : s.cur ≤ 100) (hk7 : m.kind ≠ 7) (hk2 : m.kind ≠ 2) (htask : m.task = s.cur) {fr : PFr} {r : List PFr} (hs : s.top = fr :: r) (hf : m.fn = fr.fn) (hk1 : m.kind ≠ 1) (hk3 : m.kind ≠ 3) :
    Calls Tryz.prog 77 #[.pointer (some ⟨g, 0, none⟩), .agg #[.int .i64 m.kind, .int .i64 m.task, .int .i64 m.fn, .int .i64 m.line, .string m.text, .slice Av nv cv], .int .i64 k] w fun e w' =>
      e = .returned (.int .i64 (checkP s m)) ∧ Mv sTys lo w w' ∧ (checkP s m = 0 → ∃ f', IsS w' lo g T (stepP s m k) f') := by
  have hgw := h.blk.lt
  have hTw := h.tb.lt
  have hl1 := h.lo1
  have hl2 := h.lo2
  have hgT : g ≠ T := h.blk.ne h.tb (by decide)
  have H := Lib.hid h
  have hx : s.cur < 101 := by omega
  have hd : (m.kind == 7) = false := by simp [hk7]
  have hd1 : (m.task != s.cur) = false := by simp [htask]
  have hd2 : (m.kind == 2) = false := by simp [hk2]
  have HS := Lib.hid hs
  obtain ⟨b, cap, c0, c1, c2, hc1, hc2, hv, hrow, d0, d1, d2, hfz, hb1, hb2, hb3, hb4⟩ := h.tops hlo hhi hs
  have hfn : fnP s = fr.fn := by unfold fnP; rw [hs]
  have e : checkP s m = if m.fn ≠ fr.fn ∨ (m.kind = 3 ∧ fr.frm = -1) then 4 else 0 := by unfold checkP; rw [if_neg hk7, if_neg (by omega), if_neg hk2, hs]
  have HE := Lib.hid e
  have HH := Lib.hid (And.intro hk7 hk2)
  have HV := Lib.hid hv
  have HR := Lib.hid hrow
  have HFZ := Lib.hid hfz
  have hi0 : (0 : Int) ≤ (r.length : Int) := by omega
  have hi1 : (r.length : Int) < ((r.length + 1 : Nat) : Int) := by omega
  have hi2 : ((r.length : Int) < 0) ↔ False := by simp
  have hi3 : (r.length : Int).toNat = r.length := by simp
  have hdf : (m.fn != fnP s) = false := by rw [hfn]; simp [hf]
  have hd4 : (m.kind == 1) = false := by simp [hk1]
  have hd5 : (m.kind == 3) = false := by simp [hk3]
  have HF := Lib.hid hf
  have HK := Lib.hid (And.intro hk1 hk3)
  clear hf hfn hk1 hk3
  clear h hk7 hk2 htask hs e hv hrow hfz hc1 hc2
  go_enter Tryz.func77, Tryz.ntmps77
  go_wp2_with (first | (go_at_call 84; refine (top_cons lo g T s f _ (H.out.later (by repeat (with_reducible first | exact Below.refl _ _ | exact HL.out | refine bl_drewN ?_ _ | refine bl_drew ?_ | refine bl_alloc ?_ _ | refine bl_set ?_ (by dsimp only; omega) _))) hlo hhi HS.out).mono ?_; rintro e w1 ⟨rfl, m', rfl⟩) | go_quiet (fail) | go_quiet ((go_at_call 82; exact quiet_joined (fn_calls lo g T s f _ (H.out.later (by repeat (with_reducible first | exact Below.refl _ _ | exact HL.out | refine bl_drewN ?_ _ | refine bl_drew ?_ | refine bl_alloc ?_ _ | refine bl_set ?_ (by dsimp only; omega) _))) hlo hhi))))
  go_ret
  have e : checkP s m = 0 := by rw [HE.out, if_neg]; have := HK.out; have := HF.out; omega
  have e2 : stepP s m k = s := by unfold stepP; rw [if_neg HH.out.1, if_neg HH.out.2, if_neg HK.out.2, if_neg HK.out.1]
  rw [e2]
  exact ⟨ret_int e.symm, (by repeat (first | exact Mv.refl _ _ _ | refine Mv.drewN ?_ _ | refine Mv.drew ?_ | refine Mv.alloc ?_ (by first | omega | (simp; omega)) _)), fun _ => ⟨f, H.out.later (by repeat (with_reducible first | exact Below.refl _ _ | exact HL.out | refine bl_drewN ?_ _ | refine bl_drew ?_ | refine bl_alloc ?_ _ | refine bl_set ?_ (by dsimp only; omega) _))⟩⟩


set_option maxRecDepth 100000 in
set_option maxHeartbeats 2000000 in
theorem move_text (lo g T : Nat) (s : PS) (f : Nat → Value) (m : PMom) (Av : Option Addr) (nv cv : Nat) (k : Nat) (w : World) (h : IsS w lo g T s f) (hlo : 0 ≤ s.cur) (hhi : s.cur ≤ 100) (hk7 : m.kind ≠ 7) (hk2 : m.kind ≠ 2) (htask : m.task = s.cur) {fr : PFr} {r : List PFr} (hs : s.top = fr :: r) (hf : m.fn = fr.fn) (hk3 : m.kind = 3) (hfr : fr.frm = -1) :
    Calls Tryz.prog 77 #[.pointer (some ⟨g, 0, none⟩), .agg #[.int .i64 m.kind, .int .i64 m.task, .int .i64 m.fn, .int .i64 m.line, .string m.text, .slice Av nv cv], .int .i64 k] w fun e w' =>
      e = .returned (.int .i64 (checkP s m)) ∧ Mv sTys lo w w' ∧ (checkP s m = 0 → ∃ f', IsS w' lo g T (stepP s m k) f') := by
  have hgw := h.blk.lt
  have hTw := h.tb.lt
  have hl1 := h.lo1
  have hl2 := h.lo2
  have hgT : g ≠ T := h.blk.ne h.tb (by decide)
  have H := Lib.hid h
  have hx : s.cur < 101 := by omega
  have hd : (m.kind == 7) = false := by simp [hk7]
  have hd1 : (m.task != s.cur) = false := by simp [htask]
  have hd2 : (m.kind == 2) = false := by simp [hk2]
  have HS := Lib.hid hs
  obtain ⟨b, cap, c0, c1, c2, hc1, hc2, hv, hrow, d0, d1, d2, hfz, hb1, hb2, hb3, hb4⟩ := h.tops hlo hhi hs
  have hfn : fnP s = fr.fn := by unfold fnP; rw [hs]
  have e : checkP s m = if m.fn ≠ fr.fn ∨ (m.kind = 3 ∧ fr.frm = -1) then 4 else 0 := by unfold checkP; rw [if_neg hk7, if_neg (by omega), if_neg hk2, hs]
  have HE := Lib.hid e
  have HH := Lib.hid (And.intro hk7 hk2)
  have HV := Lib.hid hv
  have HR := Lib.hid hrow
  have HFZ := Lib.hid hfz
  have hi0 : (0 : Int) ≤ (r.length : Int) := by omega
  have hi1 : (r.length : Int) < ((r.length + 1 : Nat) : Int) := by omega
  have hi2 : ((r.length : Int) < 0) ↔ False := by simp
  have hi3 : (r.length : Int).toNat = r.length := by simp
  have hdf : (m.fn != fnP s) = false := by rw [hfn]; simp [hf]
  have hd4 : (m.kind == 1) = false := by simp [hk3]
  have hd5 : (m.kind == 3) = true := by simp [hk3]
  have HF := Lib.hid hf
  have HK := Lib.hid (And.intro hk3 hfr)
  rw [hfr] at d2
  clear hf hfn hk3 hfr
  clear h hk7 hk2 htask hs e hv hrow hfz hc1 hc2
  go_enter Tryz.func77, Tryz.ntmps77
  go_wp2_with (first | (go_at_call 84; refine (top_cons lo g T s f _ (H.out.later (by repeat (with_reducible first | exact Below.refl _ _ | exact HL.out | refine bl_drewN ?_ _ | refine bl_drew ?_ | refine bl_alloc ?_ _ | refine bl_set ?_ (by dsimp only; omega) _))) hlo hhi HS.out).mono ?_; rintro e w1 ⟨rfl, m', rfl⟩) | go_quiet (fail) | go_quiet ((go_at_call 82; exact quiet_joined (fn_calls lo g T s f _ (H.out.later (by repeat (with_reducible first | exact Below.refl _ _ | exact HL.out | refine bl_drewN ?_ _ | refine bl_drew ?_ | refine bl_alloc ?_ _ | refine bl_set ?_ (by dsimp only; omega) _))) hlo hhi))))
  go_ret
  have e : checkP s m = 4 := by rw [HE.out, if_pos (.inr HK.out)]
  exact ⟨ret_int e.symm, (by repeat (first | exact Mv.refl _ _ _ | refine Mv.drewN ?_ _ | refine Mv.drew ?_ | refine Mv.alloc ?_ (by first | omega | (simp; omega)) _)), fun hh => by rw [e] at hh; cases hh⟩

end Go.Proofs.YtcklnjjbhngbcaaGreatDoor
