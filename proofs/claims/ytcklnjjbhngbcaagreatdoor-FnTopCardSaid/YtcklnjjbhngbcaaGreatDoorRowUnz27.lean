/- Lemmas and contracts of functions that the theorem of this claim leans on (texts T3, T4). -/
import Derived.Test.YtcklnjjbhngbcaaGreatDoorRowUnz26
namespace Go.Proofs.YtcklnjjbhngbcaaGreatDoor
open Go.RowKit Go.Proofs.Lens


set_option maxRecDepth 100000 in
set_option maxHeartbeats 2000000 in
theorem move_nil (lo g T : Nat) (s : PS) (f : Nat → Value) (m : PMom) (Av : Option Addr) (nv cv : Nat) (k : Nat) (w : World) (h : IsS w lo g T s f) (hlo : 0 ≤ s.cur) (hhi : s.cur ≤ 100) (hk7 : m.kind ≠ 7) (hk2 : m.kind ≠ 2) (htask : m.task = s.cur) (hs : s.top = []) :
    Calls Tryz.prog 77 #[.pointer (some ⟨g, 0, none⟩), .agg #[.int .i64 m.kind, .int .i64 m.task, .int .i64 m.fn, .int .i64 m.line, .string m.text, .slice Av nv cv], .int .i64 k] w fun e w' =>
      e = .returned (.int .i64 (checkP s m)) ∧ Mv sTys lo w w' ∧ (checkP s m = 0 → ∃ f', IsS w' lo g T (stepP s m k) f') := by
  have hgw := h.blk.lt
  have hTw := h.tb.lt
  have hl1 := h.lo1
  have hl2 := h.lo2
  have hgT : g ≠ T := h.blk.ne h.tb (by decide)
  have H := Lib.hid h
  have hx : s.cur < 101 := by omega
  have hd : (m.kind == 7) = false := by simp [hk7]
  have hd1 : (m.task != s.cur) = false := by simp [htask]
  have hd2 : (m.kind == 2) = false := by simp [hk2]
  have HS := Lib.hid hs
  obtain ⟨A, cap, c0, c1, -, -, -, -, -⟩ := h.heads hlo hhi
  have hfn : fnP s = 0 := by unfold fnP; rw [hs]
  have e : checkP s m = if m.fn ≠ 0 ∨ m.kind = 1 ∨ m.kind = 3 then 4 else 0 := by unfold checkP; rw [if_neg hk7, if_neg (by omega), if_neg hk2, hs]
  have e2 : m.kind ≠ 1 → m.kind ≠ 3 → stepP s m k = s := fun h1 h3 => by unfold stepP; rw [if_neg hk7, if_neg hk2, if_neg h3, if_neg h1]
  have HE := Lib.hid e
  have HE2 := Lib.hid e2
  have HH := Lib.hid (And.intro hk7 hk2)
  clear h hk7 hk2 htask hs e e2
  by_cases hf : m.fn = 0
  · have hdf : (m.fn != fnP s) = false := by rw [hfn]; simp [hf]
    have HF := Lib.hid hf
    clear hf hfn
    by_cases hk1 : m.kind = 1
    · have hd4 : (m.kind == 1) = true := by simp [hk1]
      have HK1 := Lib.hid hk1
      clear hk1
      go_enter Tryz.func77, Tryz.ntmps77
      go_wp2_with (first | (go_at_call 84; refine (top_nil lo g T s f _ (H.out.later (by repeat (with_reducible first | exact Below.refl _ _ | exact HL.out | refine bl_drewN ?_ _ | refine bl_drew ?_ | refine bl_alloc ?_ _ | refine bl_set ?_ (by dsimp only; omega) _))) hlo hhi HS.out).mono ?_; rintro e w1 ⟨rfl, m', rfl⟩) | go_quiet (fail) | go_quiet ((go_at_call 82; exact quiet_joined (fn_calls lo g T s f _ (H.out.later (by repeat (with_reducible first | exact Below.refl _ _ | exact HL.out | refine bl_drewN ?_ _ | refine bl_drew ?_ | refine bl_alloc ?_ _ | refine bl_set ?_ (by dsimp only; omega) _))) hlo hhi))))
      go_ret
      have e : checkP s m = 4 := by rw [HE.out, if_pos (.inr (.inl HK1.out))]
      exact ⟨ret_int e.symm, (by repeat (first | exact Mv.refl _ _ _ | refine Mv.drewN ?_ _ | refine Mv.drew ?_ | refine Mv.alloc ?_ (by first | omega | (simp; omega)) _)), fun hh => by rw [e] at hh; cases hh⟩
    · have hd4 : (m.kind == 1) = false := by simp [hk1]
      by_cases hk3 : m.kind = 3
      · have hd5 : (m.kind == 3) = true := by simp [hk3]
        have HK3 := Lib.hid hk3
        clear hk1 hk3
        go_enter Tryz.func77, Tryz.ntmps77
        go_wp2_with (first | (go_at_call 84; refine (top_nil lo g T s f _ (H.out.later (by repeat (with_reducible first | exact Below.refl _ _ | exact HL.out | refine bl_drewN ?_ _ | refine bl_drew ?_ | refine bl_alloc ?_ _ | refine bl_set ?_ (by dsimp only; omega) _))) hlo hhi HS.out).mono ?_; rintro e w1 ⟨rfl, m', rfl⟩) | go_quiet (fail) | go_quiet ((go_at_call 82; exact quiet_joined (fn_calls lo g T s f _ (H.out.later (by repeat (with_reducible first | exact Below.refl _ _ | exact HL.out | refine bl_drewN ?_ _ | refine bl_drew ?_ | refine bl_alloc ?_ _ | refine bl_set ?_ (by dsimp only; omega) _))) hlo hhi))))
        go_ret
        have e : checkP s m = 4 := by rw [HE.out, if_pos (.inr (.inr HK3.out))]
        exact ⟨ret_int e.symm, (by repeat (first | exact Mv.refl _ _ _ | refine Mv.drewN ?_ _ | refine Mv.drew ?_ | refine Mv.alloc ?_ (by first | omega | (simp; omega)) _)), fun hh => by rw [e] at hh; cases hh⟩
      · have hd5 : (m.kind == 3) = false := by simp [hk3]
        have HK := Lib.hid (And.intro hk1 hk3)
        clear hk1 hk3
        go_enter Tryz.func77, Tryz.ntmps77
        go_wp2_with (first | (go_at_call 84; refine (top_nil lo g T s f _ (H.out.later (by repeat (with_reducible first | exact Below.refl _ _ | exact HL.out | refine bl_drewN ?_ _ | refine bl_drew ?_ | refine bl_alloc ?_ _ | refine bl_set ?_ (by dsimp only; omega) _))) hlo hhi HS.out).mono ?_; rintro e w1 ⟨rfl, m', rfl⟩) | go_quiet (fail) | go_quiet ((go_at_call 82; exact quiet_joined (fn_calls lo g T s f _ (H.out.later (by repeat (with_reducible first | exact Below.refl _ _ | exact HL.out | refine bl_drewN ?_ _ | refine bl_drew ?_ | refine bl_alloc ?_ _ | refine bl_set ?_ (by dsimp only; omega) _))) hlo hhi))))
        go_ret
        have e : checkP s m = 0 := by rw [HE.out, if_neg]; have := HK.out; have := HF.out; omega
        rw [HE2.out HK.out.1 HK.out.2]
        exact ⟨ret_int e.symm, (by repeat (first | exact Mv.refl _ _ _ | refine Mv.drewN ?_ _ | refine Mv.drew ?_ | refine Mv.alloc ?_ (by first | omega | (simp; omega)) _)), fun _ => ⟨f, H.out.later (by repeat (with_reducible first | exact Below.refl _ _ | exact HL.out | refine bl_drewN ?_ _ | refine bl_drew ?_ | refine bl_alloc ?_ _ | refine bl_set ?_ (by dsimp only; omega) _))⟩⟩
  · have hdf : (m.fn != fnP s) = true := by rw [hfn]; simp [hf]
    have HF := Lib.hid hf
    clear hf hfn
    go_enter Tryz.func77, Tryz.ntmps77
    go_wp2_with (first | (go_at_call 84; refine (top_nil lo g T s f _ (H.out.later (by repeat (with_reducible first | exact Below.refl _ _ | exact HL.out | refine bl_drewN ?_ _ | refine bl_drew ?_ | refine bl_alloc ?_ _ | refine bl_set ?_ (by dsimp only; omega) _))) hlo hhi HS.out).mono ?_; rintro e w1 ⟨rfl, m', rfl⟩) | go_quiet (fail) | go_quiet ((go_at_call 82; exact quiet_joined (fn_calls lo g T s f _ (H.out.later (by repeat (with_reducible first | exact Below.refl _ _ | exact HL.out | refine bl_drewN ?_ _ | refine bl_drew ?_ | refine bl_alloc ?_ _ | refine bl_set ?_ (by dsimp only; omega) _))) hlo hhi))))
    go_ret
    have e : checkP s m = 4 := by rw [HE.out, if_pos (.inl HF.out)]
    exact ⟨ret_int e.symm, (by repeat (first | exact Mv.refl _ _ _ | refine Mv.drewN ?_ _ | refine Mv.drew ?_ | refine Mv.alloc ?_ (by first | omega | (simp; omega)) _)), fun hh => by rw [e] at hh; cases hh⟩


set_option maxRecDepth 100000 in
set_option maxHeartbeats 2000000 in
theorem move_wrongfn (lo g T : Nat) (s : PS) (f : Nat → Value) (m : PMom) (Av : Option Addr) (nv cv : Nat) (k : Nat) (w : World) (h : IsS w lo g T s f) (hlo : 0 ≤ s.cur) (hhi : s.cur ≤ 100) (hk7 : m.kind ≠ 7) (hk2 : m.kind ≠ 2) (htask : m.task = s.cur) {fr : PFr} {r : List PFr} (hs : s.top = fr :: r) (hf : m.fn ≠ fr.fn) :
    Calls Tryz.prog 77 #[.pointer (some ⟨g, 0, none⟩), .agg #[.int .i64 m.kind, .int .i64 m.task, .int .i64 m.fn, .int .i64 m.line, .string m.text, .slice Av nv cv], .int .i64 k] w fun e w' =>
      e = .returned (.int .i64 (checkP s m)) ∧ Mv sTys lo w w' ∧ (checkP s m = 0 → ∃ f', IsS w' lo g T (stepP s m k) f') := by
  have hgw := h.blk.lt
  have hTw := h.tb.lt
  have hl1 := h.lo1
  have hl2 := h.lo2
  have hgT : g ≠ T := h.blk.ne h.tb (by decide)
  have H := Lib.hid h
  have hx : s.cur < 101 := by omega
  have hd : (m.kind == 7) = false := by simp [hk7]
  have hd1 : (m.task != s.cur) = false := by simp [htask]
  have hd2 : (m.kind == 2) = false := by simp [hk2]
  have HS := Lib.hid hs
  obtain ⟨b, cap, c0, c1, c2, hc1, hc2, hv, hrow, d0, d1, d2, hfz, hb1, hb2, hb3, hb4⟩ := h.tops hlo hhi hs
  have hfn : fnP s = fr.fn := by unfold fnP; rw [hs]
  have e : checkP s m = if m.fn ≠ fr.fn ∨ (m.kind = 3 ∧ fr.frm = -1) then 4 else 0 := by unfold checkP; rw [if_neg hk7, if_neg (by omega), if_neg hk2, hs]
  have HE := Lib.hid e
  have HH := Lib.hid (And.intro hk7 hk2)
  have HV := Lib.hid hv
  have HR := Lib.hid hrow
  have HFZ := Lib.hid hfz
  have hi0 : (0 : Int) ≤ (r.length : Int) := by omega
  have hi1 : (r.length : Int) < ((r.length + 1 : Nat) : Int) := by omega
  have hi2 : ((r.length : Int) < 0) ↔ False := by simp
  have hi3 : (r.length : Int).toNat = r.length := by simp
  have hdf : (m.fn != fnP s) = true := by rw [hfn]; simp [hf]
  have HF := Lib.hid hf
  clear hf hfn
  clear h hk7 hk2 htask hs e hv hrow hfz hc1 hc2
  go_enter Tryz.func77, Tryz.ntmps77
  go_wp2_with (first | (go_at_call 84; refine (top_cons lo g T s f _ (H.out.later (by repeat (with_reducible first | exact Below.refl _ _ | exact HL.out | refine bl_drewN ?_ _ | refine bl_drew ?_ | refine bl_alloc ?_ _ | refine bl_set ?_ (by dsimp only; omega) _))) hlo hhi HS.out).mono ?_; rintro e w1 ⟨rfl, m', rfl⟩) | go_quiet (fail) | go_quiet ((go_at_call 82; exact quiet_joined (fn_calls lo g T s f _ (H.out.later (by repeat (with_reducible first | exact Below.refl _ _ | exact HL.out | refine bl_drewN ?_ _ | refine bl_drew ?_ | refine bl_alloc ?_ _ | refine bl_set ?_ (by dsimp only; omega) _))) hlo hhi))))
  go_ret
  have e : checkP s m = 4 := by rw [HE.out, if_pos (.inl HF.out)]
  exact ⟨ret_int e.symm, (by repeat (first | exact Mv.refl _ _ _ | refine Mv.drewN ?_ _ | refine Mv.drew ?_ | refine Mv.alloc ?_ (by first | omega | (simp; omega)) _)), fun hh => by rw [e] at hh; cases hh⟩


set_option maxRecDepth 100000 in
set_option maxHeartbeats 2000000 in
theorem move_still (lo g T : Nat) (s : PS) (f : Nat → Value) (m : PMom) (Av : Option Addr) (nv cv : Nat) (k : Nat) (w : World) (h : IsS w lo g T s f) (hlo : 0 ≤ s.cur) (hhi : s.cur ≤ 100) (hk7 : m.kind ≠ 7) (hk2 : m.kind ≠ 2) (htask : m.task = s.cur) {fr : PFr} {r : List PFr} (hs : s.top = fr :: r) (hf : m.fn = fr.fn) (hk1 : m.kind ≠ 1) (hk3 : m.kind ≠ 3) :
    Calls Tryz.prog 77 #[.pointer (some ⟨g, 0, none⟩), .agg #[.int .i64 m.kind, .int .i64 m.task, .int .i64 m.fn, .int .i64 m.line, .string m.text, .slice Av nv cv], .int .i64 k] w fun e w' =>
      e = .returned (.int .i64 (checkP s m)) ∧ Mv sTys lo w w' ∧ (checkP s m = 0 → ∃ f', IsS w' lo g T (stepP s m k) f') := by
  have hgw := h.blk.lt
  have hTw := h.tb.lt
  have hl1 := h.lo1
  have hl2 := h.lo2
  have hgT : g ≠ T := h.blk.ne h.tb (by decide)
  have H := Lib.hid h
  have hx : s.cur < 101 := by omega
  have hd : (m.kind == 7) = false := by simp [hk7]
  have hd1 : (m.task != s.cur) = false := by simp [htask]
  have hd2 : (m.kind == 2) = false := by simp [hk2]
  have HS := Lib.hid hs
  obtain ⟨b, cap, c0, c1, c2, hc1, hc2, hv, hrow, d0, d1, d2, hfz, hb1, hb2, hb3, hb4⟩ := h.tops hlo hhi hs
  have hfn : fnP s = fr.fn := by unfold fnP; rw [hs]
  have e : checkP s m = if m.fn ≠ fr.fn ∨ (m.kind = 3 ∧ fr.frm = -1) then 4 else 0 := by unfold checkP; rw [if_neg hk7, if_neg (by omega), if_neg hk2, hs]
  have HE := Lib.hid e
  have HH := Lib.hid (And.intro hk7 hk2)
  have HV := Lib.hid hv
  have HR := Lib.hid hrow
  have HFZ := Lib.hid hfz
  have hi0 : (0 : Int) ≤ (r.length : Int) := by omega
  have hi1 : (r.length : Int) < ((r.length + 1 : Nat) : Int) := by omega
  have hi2 : ((r.length : Int) < 0) ↔ False := by simp
  have hi3 : (r.length : Int).toNat = r.length := by simp
  have hdf : (m.fn != fnP s) = false := by rw [hfn]; simp [hf]
  have hd4 : (m.kind == 1) = false := by simp [hk1]
  have hd5 : (m.kind == 3) = false := by simp [hk3]
  have HF := Lib.hid hf
  have HK := Lib.hid (And.intro hk1 hk3)
  clear hf hfn hk1 hk3
  clear h hk7 hk2 htask hs e hv hrow hfz hc1 hc2
  go_enter Tryz.func77, Tryz.ntmps77
  go_wp2_with (first | (go_at_call 84; refine (top_cons lo g T s f _ (H.out.later (by repeat (with_reducible first | exact Below.refl _ _ | exact HL.out | refine bl_drewN ?_ _ | refine bl_drew ?_ | refine bl_alloc ?_ _ | refine bl_set ?_ (by dsimp only; omega) _))) hlo hhi HS.out).mono ?_; rintro e w1 ⟨rfl, m', rfl⟩) | go_quiet (fail) | go_quiet ((go_at_call 82; exact quiet_joined (fn_calls lo g T s f _ (H.out.later (by repeat (with_reducible first | exact Below.refl _ _ | exact HL.out | refine bl_drewN ?_ _ | refine bl_drew ?_ | refine bl_alloc ?_ _ | refine bl_set ?_ (by dsimp only; omega) _))) hlo hhi))))
  go_ret
  have e : checkP s m = 0 := by rw [HE.out, if_neg]; have := HK.out; have := HF.out; omega
  have e2 : stepP s m k = s := by unfold stepP; rw [if_neg HH.out.1, if_neg HH.out.2, if_neg HK.out.2, if_neg HK.out.1]
  rw [e2]
  exact ⟨ret_int e.symm, (by repeat (first | exact Mv.refl _ _ _ | refine Mv.drewN ?_ _ | refine Mv.drew ?_ | refine Mv.alloc ?_ (by first | omega | (simp; omega)) _)), fun _ => ⟨f, H.out.later (by repeat (with_reducible first | exact Below.refl _ _ | exact HL.out | refine bl_drewN ?_ _ | refine bl_drew ?_ | refine bl_alloc ?_ _ | refine bl_set ?_ (by dsimp only; omega) _))⟩⟩


set_option maxRecDepth 100000 in
set_option maxHeartbeats 2000000 in
theorem move_text (lo g T : Nat) (s : PS) (f : Nat → Value) (m : PMom) (Av : Option Addr) (nv cv : Nat) (k : Nat) (w : World) (h : IsS w lo g T s f) (hlo : 0 ≤ s.cur) (hhi : s.cur ≤ 100) (hk7 : m.kind ≠ 7) (hk2 : m.kind ≠ 2) (htask : m.task = s.cur) {fr : PFr} {r : List PFr} (hs : s.top = fr :: r) (hf : m.fn = fr.fn) (hk3 : m.kind = 3) (hfr : fr.frm = -1) :
    Calls Tryz.prog 77 #[.pointer (some ⟨g, 0, none⟩), .agg #[.int .i64 m.kind, .int .i64 m.task, .int .i64 m.fn, .int .i64 m.line, .string m.text, .slice Av nv cv], .int .i64 k] w fun e w' =>
      e = .returned (.int .i64 (checkP s m)) ∧ Mv sTys lo w w' ∧ (checkP s m = 0 → ∃ f', IsS w' lo g T (stepP s m k) f') := by
  have hgw := h.blk.lt
  have hTw := h.tb.lt
  have hl1 := h.lo1
  have hl2 := h.lo2
  have hgT : g ≠ T := h.blk.ne h.tb (by decide)
  have H := Lib.hid h
  have hx : s.cur < 101 := by omega
  have hd : (m.kind == 7) = false := by simp [hk7]
  have hd1 : (m.task != s.cur) = false := by simp [htask]
  have hd2 : (m.kind == 2) = false := by simp [hk2]
  have HS := Lib.hid hs
  obtain ⟨b, cap, c0, c1, c2, hc1, hc2, hv, hrow, d0, d1, d2, hfz, hb1, hb2, hb3, hb4⟩ := h.tops hlo hhi hs
  have hfn : fnP s = fr.fn := by unfold fnP; rw [hs]
  have e : checkP s m = if m.fn ≠ fr.fn ∨ (m.kind = 3 ∧ fr.frm = -1) then 4 else 0 := by unfold checkP; rw [if_neg hk7, if_neg (by omega), if_neg hk2, hs]
  have HE := Lib.hid e
  have HH := Lib.hid (And.intro hk7 hk2)
  have HV := Lib.hid hv
  have HR := Lib.hid hrow
  have HFZ := Lib.hid hfz
  have hi0 : (0 : Int) ≤ (r.length : Int) := by omega
  have hi1 : (r.length : Int) < ((r.length + 1 : Nat) : Int) := by omega
  have hi2 : ((r.length : Int) < 0) ↔ False := by simp
  have hi3 : (r.length : Int).toNat = r.length := by simp
  have hdf : (m.fn != fnP s) = false := by rw [hfn]; simp [hf]
  have hd4 : (m.kind == 1) = false := by simp [hk3]
  have hd5 : (m.kind == 3) = true := by simp [hk3]
  have HF := Lib.hid hf
  have HK := Lib.hid (And.intro hk3 hfr)
  rw [hfr] at d2
  clear hf hfn hk3 hfr
  clear h hk7 hk2 htask hs e hv hrow hfz hc1 hc2
  go_enter Tryz.func77, Tryz.ntmps77
  go_wp2_with (first | (go_at_call 84; refine (top_cons lo g T s f _ (H.out.later (by repeat (with_reducible first | exact Below.refl _ _ | exact HL.out | refine bl_drewN ?_ _ | refine bl_drew ?_ | refine bl_alloc ?_ _ | refine bl_set ?_ (by dsimp only; omega) _))) hlo hhi HS.out).mono ?_; rintro e w1 ⟨rfl, m', rfl⟩) | go_quiet (fail) | go_quiet ((go_at_call 82; exact quiet_joined (fn_calls lo g T s f _ (H.out.later (by repeat (with_reducible first | exact Below.refl _ _ | exact HL.out | refine bl_drewN ?_ _ | refine bl_drew ?_ | refine bl_alloc ?_ _ | refine bl_set ?_ (by dsimp only; omega) _))) hlo hhi))))
  go_ret
  have e : checkP s m = 4 := by rw [HE.out, if_pos (.inr HK.out)]
  exact ⟨ret_int e.symm, (by repeat (first | exact Mv.refl _ _ _ | refine Mv.drewN ?_ _ | refine Mv.drew ?_ | refine Mv.alloc ?_ (by first | omega | (simp; omega)) _)), fun hh => by rw [e] at hh; cases hh⟩

end Go.Proofs.YtcklnjjbhngbcaaGreatDoor

namespace Go.Proofs.YtcklnjjbhngbcaaGreatDoor
open Go.RowKit Go.Proofs.Lens

theorem OwR.far' {w : World} {lo n sz : Nat} {e : TypeId} {C : Nat → Nat → Value} {v : Value} (h : OwR w lo e sz n C v) {b j : Nat} (hb : v.ownBlock ≠ some b) (u : Value) : OwR (w.setCell ⟨b, j, none⟩ u) lo e sz n C v := OwR.far h hb u
theorem put_cur (s : PS) (l : List PFr) (hlo : 0 ≤ s.cur) : (s.put l).stk ((s.cur.toNat : Nat) : Int) = l := by rw [Int.toNat_of_nonneg hlo]; simp [PS.put]
theorem put_ne (s : PS) (l : List PFr) {i : Nat} (hi : i ≠ s.cur.toNat) : (s.put l).stk (i : Int) = s.stk i := by simp only [PS.put]; rw [if_neg (by omega)]
/-- A store of the innermost call's line. -/
theorem IsS.setLine {w : World} {lo g T : Nat} {s : PS} {f : Nat → Value} (h : IsS w lo g T s f) (hlo : 0 ≤ s.cur) (hhi : s.cur ≤ 100) {fr : PFr} {r : List PFr} {b cap : Nat}
    (hv : f s.cur.toNat = .slice (some ⟨b, 0, none⟩) (r.length + 1) cap) (hrow : OwR w lo 42 3 (r.length + 1) (frC (fr :: r).reverse) (.slice (some ⟨b, 0, none⟩) (r.length + 1) cap)) (x : Int) :
    IsS (w.setCell ⟨b, r.length * 3 + 1, none⟩ (.int .i64 x)) lo g T (s.put (⟨fr.fn, x, fr.frm⟩ :: r)) f := by
  obtain ⟨n1, n2⟩ := h.neb (i := s.cur.toNat) (by omega)
  rw [hv] at n1 n2
  refine ⟨h.lo1, h.lo2, h.blk.far (p := ⟨b, r.length * 3 + 1, none⟩) (fun hh => n1 (congrArg some hh.symm)) _, h.tb.far (p := ⟨b, r.length * 3 + 1, none⟩) (fun hh => n2 (congrArg some hh.symm)) _, fun i hi => ?_, h.ne⟩
  by_cases hc : i = s.cur.toNat
  · rw [hc, put_cur s _ hlo, hv]
    refine OwR.set (n := r.length + 1) hrow (by omega) (by omega) (fun i j hi hj hne => ?_) (by simp only [frC, elt_rev])
    by_cases hir : i = r.length
    · subst hir
      simp only [frC, elt_rev]
      match j, hj, hne with
      | 0, _, _ => rfl
      | 2, _, _ => rfl
    · simp only [frC, elt_rev_lt _ _ (show i < r.length by omega)]
  · rw [put_ne s _ hc]
    exact OwR.far' (h.row i hi) (fun hb => h.ne s.cur.toNat i (by omega) hi (fun hh => hc hh.symm) b (by rw [hv]; rfl) hb) _


set_option maxRecDepth 100000 in
set_option maxHeartbeats 2000000 in
theorem move_line (lo g T : Nat) (s : PS) (f : Nat → Value) (m : PMom) (Av : Option Addr) (nv cv : Nat) (k : Nat) (w : World) (h : IsS w lo g T s f) (hlo : 0 ≤ s.cur) (hhi : s.cur ≤ 100) (hk7 : m.kind ≠ 7) (hk2 : m.kind ≠ 2) (htask : m.task = s.cur) {fr : PFr} {r : List PFr} (hs : s.top = fr :: r) (hf : m.fn = fr.fn) (hk1 : m.kind = 1) :
    Calls Tryz.prog 77 #[.pointer (some ⟨g, 0, none⟩), .agg #[.int .i64 m.kind, .int .i64 m.task, .int .i64 m.fn, .int .i64 m.line, .string m.text, .slice Av nv cv], .int .i64 k] w fun e w' =>
      e = .returned (.int .i64 (checkP s m)) ∧ Mv sTys lo w w' ∧ (checkP s m = 0 → ∃ f', IsS w' lo g T (stepP s m k) f') := by
  have hgw := h.blk.lt
  have hTw := h.tb.lt
  have hl1 := h.lo1
  have hl2 := h.lo2
  have hgT : g ≠ T := h.blk.ne h.tb (by decide)
  have H := Lib.hid h
  have hx : s.cur < 101 := by omega
  have hd : (m.kind == 7) = false := by simp [hk7]
  have hd1 : (m.task != s.cur) = false := by simp [htask]
  have hd2 : (m.kind == 2) = false := by simp [hk2]
  have HS := Lib.hid hs
  obtain ⟨b, cap, c0, c1, c2, hc1, hc2, hv, hrow, d0, d1, d2, hfz, hb1, hb2, hb3, hb4⟩ := h.tops hlo hhi hs
  obtain ⟨n1, hn1⟩ : ∃ n1, n1 = r.length + 1 := ⟨_, rfl⟩
  rw [← hn1] at c2 hc1 hv hrow
  have hfn : fnP s = fr.fn := by unfold fnP; rw [hs]
  have e : checkP s m = if m.fn ≠ fr.fn ∨ (m.kind = 3 ∧ fr.frm = -1) then 4 else 0 := by unfold checkP; rw [if_neg hk7, if_neg (by omega), if_neg hk2, hs]
  have HE := Lib.hid e
  have HH := Lib.hid (And.intro hk7 hk2)
  have HV := Lib.hid hv
  have HR := Lib.hid hrow
  have HFZ := Lib.hid hfz
  have hi0 : (0 : Int) ≤ (r.length : Int) := by omega
  have hi1 : (r.length : Int) < (n1 : Int) := by omega
  have HN1 := Lib.hid hn1
  have hi2 : ((r.length : Int) < 0) ↔ False := by simp
  have hi3 : (r.length : Int).toNat = r.length := by simp
  have hdf : (m.fn != fnP s) = false := by rw [hfn]; simp [hf]
  have hd4 : (m.kind == 1) = true := by simp [hk1]
  have hd5 : (m.kind == 3) = false := by simp [hk1]
  have HF := Lib.hid hf
  have HK := Lib.hid hk1
  have f1 := hfz (r.length * 3 + 1)
  clear hf hfn hk1
  clear h hk7 hk2 htask hs e hv hrow hfz hn1
  go_enter Tryz.func77, Tryz.ntmps77
  go_wp2_with (first | (go_at_call 84; refine (top_cons lo g T s f _ (H.out.later (by repeat (with_reducible first | exact Below.refl _ _ | exact HL.out | refine bl_drewN ?_ _ | refine bl_drew ?_ | refine bl_alloc ?_ _ | refine bl_set ?_ (by dsimp only; omega) _))) hlo hhi HS.out).mono ?_; rintro e w1 ⟨rfl, m', rfl⟩) | go_quiet (fail) | go_quiet ((go_at_call 82; exact quiet_joined (fn_calls lo g T s f _ (H.out.later (by repeat (with_reducible first | exact Below.refl _ _ | exact HL.out | refine bl_drewN ?_ _ | refine bl_drew ?_ | refine bl_alloc ?_ _ | refine bl_set ?_ (by dsimp only; omega) _))) hlo hhi))))
  generalize hW : World.drewN _ _ = W
  have x0 : W.cell? ⟨g, 0, none⟩ = some (.slice (some ⟨T, 0, none⟩) 101 101) := by rw [← hW]; clear hW; go_simp
  have x1 : W.cell? ⟨g, 1, none⟩ = some (.int .i64 s.cur) := by rw [← hW]; clear hW; go_simp
  have x2 : W.cell? ⟨T, s.cur.toNat, none⟩ = some (.slice (some ⟨b, 0, none⟩) n1 cap) := by rw [← hW]; clear hW; go_simp
  have x3 : W.cell? ⟨w.heap.size, 3, none⟩ = some (.int .i64 m.line) := by rw [← hW]; clear hW; go_simp
  have x4 : W.cell? ⟨b, r.length * 3 + 1, none⟩ = some (.int .i64 fr.line) := by rw [← hW]; clear hW; go_simp
  have b1 : Below w.heap.size w W := by rw [← hW]; exact (by repeat (with_reducible first | exact Below.refl _ _ | exact HL.out | refine bl_drewN ?_ _ | refine bl_drew ?_ | refine bl_alloc ?_ _ | refine bl_set ?_ (by dsimp only; omega) _))
  have x5 : W.frozen? ⟨b, r.length * 3 + 1, none⟩ = false := by rw [← hW]; clear hW; go_simp
  have x6 : W.cell? ⟨w.heap.size, 0, none⟩ = some (.int .i64 m.kind) := by rw [← hW]; clear hW; go_simp
  have y1 : ¬ w.heap.size = b := by omega
  have y2 : ¬ b = w.heap.size := by omega
  have X := Lib.hid (H.out.later b1)
  have XR := Lib.hid (HR.out.later b1)
  have XB := Lib.hid b1
  clear hW c0 c1 c2 d0 d1 d2 b1 f1
  go_still_tail 15, (by kernel_rfl)
  go_wp2_with fail
  go_ret
  have e : checkP s m = 0 := by rw [HE.out, if_neg]; have := HK.out; have := HF.out; omega
  have e2 : stepP s m k = s.put (⟨fr.fn, m.line, fr.frm⟩ :: r) := by unfold stepP; have := HK.out; rw [if_neg HH.out.1, if_neg HH.out.2, if_neg (by omega), if_pos HK.out, HS.out]
  rw [e2]
  have hXR := XR.out
  have hV := HV.out
  have hN := HN1.out
  subst hN
  have hB : Mv sTys lo w W := Mv.of_below XB.out (by omega)
  refine ⟨ret_int e.symm, ?_, fun _ => ⟨f, (X.out.setLine hlo hhi hV hXR _).later (by repeat (with_reducible first | exact Below.refl _ _ | exact HL.out | refine bl_drewN ?_ _ | refine bl_drew ?_ | refine bl_alloc ?_ _ | refine bl_set ?_ (by dsimp only; omega) _))⟩⟩
  obtain ⟨Nb, Fb, hBk⟩ := hXR.block (b := b) rfl
  repeat (first | exact hB.set (by dsimp only; omega) hBk (by decide) _ | refine Mv.drewN ?_ _ | refine Mv.drew ?_)


set_option maxRecDepth 100000 in
set_option maxHeartbeats 2000000 in
theorem move_back (lo g T : Nat) (s : PS) (f : Nat → Value) (m : PMom) (Av : Option Addr) (nv cv : Nat) (k : Nat) (w : World) (h : IsS w lo g T s f) (hlo : 0 ≤ s.cur) (hhi : s.cur ≤ 100) (hk7 : m.kind ≠ 7) (hk2 : m.kind ≠ 2) (htask : m.task = s.cur) {fr : PFr} {r : List PFr} (hs : s.top = fr :: r) (hf : m.fn = fr.fn) (hk3 : m.kind = 3) (hfr : 0 ≤ fr.frm) :
    Calls Tryz.prog 77 #[.pointer (some ⟨g, 0, none⟩), .agg #[.int .i64 m.kind, .int .i64 m.task, .int .i64 m.fn, .int .i64 m.line, .string m.text, .slice Av nv cv], .int .i64 k] w fun e w' =>
      e = .returned (.int .i64 (checkP s m)) ∧ Mv sTys lo w w' ∧ (checkP s m = 0 → ∃ f', IsS w' lo g T (stepP s m k) f') := by
  have hgw := h.blk.lt
  have hTw := h.tb.lt
  have hl1 := h.lo1
  have hl2 := h.lo2
  have hgT : g ≠ T := h.blk.ne h.tb (by decide)
  have H := Lib.hid h
  have hx : s.cur < 101 := by omega
  have hd : (m.kind == 7) = false := by simp [hk7]
  have hd1 : (m.task != s.cur) = false := by simp [htask]
  have hd2 : (m.kind == 2) = false := by simp [hk2]
  have HS := Lib.hid hs
  obtain ⟨b, cap, c0, c1, c2, hc1, hc2, hv, hrow, d0, d1, d2, hfz, hb1, hb2, hb3, hb4⟩ := h.tops hlo hhi hs
  obtain ⟨n1, hn1⟩ : ∃ n1, n1 = r.length + 1 := ⟨_, rfl⟩
  rw [← hn1] at c2 hc1 hv hrow
  have hfn : fnP s = fr.fn := by unfold fnP; rw [hs]
  have e : checkP s m = if m.fn ≠ fr.fn ∨ (m.kind = 3 ∧ fr.frm = -1) then 4 else 0 := by unfold checkP; rw [if_neg hk7, if_neg (by omega), if_neg hk2, hs]
  have HE := Lib.hid e
  have HH := Lib.hid (And.intro hk7 hk2)
  have HV := Lib.hid hv
  have HR := Lib.hid hrow
  have HFZ := Lib.hid hfz
  have hi0 : (0 : Int) ≤ (r.length : Int) := by omega
  have hi1 : (r.length : Int) < (n1 : Int) := by omega
  have HN1 := Lib.hid hn1
  have hi2 : ((r.length : Int) < 0) ↔ False := by simp
  have hi3 : (r.length : Int).toNat = r.length := by simp
  have hdf : (m.fn != fnP s) = false := by rw [hfn]; simp [hf]
  have hd4 : (m.kind == 1) = false := by simp [hk3]
  have hd5 : (m.kind == 3) = true := by simp [hk3]
  have hd6 : decide (fr.frm < 0) = false := by simp; omega
  have hd7 : decide ((r.length : Int) < 0) = false := by simp
  have HF := Lib.hid hf
  have HK := Lib.hid hk3
  have HFR := Lib.hid hfr
  have f1 := (h.tb.free s.cur.toNat)
  have hcap : (r.length : Int) ≤ (cap : Int) := by omega
  clear hf hfn hk3
  clear h hk7 hk2 htask hs e hv hrow hfz hn1
  go_enter Tryz.func77, Tryz.ntmps77
  go_wp2_with (first | (go_at_call 84; refine (top_cons lo g T s f _ (H.out.later (by repeat (with_reducible first | exact Below.refl _ _ | exact HL.out | refine bl_drewN ?_ _ | refine bl_drew ?_ | refine bl_alloc ?_ _ | refine bl_set ?_ (by dsimp only; omega) _))) hlo hhi HS.out).mono ?_; rintro e w1 ⟨rfl, m', rfl⟩) | go_quiet (fail) | go_quiet ((go_at_call 82; exact quiet_joined (fn_calls lo g T s f _ (H.out.later (by repeat (with_reducible first | exact Below.refl _ _ | exact HL.out | refine bl_drewN ?_ _ | refine bl_drew ?_ | refine bl_alloc ?_ _ | refine bl_set ?_ (by dsimp only; omega) _))) hlo hhi))))
  generalize hW : World.drewN _ _ = W
  have x0 : W.cell? ⟨g, 0, none⟩ = some (.slice (some ⟨T, 0, none⟩) 101 101) := by rw [← hW]; clear hW; go_simp
  have x1 : W.cell? ⟨g, 1, none⟩ = some (.int .i64 s.cur) := by rw [← hW]; clear hW; go_simp
  have x2 : W.cell? ⟨T, s.cur.toNat, none⟩ = some (.slice (some ⟨b, 0, none⟩) n1 cap) := by rw [← hW]; clear hW; go_simp
  have b1 : Below w.heap.size w W := by rw [← hW]; exact (by repeat (with_reducible first | exact Below.refl _ _ | exact HL.out | refine bl_drewN ?_ _ | refine bl_drew ?_ | refine bl_alloc ?_ _ | refine bl_set ?_ (by dsimp only; omega) _))
  have x5 : W.frozen? ⟨T, s.cur.toNat, none⟩ = false := by rw [← hW]; clear hW; go_simp
  have X := Lib.hid (H.out.later b1)
  have XR := Lib.hid (HR.out.later b1)
  have XB := Lib.hid b1
  clear hW c0 c1 c2 d0 d1 d2 b1 f1
  go_still_tail 21, (by kernel_rfl)
  go_wp2_with fail
  go_ret
  have e : checkP s m = 0 := by rw [HE.out, if_neg]; have := HK.out; have := HF.out; have := HFR.out; omega
  have e2 : stepP s m k = s.put r := by unfold stepP; have := HK.out; rw [if_neg HH.out.1, if_neg HH.out.2, if_pos HK.out, HS.out]; rfl
  rw [e2]
  have hV := HV.out
  have hN := HN1.out
  have hO : OwR W lo 42 3 r.length (frC r.reverse) (.slice (some ⟨b, 0, none⟩) r.length cap) :=
    (XR.out.take (by omega)).congr fun i hi j hj => by simp only [frC, elt_rev_lt _ _ hi]
  have hB : Mv sTys lo w W := Mv.of_below XB.out (by omega)
  refine ⟨ret_int e.symm, ?_, fun _ => ⟨_, (X.out.x.setRow hlo hhi hO ?_).later (by repeat (with_reducible first | exact Below.refl _ _ | exact HL.out | refine bl_drewN ?_ _ | refine bl_drew ?_ | refine bl_alloc ?_ _ | refine bl_set ?_ (by dsimp only; omega) _))⟩⟩
  · repeat (first | exact hB.set (by dsimp only; omega) X.out.tb (by decide) _ | refine Mv.drewN ?_ _ | refine Mv.drew ?_)
  · intro i hi hc b' hb hfb
    cases hb
    exact X.out.ne i s.cur.toNat hi (by omega) hc b hfb (by rw [hV]; rfl)

/-- One moment, whatever it is. -/
theorem move_calls (lo g T : Nat) (s : PS) (f : Nat → Value) (m : PMom) (Av : Option Addr) (nv cv : Nat) (k n : Nat) (w : World) (h : IsS w lo g T s f) (hi : Inv s n) :
    Calls Tryz.prog 77 #[.pointer (some ⟨g, 0, none⟩), .agg #[.int .i64 m.kind, .int .i64 m.task, .int .i64 m.fn, .int .i64 m.line, .string m.text, .slice Av nv cv], .int .i64 k] w fun e w' =>
      e = .returned (.int .i64 (checkP s m)) ∧ Mv sTys lo w w' ∧ (checkP s m = 0 → ∃ f', IsS w' lo g T (stepP s m k) f') := by
  have hd := hi.deep s.cur
  by_cases k7 : m.kind = 7
  · exact move_turn lo g T s f m Av nv cv k w h hi.lo hi.hi k7
  by_cases ht : m.task = s.cur
  · by_cases k2 : m.kind = 2
    · by_cases hl : s.top.length = 200
      · exact move_full lo g T s f m Av nv cv k w h hi.lo hi.hi k2 ht hl
      · exact move_call lo g T s f m Av nv cv k w h hi.lo hi.hi k2 ht (by unfold PS.top at hl ⊢; omega)
    · cases hs : s.top with
      | nil => exact move_nil lo g T s f m Av nv cv k w h hi.lo hi.hi k7 k2 ht hs
      | cons fr r =>
        by_cases hf : m.fn = fr.fn
        · by_cases k3 : m.kind = 3
          · by_cases hfr : fr.frm = -1
            · exact move_text lo g T s f m Av nv cv k w h hi.lo hi.hi k7 k2 ht hs hf k3 hfr
            · have := (hi.frm s.cur fr (by unfold PS.top at hs; rw [hs]; simp)).1
              exact move_back lo g T s f m Av nv cv k w h hi.lo hi.hi k7 k2 ht hs hf k3 (by omega)
          · by_cases k1 : m.kind = 1
            · exact move_line lo g T s f m Av nv cv k w h hi.lo hi.hi k7 k2 ht hs hf k1
            · exact move_still lo g T s f m Av nv cv k w h hi.lo hi.hi k7 k2 ht hs hf k1 k3
        · exact move_wrongfn lo g T s f m Av nv cv k w h hi.lo hi.hi k7 k2 ht hs hf
  · exact move_other lo g T s f m Av nv cv k w h hi.lo hi.hi k7 ht

end Go.Proofs.YtcklnjjbhngbcaaGreatDoor
