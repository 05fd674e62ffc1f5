/- Lemmas and contracts of functions that the theorem of this claim leans on (texts T4, T5, T6). -/
import Derived.Test.YtcklnjjbhngbcaaGreatDoorRowLkz29
import Derived.Test.YtcklnjjbhngbcaaGreatDoorRowLkz11
namespace Go.Proofs.YtcklnjjbhngbcaaGreatDoor
open Go.RowKit Go.Proofs.Lens

theorem OwR.far' {w : World} {lo n sz : Nat} {e : TypeId} {C : Nat → Nat → Value} {v : Value} (h : OwR w lo e sz n C v) {b j : Nat} (hb : v.ownBlock ≠ some b) (u : Value) : OwR (w.setCell ⟨b, j, none⟩ u) lo e sz n C v := OwR.far h hb u
theorem put_cur (s : PS) (l : List PFr) (hlo : 0 ≤ s.cur) : (s.put l).stk ((s.cur.toNat : Nat) : Int) = l := by rw [Int.toNat_of_nonneg hlo]; simp [PS.put]
theorem put_ne (s : PS) (l : List PFr) {i : Nat} (hi : i ≠ s.cur.toNat) : (s.put l).stk (i : Int) = s.stk i := by simp only [PS.put]; rw [if_neg (by omega)]
/-- A store of the innermost call's line. -/
theorem IsS.setLine {w : World} {lo g T : Nat} {s : PS} {f : Nat → Value} (h : IsS w lo g T s f) (hlo : 0 ≤ s.cur) (hhi : s.cur ≤ 100) {fr : PFr} {r : List PFr} {b cap : Nat}
    (hv : f s.cur.toNat = .slice (some ⟨b, 0, none⟩) (r.length + 1) cap) (hrow : OwR w lo 42 3 (r.length + 1) (frC (fr :: r).reverse) (.slice (some ⟨b, 0, none⟩) (r.length + 1) cap)) (x : Int) :
    IsS (w.setCell ⟨b, r.length * 3 + 1, none⟩ (.int .i64 x)) lo g T (s.put (⟨fr.fn, x, fr.frm⟩ :: r)) f := by
  obtain ⟨n1, n2⟩ := h.neb (i := s.cur.toNat) (by omega)
  rw [hv] at n1 n2
  refine ⟨h.lo1, h.lo2, h.blk.far (p := ⟨b, r.length * 3 + 1, none⟩) (fun hh => n1 (congrArg some hh.symm)) _, h.tb.far (p := ⟨b, r.length * 3 + 1, none⟩) (fun hh => n2 (congrArg some hh.symm)) _, fun i hi => ?_, h.ne⟩
  by_cases hc : i = s.cur.toNat
  · rw [hc, put_cur s _ hlo, hv]
    refine OwR.set (n := r.length + 1) hrow (by omega) (by omega) (fun i j hi hj hne => ?_) (by simp only [frC, elt_rev])
    by_cases hir : i = r.length
    · subst hir
      simp only [frC, elt_rev]
      match j, hj, hne with
      | 0, _, _ => rfl
      | 2, _, _ => rfl
    · simp only [frC, elt_rev_lt _ _ (show i < r.length by omega)]
  · rw [put_ne s _ hc]
    exact OwR.far' (h.row i hi) (fun hb => h.ne s.cur.toNat i (by omega) hi (fun hh => hc hh.symm) b (by rw [hv]; rfl) hb) _


set_option maxRecDepth 100000 in
set_option maxHeartbeats 2000000 in
theorem move_line (lo g T : Nat) (s : PS) (f : Nat → Value) (m : PMom) (Av : Option Addr) (nv cv : Nat) (k : Nat) (w : World) (h : IsS w lo g T s f) (hlo : 0 ≤ s.cur) (hhi : s.cur ≤ 100) (hk7 : m.kind ≠ 7) (hk2 : m.kind ≠ 2) (htask : m.task = s.cur) {fr : PFr} {r : List PFr} (hs : s.top = fr :: r) (hf : m.fn = fr.fn) (hk1 : m.kind = 1) :
    Calls Tryz.prog 77 #[.pointer (some ⟨g, 0, none⟩), .agg #[.int .i64 m.kind, .int .i64 m.task, .int .i64 m.fn, .int .i64 m.line, .string m.text, .slice Av nv cv], .int .i64 k] w fun e w' =>
      e = .returned (.int .i64 (checkP s m)) ∧ Mv sTys lo w w' ∧ (checkP s m = 0 → ∃ f', IsS w' lo g T (stepP s m k) f') := by
  have hgw := h.blk.lt
  have hTw := h.tb.lt
  have hl1 := h.lo1
  have hl2 := h.lo2
  have hgT : g ≠ T := h.blk.ne h.tb (by decide)
  have H := Lib.hid h
  have hx : s.cur < 101 := by omega
  have hd : (m.kind == 7) = false := by simp [hk7]
  have hd1 : (m.task != s.cur) = false := by simp [htask]
  have hd2 : (m.kind == 2) = false := by simp [hk2]
  have HS := Lib.hid hs
  obtain ⟨b, cap, c0, c1, c2, hc1, hc2, hv, hrow, d0, d1, d2, hfz, hb1, hb2, hb3, hb4⟩ := h.tops hlo hhi hs
  obtain ⟨n1, hn1⟩ : ∃ n1, n1 = r.length + 1 := ⟨_, rfl⟩
  rw [← hn1] at c2 hc1 hv hrow
  have hfn : fnP s = fr.fn := by unfold fnP; rw [hs]
  have e : checkP s m = if m.fn ≠ fr.fn ∨ (m.kind = 3 ∧ fr.frm = -1) then 4 else 0 := by unfold checkP; rw [if_neg hk7, if_neg (by omega), if_neg hk2, hs]
  have HE := Lib.hid e
  have HH := Lib.hid (And.intro hk7 hk2)
  have HV := Lib.hid hv
  have HR := Lib.hid hrow
  have HFZ := Lib.hid hfz
  have hi0 : (0 : Int) ≤ (r.length : Int) := by omega
  have hi1 : (r.length : Int) < (n1 : Int) := by omega
  have HN1 := Lib.hid hn1
  have hi2 : ((r.length : Int) < 0) ↔ False := by simp
  have hi3 : (r.length : Int).toNat = r.length := by simp
  have hdf : (m.fn != fnP s) = false := by rw [hfn]; simp [hf]
  have hd4 : (m.kind == 1) = true := by simp [hk1]
  have hd5 : (m.kind == 3) = false := by simp [hk1]
  have HF := Lib.hid hf
  have HK := Lib.hid hk1
  have f1 := hfz (r.length * 3 + 1)
  clear hf hfn hk1
  clear h hk7 hk2 htask hs e hv hrow hfz hn1
  go_enter Tryz.func77, Tryz.ntmps77
  go_wp2_with (first | (go_at_call 84; refine (top_cons lo g T s f _ (H.out.later (by repeat (with_reducible first | exact Below.refl _ _ | exact HL.out | refine bl_drewN ?_ _ | refine bl_drew ?_ | refine bl_alloc ?_ _ | refine bl_set ?_ (by dsimp only; omega) _))) hlo hhi HS.out).mono ?_; rintro e w1 ⟨rfl, m', rfl⟩) | go_quiet (fail) | go_quiet ((go_at_call 82; exact quiet_joined (fn_calls lo g T s f _ (H.out.later (by repeat (with_reducible first | exact Below.refl _ _ | exact HL.out | refine bl_drewN ?_ _ | refine bl_drew ?_ | refine bl_alloc ?_ _ | refine bl_set ?_ (by dsimp only; omega) _))) hlo hhi))))
  generalize hW : World.drewN _ _ = W
  have x0 : W.cell? ⟨g, 0, none⟩ = some (.slice (some ⟨T, 0, none⟩) 101 101) := by rw [← hW]; clear hW; go_simp
  have x1 : W.cell? ⟨g, 1, none⟩ = some (.int .i64 s.cur) := by rw [← hW]; clear hW; go_simp
  have x2 : W.cell? ⟨T, s.cur.toNat, none⟩ = some (.slice (some ⟨b, 0, none⟩) n1 cap) := by rw [← hW]; clear hW; go_simp
  have x3 : W.cell? ⟨w.heap.size, 3, none⟩ = some (.int .i64 m.line) := by rw [← hW]; clear hW; go_simp
  have x4 : W.cell? ⟨b, r.length * 3 + 1, none⟩ = some (.int .i64 fr.line) := by rw [← hW]; clear hW; go_simp
  have b1 : Below w.heap.size w W := by rw [← hW]; exact (by repeat (with_reducible first | exact Below.refl _ _ | exact HL.out | refine bl_drewN ?_ _ | refine bl_drew ?_ | refine bl_alloc ?_ _ | refine bl_set ?_ (by dsimp only; omega) _))
  have x5 : W.frozen? ⟨b, r.length * 3 + 1, none⟩ = false := by rw [← hW]; clear hW; go_simp
  have x6 : W.cell? ⟨w.heap.size, 0, none⟩ = some (.int .i64 m.kind) := by rw [← hW]; clear hW; go_simp
  have y1 : ¬ w.heap.size = b := by omega
  have y2 : ¬ b = w.heap.size := by omega
  have X := Lib.hid (H.out.later b1)
  have XR := Lib.hid (HR.out.later b1)
  have XB := Lib.hid b1
  clear hW c0 c1 c2 d0 d1 d2 b1 f1
  go_still_tail 15, (by kernel_rfl)
  go_wp2_with fail
  go_ret
  have e : checkP s m = 0 := by rw [HE.out, if_neg]; have := HK.out; have := HF.out; omega
  have e2 : stepP s m k = s.put (⟨fr.fn, m.line, fr.frm⟩ :: r) := by unfold stepP; have := HK.out; rw [if_neg HH.out.1, if_neg HH.out.2, if_neg (by omega), if_pos HK.out, HS.out]
  rw [e2]
  have hXR := XR.out
  have hV := HV.out
  have hN := HN1.out
  subst hN
  have hB : Mv sTys lo w W := Mv.of_below XB.out (by omega)
  refine ⟨ret_int e.symm, ?_, fun _ => ⟨f, (X.out.setLine hlo hhi hV hXR _).later (by repeat (with_reducible first | exact Below.refl _ _ | exact HL.out | refine bl_drewN ?_ _ | refine bl_drew ?_ | refine bl_alloc ?_ _ | refine bl_set ?_ (by dsimp only; omega) _))⟩⟩
  obtain ⟨Nb, Fb, hBk⟩ := hXR.block (b := b) rfl
  repeat (first | exact hB.set (by dsimp only; omega) hBk (by decide) _ | refine Mv.drewN ?_ _ | refine Mv.drew ?_)


set_option maxRecDepth 100000 in
set_option maxHeartbeats 2000000 in
theorem move_back (lo g T : Nat) (s : PS) (f : Nat → Value) (m : PMom) (Av : Option Addr) (nv cv : Nat) (k : Nat) (w : World) (h : IsS w lo g T s f) (hlo : 0 ≤ s.cur) (hhi : s.cur ≤ 100) (hk7 : m.kind ≠ 7) (hk2 : m.kind ≠ 2) (htask : m.task = s.cur) {fr : PFr} {r : List PFr} (hs : s.top = fr :: r) (hf : m.fn = fr.fn) (hk3 : m.kind = 3) (hfr : 0 ≤ fr.frm) :
    Calls Tryz.prog 77 #[.pointer (some ⟨g, 0, none⟩), .agg #[.int .i64 m.kind, .int .i64 m.task, .int .i64 m.fn, .int .i64 m.line, .string m.text, .slice Av nv cv], .int .i64 k] w fun e w' =>
      e = .returned (.int .i64 (checkP s m)) ∧ Mv sTys lo w w' ∧ (checkP s m = 0 → ∃ f', IsS w' lo g T (stepP s m k) f') := by
  have hgw := h.blk.lt
  have hTw := h.tb.lt
  have hl1 := h.lo1
  have hl2 := h.lo2
  have hgT : g ≠ T := h.blk.ne h.tb (by decide)
  have H := Lib.hid h
  have hx : s.cur < 101 := by omega
  have hd : (m.kind == 7) = false := by simp [hk7]
  have hd1 : (m.task != s.cur) = false := by simp [htask]
  have hd2 : (m.kind == 2) = false := by simp [hk2]
  have HS := Lib.hid hs
  obtain ⟨b, cap, c0, c1, c2, hc1, hc2, hv, hrow, d0, d1, d2, hfz, hb1, hb2, hb3, hb4⟩ := h.tops hlo hhi hs
  obtain ⟨n1, hn1⟩ : ∃ n1, n1 = r.length + 1 := ⟨_, rfl⟩
  rw [← hn1] at c2 hc1 hv hrow
  have hfn : fnP s = fr.fn := by unfold fnP; rw [hs]
  have e : checkP s m = if m.fn ≠ fr.fn ∨ (m.kind = 3 ∧ fr.frm = -1) then 4 else 0 := by unfold checkP; rw [if_neg hk7, if_neg (by omega), if_neg hk2, hs]
  have HE := Lib.hid e
  have HH := Lib.hid (And.intro hk7 hk2)
  have HV := Lib.hid hv
  have HR := Lib.hid hrow
  have HFZ := Lib.hid hfz
  have hi0 : (0 : Int) ≤ (r.length : Int) := by omega
  have hi1 : (r.length : Int) < (n1 : Int) := by omega
  have HN1 := Lib.hid hn1
  have hi2 : ((r.length : Int) < 0) ↔ False := by simp
  have hi3 : (r.length : Int).toNat = r.length := by simp
  have hdf : (m.fn != fnP s) = false := by rw [hfn]; simp [hf]
  have hd4 : (m.kind == 1) = false := by simp [hk3]
  have hd5 : (m.kind == 3) = true := by simp [hk3]
  have hd6 : decide (fr.frm < 0) = false := by simp; omega
  have hd7 : decide ((r.length : Int) < 0) = false := by simp
  have HF := Lib.hid hf
  have HK := Lib.hid hk3
  have HFR := Lib.hid hfr
  have f1 := (h.tb.free s.cur.toNat)
  have hcap : (r.length : Int) ≤ (cap : Int) := by omega
  clear hf hfn hk3
  clear h hk7 hk2 htask hs e hv hrow hfz hn1
  go_enter Tryz.func77, Tryz.ntmps77
  go_wp2_with (first | (go_at_call 84; refine (top_cons lo g T s f _ (H.out.later (by repeat (with_reducible first | exact Below.refl _ _ | exact HL.out | refine bl_drewN ?_ _ | refine bl_drew ?_ | refine bl_alloc ?_ _ | refine bl_set ?_ (by dsimp only; omega) _))) hlo hhi HS.out).mono ?_; rintro e w1 ⟨rfl, m', rfl⟩) | go_quiet (fail) | go_quiet ((go_at_call 82; exact quiet_joined (fn_calls lo g T s f _ (H.out.later (by repeat (with_reducible first | exact Below.refl _ _ | exact HL.out | refine bl_drewN ?_ _ | refine bl_drew ?_ | refine bl_alloc ?_ _ | refine bl_set ?_ (by dsimp only; omega) _))) hlo hhi))))
  generalize hW : World.drewN _ _ = W
  have x0 : W.cell? ⟨g, 0, none⟩ = some (.slice (some ⟨T, 0, none⟩) 101 101) := by rw [← hW]; clear hW; go_simp
  have x1 : W.cell? ⟨g, 1, none⟩ = some (.int .i64 s.cur) := by rw [← hW]; clear hW; go_simp
  have x2 : W.cell? ⟨T, s.cur.toNat, none⟩ = some (.slice (some ⟨b, 0, none⟩) n1 cap) := by rw [← hW]; clear hW; go_simp
  have b1 : Below w.heap.size w W := by rw [← hW]; exact (by repeat (with_reducible first | exact Below.refl _ _ | exact HL.out | refine bl_drewN ?_ _ | refine bl_drew ?_ | refine bl_alloc ?_ _ | refine bl_set ?_ (by dsimp only; omega) _))
  have x5 : W.frozen? ⟨T, s.cur.toNat, none⟩ = false := by rw [← hW]; clear hW; go_simp
  have X := Lib.hid (H.out.later b1)
  have XR := Lib.hid (HR.out.later b1)
  have XB := Lib.hid b1
  clear hW c0 c1 c2 d0 d1 d2 b1 f1
  go_still_tail 21, (by kernel_rfl)
  go_wp2_with fail
  go_ret
  have e : checkP s m = 0 := by rw [HE.out, if_neg]; have := HK.out; have := HF.out; have := HFR.out; omega
  have e2 : stepP s m k = s.put r := by unfold stepP; have := HK.out; rw [if_neg HH.out.1, if_neg HH.out.2, if_pos HK.out, HS.out]; rfl
  rw [e2]
  have hV := HV.out
  have hN := HN1.out
  have hO : OwR W lo 42 3 r.length (frC r.reverse) (.slice (some ⟨b, 0, none⟩) r.length cap) :=
    (XR.out.take (by omega)).congr fun i hi j hj => by simp only [frC, elt_rev_lt _ _ hi]
  have hB : Mv sTys lo w W := Mv.of_below XB.out (by omega)
  refine ⟨ret_int e.symm, ?_, fun _ => ⟨_, (X.out.x.setRow hlo hhi hO ?_).later (by repeat (with_reducible first | exact Below.refl _ _ | exact HL.out | refine bl_drewN ?_ _ | refine bl_drew ?_ | refine bl_alloc ?_ _ | refine bl_set ?_ (by dsimp only; omega) _))⟩⟩
  · repeat (first | exact hB.set (by dsimp only; omega) X.out.tb (by decide) _ | refine Mv.drewN ?_ _ | refine Mv.drew ?_)
  · intro i hi hc b' hb hfb
    cases hb
    exact X.out.ne i s.cur.toNat hi (by omega) hc b hfb (by rw [hV]; rfl)

/-- One moment, whatever it is. -/
theorem move_calls (lo g T : Nat) (s : PS) (f : Nat → Value) (m : PMom) (Av : Option Addr) (nv cv : Nat) (k n : Nat) (w : World) (h : IsS w lo g T s f) (hi : Inv s n) :
    Calls Tryz.prog 77 #[.pointer (some ⟨g, 0, none⟩), .agg #[.int .i64 m.kind, .int .i64 m.task, .int .i64 m.fn, .int .i64 m.line, .string m.text, .slice Av nv cv], .int .i64 k] w fun e w' =>
      e = .returned (.int .i64 (checkP s m)) ∧ Mv sTys lo w w' ∧ (checkP s m = 0 → ∃ f', IsS w' lo g T (stepP s m k) f') := by
  have hd := hi.deep s.cur
  by_cases k7 : m.kind = 7
  · exact move_turn lo g T s f m Av nv cv k w h hi.lo hi.hi k7
  by_cases ht : m.task = s.cur
  · by_cases k2 : m.kind = 2
    · by_cases hl : s.top.length = 200
      · exact move_full lo g T s f m Av nv cv k w h hi.lo hi.hi k2 ht hl
      · exact move_call lo g T s f m Av nv cv k w h hi.lo hi.hi k2 ht (by unfold PS.top at hl ⊢; omega)
    · cases hs : s.top with
      | nil => exact move_nil lo g T s f m Av nv cv k w h hi.lo hi.hi k7 k2 ht hs
      | cons fr r =>
        by_cases hf : m.fn = fr.fn
        · by_cases k3 : m.kind = 3
          · by_cases hfr : fr.frm = -1
            · exact move_text lo g T s f m Av nv cv k w h hi.lo hi.hi k7 k2 ht hs hf k3 hfr
            · have := (hi.frm s.cur fr (by unfold PS.top at hs; rw [hs]; simp)).1
              exact move_back lo g T s f m Av nv cv k w h hi.lo hi.hi k7 k2 ht hs hf k3 (by omega)
          · by_cases k1 : m.kind = 1
            · exact move_line lo g T s f m Av nv cv k w h hi.lo hi.hi k7 k2 ht hs hf k1
            · exact move_still lo g T s f m Av nv cv k w h hi.lo hi.hi k7 k2 ht hs hf k1 k3
        · exact move_wrongfn lo g T s f m Av nv cv k w h hi.lo hi.hi k7 k2 ht hs hf
  · exact move_other lo g T s f m Av nv cv k w h hi.lo hi.hi k7 ht

end Go.Proofs.YtcklnjjbhngbcaaGreatDoor

namespace Go.Proofs.YtcklnjjbhngbcaaGreatDoor
open Go.RowKit Go.Proofs.Lens

set_option maxRecDepth 100000 in
set_option maxHeartbeats 2000000 in
theorem l1sizes_calls (v1 v2 : Value) (t : PTr) (w : World) (h : RdTr w v1 v2 t) :
    Calls Tryz.prog 74 #[.agg #[v1, v2]] w fun e w' => e = .returned (.bool (sizesOk t)) ∧ Below w.heap.size w w' := by
  have HT := Lib.hid h
  obtain ⟨⟨A1, c1, rfl, hn1, -⟩, ⟨vv, ⟨A2, c2, rfl, hn2, -⟩, -⟩⟩ := h
  have HSZ := Lib.hid (sizesOk_eq t)
  go_enter Tryz.func74, Tryz.ntmps74
  go_upto_region 1 with fail
  generalize hW : World.alloc w _ = W
  have HB : Hid (Below w.heap.size w W) := by rw [← hW]; exact Lib.hid (by repeat (with_reducible first | exact Below.refl _ _ | exact HL.out | refine bl_drewN ?_ _ | refine bl_drew ?_ | refine bl_alloc ?_ _ | refine bl_set ?_ (by dsimp only; omega) _))
  have HX : Hid (BoxAt W w.heap.size [.slice A1 t.fns.length c1, .slice A2 t.moms.length c2]) := by rw [← hW]; exact Lib.hid (BoxAt.new w _ _)
  clear hW
  obtain ⟨x0, x1⟩ := HX.out.open2
  go_cut [20] (fun s wx => s = .bool (szHd t) ∧ W = wx)
  case first =>
    by_cases h0 : t.fns.length = 0
    · have hd : ((t.fns.length : Int) == 0) = true := by simp [h0]
      have H0 := Lib.hid h0
      clear h0
      go_wp2
      go_meet
      exact ⟨by unfold szHd; simp [H0.out], rfl⟩
    · have hd : ((t.fns.length : Int) == 0) = false := by rw [beq_eq_false_iff_ne]; omega
      have H0 := Lib.hid h0
      clear h0
      go_wp2
      all_goals
        go_meet
        refine ⟨congrArg Value.bool ?_, rfl⟩
        have h0 := H0.out
        go_tidy
        unfold szHd
        grind
  case rest =>
    obtain ⟨rfl, rfl⟩ := hcut
    generalize hq : szHd t = q
    have HQ := Lib.hid hq
    clear hq
    cases q with
    | true =>
      go_wp2
      go_ret
      have HL := HB
      exact ⟨ret_bool (by rw [HSZ.out, HQ.out]; rfl), (by repeat (with_reducible first | exact Below.refl _ _ | exact HL.out | refine bl_drewN ?_ _ | refine bl_drew ?_ | refine bl_alloc ?_ _ | refine bl_set ?_ (by dsimp only; omega) _))⟩
    | false =>
      go_wp2_with fail
      go_loopw [24] (fun i wr => ∃ k : Nat, k ≤ t.fns.length ∧ i = .int .i64 k ∧ fnsOk (t.fns.take k) = true ∧ Below w.heap.size w wr) (fun i _ => t.fns.length - (intOf i).toNat)
      case atStart => exact ⟨0, Nat.zero_le _, rfl, by simp [fnsOk], HB.out⟩
      case round =>
        obtain ⟨k, hk, rfl, hq, hb⟩ := hrel
        have HL := Lib.hid hb
        have HF := Lib.hid hq
        clear hq
        by_cases hlt : k < t.fns.length
        · obtain ⟨A', c', he, _, hrow⟩ := HT.out.1.later hb
          obtain ⟨rfl, rfl⟩ : A1 = A' ∧ c1 = c' := by simpa using he
          obtain ⟨b, o, rfl, hc⟩ := hrow (by omega)
          have hc0 : wr.cell? ⟨b, o + k, none⟩ = some (.string (elt t.fns k)) := by have := hc k hlt 0 (by omega); simp only [Nat.mul_one, Nat.add_zero] at this; exact this
          have HSn := Lib.hid (fnsOk_snoc t.fns k hlt)
          clear hc he hrow hb x0 x1
          by_cases hs : (elt t.fns k).size ≤ 40
          · have HS := Lib.hid hs
            go_wp2
            go_roundw
            case rel => exact ⟨k + 1, by omega, by go_num, by rw [HSn.out, HF.out]; simpa using HS.out, (by repeat (with_reducible first | exact Below.refl _ _ | exact HL.out | refine bl_drewN ?_ _ | refine bl_drew ?_ | refine bl_alloc ?_ _ | refine bl_set ?_ (by dsimp only; omega) _))⟩
            case measure => simp [intOf]; omega
          · have HS := Lib.hid hs
            go_wp2
            go_ret
            refine ⟨ret_bool ?_, (by repeat (with_reducible first | exact Below.refl _ _ | exact HL.out | refine bl_drewN ?_ _ | refine bl_drew ?_ | refine bl_alloc ?_ _ | refine bl_set ?_ (by dsimp only; omega) _))⟩
            rw [HSZ.out, HQ.out]
            have : fnsOk t.fns = false := by
              cases hh : fnsOk t.fns with
              | false => rfl
              | true =>
                unfold fnsOk at hh
                rw [List.all_eq_true] at hh
                have h3 := hh (elt t.fns k) (by rw [elt_eq hlt]; exact List.getElem_mem hlt)
                exact absurd (by simpa using h3) HS.out
            rw [this]; rfl
        · obtain rfl : k = t.fns.length := by omega
          clear hb x0 x1
          go_wp2
          go_ret
          refine ⟨ret_bool ?_, (by repeat (with_reducible first | exact Below.refl _ _ | exact HL.out | refine bl_drewN ?_ _ | refine bl_drew ?_ | refine bl_alloc ?_ _ | refine bl_set ?_ (by dsimp only; omega) _))⟩
          have := HF.out
          rw [List.take_length] at this
          rw [HSZ.out, HQ.out, this]; rfl

/-- What is wrong with a moment's head, as the specification asks it: a first and a second question. -/
def momA (nf : Nat) (m : PMom) : Bool :=
  !inB m.kind 1 7 || !inB m.task 0 100 || !inB m.fn 0 (nf - 1) || !inB m.line 0 100000 || decide (4000 < m.text.size) || decide (200 < m.vars.length)
def momB (m : PMom) : Bool := decide (m.kind = 1) && decide (m.line = 0)
theorem momHd_eq (nf : Nat) (m : PMom) : momHd nf m = !(momA nf m || momB m) := by
  unfold momHd momA momB
  cases h1 : inB m.kind 1 7 <;> cases h2 : inB m.task 0 100 <;> cases h3 : inB m.fn 0 (nf - 1) <;> cases h4 : inB m.line 0 100000 <;> simp
  have := inB_true.1 h4
  grind
end Go.Proofs.YtcklnjjbhngbcaaGreatDoor

namespace Go.Proofs.YtcklnjjbhngbcaaGreatDoor
open Go.RowKit Go.Proofs.Lens

set_option maxRecDepth 100000 in
set_option maxHeartbeats 2000000 in
theorem l1moment_calls (v1 v2 v : Value) (t : PTr) (m : PMom) (w : World) (h : RdTr w v1 v2 t) (hv : RdVars w v m.vars) (hsm : smMom m) (hfn : t.fns.length ≤ 1048576) :
    Calls Tryz.prog 75 #[.agg #[v1, v2], .agg #[.int .i64 m.kind, .int .i64 m.task, .int .i64 m.fn, .int .i64 m.line, .string m.text, v]] w fun e w' =>
      e = .returned (.bool (momOk t.fns.length m)) ∧ Below w.heap.size w w' := by
  obtain ⟨⟨A1, c1, rfl, -⟩, -⟩ := h
  have HV := Lib.hid hv
  obtain ⟨A, c, rfl, hn, hrow⟩ := hv
  obtain ⟨hs1, hs2, hs3⟩ := hsm
  have HS := Lib.hid hs3
  have HM := Lib.hid (momHd_eq t.fns.length m)
  clear hrow hs3
  go_enter Tryz.func75, Tryz.ntmps75
  go_upto_region 1 with fail
  generalize hW : World.alloc (World.alloc w _) _ = W
  have hb : Below w.heap.size w W := by rw [← hW]; exact (by repeat (with_reducible first | exact Below.refl _ _ | exact HL.out | refine bl_drewN ?_ _ | refine bl_drew ?_ | refine bl_alloc ?_ _ | refine bl_set ?_ (by dsimp only; omega) _))
  have x0 : W.cell? ⟨w.heap.size, 0, none⟩ = some (.slice A1 t.fns.length c1) := by rw [← hW]; clear hW; go_simp
  have y0 : W.cell? ⟨w.heap.size + 1, 0, none⟩ = some (.int .i64 m.kind) := by rw [← hW]; clear hW; go_simp
  have y1 : W.cell? ⟨w.heap.size + 1, 1, none⟩ = some (.int .i64 m.task) := by rw [← hW]; clear hW; go_simp
  have y2 : W.cell? ⟨w.heap.size + 1, 2, none⟩ = some (.int .i64 m.fn) := by rw [← hW]; clear hW; go_simp
  have y3 : W.cell? ⟨w.heap.size + 1, 3, none⟩ = some (.int .i64 m.line) := by rw [← hW]; clear hW; go_simp
  have y4 : W.cell? ⟨w.heap.size + 1, 4, none⟩ = some (.string m.text) := by rw [← hW]; clear hW; go_simp
  have y5 : W.cell? ⟨w.heap.size + 1, 5, none⟩ = some (.slice A m.vars.length c) := by rw [← hW]; clear hW; go_simp
  have HB := Lib.hid hb
  clear hW hb
  go_cut [44] (fun s wx => s = .bool (momA t.fns.length m) ∧ W = wx)
  case first =>
    go_wp2_with (first | (go_at_call 137; refine (l1in_calls _ _ _ _).mono ?_; rintro e w1 ⟨rfl, rfl⟩))
    all_goals
      go_meet
      refine ⟨?_, rfl⟩
      go_tidy
      congr 1
      unfold momA
      grind
  case rest =>
    obtain ⟨rfl, rfl⟩ := hcut
    generalize hq : momA t.fns.length m = q
    have HQ := Lib.hid hq
    clear hq
    cases q with
    | true =>
      go_wp2
      go_ret
      have HL := HB
      exact ⟨ret_bool (by unfold momOk; rw [HM.out, HQ.out]; rfl), (by repeat (with_reducible first | exact Below.refl _ _ | exact HL.out | refine bl_drewN ?_ _ | refine bl_drew ?_ | refine bl_alloc ?_ _ | refine bl_set ?_ (by dsimp only; omega) _))⟩
    | false =>
      go_upto_region 3 with fail
      go_cut [52] (fun s wx => s = .bool (momB m) ∧ W = wx)
      case first =>
        by_cases hk : m.kind = 1
        · have hd : (m.kind == 1) = true := by simp [hk]
          have HK := Lib.hid hk
          clear hk
          go_wp2
          all_goals
            go_meet
            refine ⟨congrArg Value.bool ?_, rfl⟩
            have := HK.out
            go_tidy
            unfold momB
            grind
        · have hd : (m.kind == 1) = false := by simp [hk]
          have HK := Lib.hid hk
          clear hk
          go_wp2
          all_goals
            go_meet
            refine ⟨congrArg Value.bool ?_, rfl⟩
            have := HK.out
            go_tidy
            unfold momB
            grind
      case rest =>
        obtain ⟨rfl, rfl⟩ := hcut
        clear x0 y0 y1 y2 y3 y4
        have HH : Hid (momHd t.fns.length m = !momB m) := Lib.hid (by rw [HM.out, HQ.out]; rfl)
        generalize hq : momB m = q at HH
        clear hq
        cases q with
        | true =>
          go_wp2
          go_ret
          have HL := HB
          exact ⟨ret_bool (by unfold momOk; rw [HH.out]; rfl), (by repeat (with_reducible first | exact Below.refl _ _ | exact HL.out | refine bl_drewN ?_ _ | refine bl_drew ?_ | refine bl_alloc ?_ _ | refine bl_set ?_ (by dsimp only; omega) _))⟩
        | false =>
          go_wp2_with fail
          clear y5
          have bad : ∀ k, k < m.vars.length → varOk (elt m.vars k) = false → momOk t.fns.length m = false := fun k hk hb => by
            have : varsOk m.vars = false := by
              cases hh : varsOk m.vars with
              | false => rfl
              | true =>
                unfold varsOk at hh
                rw [List.all_eq_true] at hh
                have h3 := hh (elt m.vars k) (by rw [elt_eq hk]; exact List.getElem_mem hk)
                rw [hb] at h3; cases h3
            unfold momOk; rw [this, Bool.and_false]
          have BAD := Lib.hid bad
          clear bad
          go_loopw [56] (fun i wr => ∃ k : Nat, k ≤ m.vars.length ∧ i = .int .i64 k ∧ varsOk (m.vars.take k) = true ∧ Below w.heap.size w wr) (fun i _ => m.vars.length - (intOf i).toNat)
          case atStart => exact ⟨0, Nat.zero_le _, rfl, by simp [varsOk], HB.out⟩
          case round =>
            obtain ⟨k, hk, rfl, hq, hb⟩ := hrel
            have HL := Lib.hid hb
            have HF := Lib.hid hq
            clear hq
            by_cases hlt : k < m.vars.length
            · obtain ⟨A', c', he, _, hrow⟩ := HV.out.later hb
              obtain ⟨rfl, rfl⟩ : A = A' ∧ c = c' := by simpa using he
              obtain ⟨b, o, rfl, hc⟩ := hrow (by omega)
              have hc0 : wr.cell? ⟨b, o + k * 2, none⟩ = some (.string (elt m.vars k).nm) := hc k hlt 0 (by omega)
              have hc1 : wr.cell? ⟨b, o + k * 2 + 1, none⟩ = some (.string (elt m.vars k).tx) := hc k hlt 1 (by omega)
              have HSn := Lib.hid (varsOk_snoc m.vars k hlt)
              obtain ⟨hz1, hz2⟩ := HS.out k hlt
              clear hc he hrow hb
              by_cases h0 : (elt m.vars k).nm.size = 0
              · have hd : (((elt m.vars k).nm.size : Int) == 0) = true := by simp [h0]
                have H0 := Lib.hid h0
                clear h0
                go_wp2
                go_ret
                exact ⟨ret_bool (BAD.out k hlt (by unfold varOk inB; simp [H0.out])).symm, (by repeat (with_reducible first | exact Below.refl _ _ | exact HL.out | refine bl_drewN ?_ _ | refine bl_drew ?_ | refine bl_alloc ?_ _ | refine bl_set ?_ (by dsimp only; omega) _))⟩
              · have hd : (((elt m.vars k).nm.size : Int) == 0) = false := by rw [beq_eq_false_iff_ne]; omega
                have H0 := Lib.hid h0
                clear h0
                go_wp2
                all_goals first
                  | (go_roundw
                     case rel =>
                       refine ⟨k + 1, by omega, by go_num, ?_, (by repeat (with_reducible first | exact Below.refl _ _ | exact HL.out | refine bl_drewN ?_ _ | refine bl_drew ?_ | refine bl_alloc ?_ _ | refine bl_set ?_ (by dsimp only; omega) _))⟩
                       rw [HSn.out, HF.out]
                       have := H0.out
                       go_tidy
                       unfold varOk inB
                       grind
                     case measure => simp [intOf]; omega)
                  | (go_ret
                     refine ⟨ret_bool (BAD.out k hlt ?_).symm, (by repeat (with_reducible first | exact Below.refl _ _ | exact HL.out | refine bl_drewN ?_ _ | refine bl_drew ?_ | refine bl_alloc ?_ _ | refine bl_set ?_ (by dsimp only; omega) _))⟩
                     go_tidy
                     unfold varOk inB
                     grind)
            · obtain rfl : k = m.vars.length := by omega
              clear hb
              go_wp2
              go_ret
              have := HF.out
              rw [List.take_length] at this
              exact ⟨ret_bool (by unfold momOk; rw [HH.out, this]; rfl), HL.out⟩
end Go.Proofs.YtcklnjjbhngbcaaGreatDoor
