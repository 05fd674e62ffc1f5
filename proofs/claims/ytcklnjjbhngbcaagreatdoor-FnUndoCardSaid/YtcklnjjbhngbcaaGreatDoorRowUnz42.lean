/- Lemmas and contracts of functions that the theorem of this claim leans on (texts Q5). -/
import Derived.Test.YtcklnjjbhngbcaaGreatDoorRowUnz41
namespace Go.Proofs.YtcklnjjbhngbcaaGreatDoor
open Go.RowKit Go.Proofs.Lens
set_option linter.unusedSimpArgs false

theorem SpL.farT {w : World} {lo l n b : Nat} {ms : List PMom} {v1 v2 hv pv : Value} {L : Lk} {F : Nat → Value} (h : SpL w lo l n ms v1 v2 L hv pv) (hB : Blk w b 38 6 F) (j : Nat) (u : Value) : SpL (w.setCell ⟨b, j, none⟩ u) lo l n ms v1 v2 L hv pv :=
  ⟨h.blk.far (h.blk.ne hB (by decide)) _, h.hits.other hB (by decide) (by decide) _ _, h.past.other hB (by decide) _ _⟩
set_option maxRecDepth 100000 in
set_option maxHeartbeats 4000000 in
theorem q0_calls (lo l : Nat) (v1 v2 : Value) (t : PTr) (L : Lk) (hv pv : Value) (a : PAsk) (w : World) (h : SpL w lo l t.moms.length t.moms v1 v2 L hv pv) (wb : World) (hrb : RdTr wb v1 v2 t) (hbb : Below wb.heap.size wb w) (hbl : wb.heap.size ≤ lo) (hsm : smTr t) (hso : soundP t = true) (hok : LkOk t L) (hlo : lo ≤ l) (_hl : L.past.length ≤ 1000000)
    (ha : askOk a = false) (hz : a.nm.size ≤ 9223372036854775807) :
    Calls Tryz.prog 37 #[.pointer (some ⟨l, 0, none⟩), .agg #[.int .i64 a.op, .int .i64 a.n, .string a.nm, .int .i64 a.stop.kind, .int .i64 a.stop.fn, .int .i64 a.stop.line, .string a.stop.nm]] w (AnsPost ((td0, L, 1)) lo l t.moms.length t.moms v1 v2 w) := by
  obtain ⟨op, n, nm, st⟩ := a
  have hlw : lo ≤ w.heap.size := Nat.le_trans hlo (Nat.le_of_lt h.blk.lt)
  obtain ⟨A4, c4, rfl, -, -⟩ := h.past.cap
  obtain ⟨A3, c3, rfl, hc3⟩ := h.hits.cap
  have HS := Lib.hid h
  have HRB := Lib.hid hrb
  have HBB := Lib.hid hbb
  have HSM := Lib.hid hsm
  have HSO := Lib.hid hso
  have HOK := Lib.hid hok
  have hok' := Lib.hid ha
  have hln := hok.ln
  have hpl := hok.lo
  have hph := hok.hi
  have hmn := (sound_fns (sound_iff hso)).2.2
  obtain ⟨⟨A1, c1, rfl, hn1, -⟩, ⟨vv, ⟨A2, c2, rfl, hn2, -⟩, -⟩⟩ := hrb
  have hba := bl_alloc (bl_alloc (bl_alloc (Below.refl _ w) (.cells #[.int .i64 op, .int .i64 n, .string nm, .int .i64 st.kind, .int .i64 st.fn, .int .i64 st.line, .string st.nm] 47)) (.cells #[.int .i64 0, .int .i64 0, .int .i64 0, .string ⟨#[]⟩, .slice none 0 0, .slice none 0 0] 38)) (.cells #[.int .i64 0, .int .i64 0, .int .i64 0, .string ⟨#[]⟩, .slice none 0 0, .slice none 0 0] 38)
  have hA := ((ask_box w op n nm st).alloc (.cells #[.int .i64 0, .int .i64 0, .int .i64 0, .string ⟨#[]⟩, .slice none 0 0, .slice none 0 0] 38)).alloc (.cells #[.int .i64 0, .int .i64 0, .int .i64 0, .string ⟨#[]⟩, .slice none 0 0, .slice none 0 0] 38)
  have hR := (told_box (w.alloc (.cells #[.int .i64 op, .int .i64 n, .string nm, .int .i64 st.kind, .int .i64 st.fn, .int .i64 st.line, .string st.nm] 47))).alloc (.cells #[.int .i64 0, .int .i64 0, .int .i64 0, .string ⟨#[]⟩, .slice none 0 0, .slice none 0 0] 38)
  have hO := told_box ((w.alloc (.cells #[.int .i64 op, .int .i64 n, .string nm, .int .i64 st.kind, .int .i64 st.fn, .int .i64 st.line, .string st.nm] 47)).alloc (.cells #[.int .i64 0, .int .i64 0, .int .i64 0, .string ⟨#[]⟩, .slice none 0 0, .slice none 0 0] 38))
  rw [World.size_alloc] at hR
  rw [World.size_alloc, World.size_alloc] at hO
  have HA := Lib.hid hA
  have HRS := Lib.hid hR
  have HO := Lib.hid hO
  have HW := Lib.hid hba
  clear h hsm hso hok hA hR hO hba hbb ha
  go_enter Tryz.func37, Tryz.ntmps37
  go_wp2_with fail
  refine (l5askOk_calls ⟨op, n, nm, st⟩ _ hz).mono ?_; rintro e w1 ⟨rfl, hb⟩
  rw [hok'.out]
  have hbw := bl_then HW.out hb
  have HMV := Lib.hid (Mv.of_below (ts := qTys) hbw hlw)
  replace HA := Lib.hid (HA.out.later hb); replace HRS := Lib.hid (HRS.out.later hb); replace HO := Lib.hid (HO.out.later hb); clear hb
  replace HS := Lib.hid (HS.out.later hbw)
  have HR := Lib.hid (HRB.out.later (bl_trans9 HBB.out (bl_low9 hbw (Nat.le_trans hbl hlw))))
  clear hbw HW
  obtain ⟨q, hq⟩ : ∃ q, w.heap.size = q := ⟨_, rfl⟩
  have HQ := Lib.hid hq
  rw [hq] at HA HRS HO hlw ⊢
  clear hq
  have x0 : w1.cell? ⟨q, 0, none⟩ = some (.int .i64 op) := HA.out.cell (j := 0) (by omega)
  have r0 := HRS.out.cell (j := 0) (by omega)
  have e0 := HRS.out.free 0
  have o0 := HO.out.cell (j := 0) (by omega)
  have g0 := HO.out.free 0
  have r1 := HRS.out.cell (j := 1) (by omega)
  have e1 := HRS.out.free 1
  have o1 := HO.out.cell (j := 1) (by omega)
  have g1 := HO.out.free 1
  have r2 := HRS.out.cell (j := 2) (by omega)
  have e2 := HRS.out.free 2
  have o2 := HO.out.cell (j := 2) (by omega)
  have g2 := HO.out.free 2
  have r3 := HRS.out.cell (j := 3) (by omega)
  have e3 := HRS.out.free 3
  have o3 := HO.out.cell (j := 3) (by omega)
  have g3 := HO.out.free 3
  have r4 := HRS.out.cell (j := 4) (by omega)
  have e4 := HRS.out.free 4
  have o4 := HO.out.cell (j := 4) (by omega)
  have g4 := HO.out.free 4
  have r5 := HRS.out.cell (j := 5) (by omega)
  have e5 := HRS.out.free 5
  have o5 := HO.out.cell (j := 5) (by omega)
  have g5 := HO.out.free 5
  simp only [tdF] at r0 r1 r2 r3 r4 r5 o0 o1 o2 o3 o4 o5
  go_wp2_with fail
  refine bodyPost_ret (v := .agg #[.int .i64 0, .int .i64 1, .int .i64 0, .string ⟨#[]⟩, .slice none 0 0, .slice none 0 0]) (by simp [results, Tryz.results37, go_sem, r0, r1, r2, r3, r4, r5, o0, o1, o2, o3, o4, o5, td0]) rfl ?_
  exact ans_end (q := { td0 with code := 1 }) (by rfl) (HS.out.farT HO.out 1 _) (HRS.out.far (show q + 1 ≠ q + 1 + 1 by omega) _) OwR.nil (owr_z OwR.nil) (HMV.out.setNew (p := ⟨q + 1 + 1, 1, none⟩) (by dsimp only; omega) (by rw [HQ.out]; dsimp only; omega) (.int .i64 1)) (by rw [HQ.out]; omega) (by rw [HQ.out]; exact hlw)
set_option maxRecDepth 100000 in
set_option maxHeartbeats 4000000 in
theorem q8_calls (lo l : Nat) (v1 v2 : Value) (t : PTr) (L : Lk) (hv pv : Value) (a : PAsk) (w : World) (h : SpL w lo l t.moms.length t.moms v1 v2 L hv pv) (wb : World) (hrb : RdTr wb v1 v2 t) (hbb : Below wb.heap.size wb w) (hbl : wb.heap.size ≤ lo) (hsm : smTr t) (hso : soundP t = true) (hok : LkOk t L) (hlo : lo ≤ l) (hl : L.past.length ≤ 1000000)
    (h1 : a.op = 8) (ha : askOk a = true) (hz : a.nm.size ≤ 9223372036854775807) :
    Calls Tryz.prog 37 #[.pointer (some ⟨l, 0, none⟩), .agg #[.int .i64 a.op, .int .i64 a.n, .string a.nm, .int .i64 a.stop.kind, .int .i64 a.stop.fn, .int .i64 a.stop.line, .string a.stop.nm]] w (AnsPost (doUndo L) lo l t.moms.length t.moms v1 v2 w) := by
  obtain ⟨op, n, nm, st⟩ := a
  have h1 : op = 8 := h1
  subst h1
  have hlw : lo ≤ w.heap.size := Nat.le_trans hlo (Nat.le_of_lt h.blk.lt)
  obtain ⟨A4, c4, rfl, -, -⟩ := h.past.cap
  obtain ⟨A3, c3, rfl, hc3⟩ := h.hits.cap
  have HS := Lib.hid h
  have HRB := Lib.hid hrb
  have HBB := Lib.hid hbb
  have HSM := Lib.hid hsm
  have HSO := Lib.hid hso
  have HOK := Lib.hid hok
  have hok' := Lib.hid ha
  have hln := hok.ln
  have hpl := hok.lo
  have hph := hok.hi
  have hmn := (sound_fns (sound_iff hso)).2.2
  obtain ⟨⟨A1, c1, rfl, hn1, -⟩, ⟨vv, ⟨A2, c2, rfl, hn2, -⟩, -⟩⟩ := hrb
  have hba := bl_alloc (bl_alloc (bl_alloc (Below.refl _ w) (.cells #[.int .i64 8, .int .i64 n, .string nm, .int .i64 st.kind, .int .i64 st.fn, .int .i64 st.line, .string st.nm] 47)) (.cells #[.int .i64 0, .int .i64 0, .int .i64 0, .string ⟨#[]⟩, .slice none 0 0, .slice none 0 0] 38)) (.cells #[.int .i64 0, .int .i64 0, .int .i64 0, .string ⟨#[]⟩, .slice none 0 0, .slice none 0 0] 38)
  have hA := ((ask_box w 8 n nm st).alloc (.cells #[.int .i64 0, .int .i64 0, .int .i64 0, .string ⟨#[]⟩, .slice none 0 0, .slice none 0 0] 38)).alloc (.cells #[.int .i64 0, .int .i64 0, .int .i64 0, .string ⟨#[]⟩, .slice none 0 0, .slice none 0 0] 38)
  have hR := (told_box (w.alloc (.cells #[.int .i64 8, .int .i64 n, .string nm, .int .i64 st.kind, .int .i64 st.fn, .int .i64 st.line, .string st.nm] 47))).alloc (.cells #[.int .i64 0, .int .i64 0, .int .i64 0, .string ⟨#[]⟩, .slice none 0 0, .slice none 0 0] 38)
  have hO := told_box ((w.alloc (.cells #[.int .i64 8, .int .i64 n, .string nm, .int .i64 st.kind, .int .i64 st.fn, .int .i64 st.line, .string st.nm] 47)).alloc (.cells #[.int .i64 0, .int .i64 0, .int .i64 0, .string ⟨#[]⟩, .slice none 0 0, .slice none 0 0] 38))
  rw [World.size_alloc] at hR
  rw [World.size_alloc, World.size_alloc] at hO
  have HA := Lib.hid hA
  have HRS := Lib.hid hR
  have HO := Lib.hid hO
  have HW := Lib.hid hba
  clear h hsm hso hok hA hR hO hba hbb ha
  go_enter Tryz.func37, Tryz.ntmps37
  go_wp2_with fail
  refine (l5askOk_calls ⟨8, n, nm, st⟩ _ hz).mono ?_; rintro e w1 ⟨rfl, hb⟩
  rw [hok'.out]
  have hbw := bl_then HW.out hb
  have HMV := Lib.hid (Mv.of_below (ts := qTys) hbw hlw)
  replace HA := Lib.hid (HA.out.later hb); replace HRS := Lib.hid (HRS.out.later hb); replace HO := Lib.hid (HO.out.later hb); clear hb
  replace HS := Lib.hid (HS.out.later hbw)
  have HR := Lib.hid (HRB.out.later (bl_trans9 HBB.out (bl_low9 hbw (Nat.le_trans hbl hlw))))
  clear hbw HW
  obtain ⟨q, hq⟩ : ∃ q, w.heap.size = q := ⟨_, rfl⟩
  have HQ := Lib.hid hq
  rw [hq] at HA HRS HO hlw ⊢
  clear hq
  have x0 : w1.cell? ⟨q, 0, none⟩ = some (.int .i64 8) := HA.out.cell (j := 0) (by omega)
  obtain ⟨n0, hn0⟩ : ∃ n, L.past.length = n := ⟨_, rfl⟩
  have HP := Lib.hid hn0
  have z4 : w1.cell? ⟨l, 4, none⟩ = some (.slice A4 L.past.length c4) := HS.out.blk.cell (j := 4) (by omega)
  rw [hn0] at z4
  by_cases hc : n0 = 0
  · subst hc
    have r0 := HRS.out.cell (j := 0) (by omega)
    have e0 := HRS.out.free 0
    have o0 := HO.out.cell (j := 0) (by omega)
    have g0 := HO.out.free 0
    have r1 := HRS.out.cell (j := 1) (by omega)
    have e1 := HRS.out.free 1
    have o1 := HO.out.cell (j := 1) (by omega)
    have g1 := HO.out.free 1
    have r2 := HRS.out.cell (j := 2) (by omega)
    have e2 := HRS.out.free 2
    have o2 := HO.out.cell (j := 2) (by omega)
    have g2 := HO.out.free 2
    have r3 := HRS.out.cell (j := 3) (by omega)
    have e3 := HRS.out.free 3
    have o3 := HO.out.cell (j := 3) (by omega)
    have g3 := HO.out.free 3
    have r4 := HRS.out.cell (j := 4) (by omega)
    have e4 := HRS.out.free 4
    have o4 := HO.out.cell (j := 4) (by omega)
    have g4 := HO.out.free 4
    have r5 := HRS.out.cell (j := 5) (by omega)
    have e5 := HRS.out.free 5
    have o5 := HO.out.cell (j := 5) (by omega)
    have g5 := HO.out.free 5
    simp only [tdF] at r0 r1 r2 r3 r4 r5 o0 o1 o2 o3 o4 o5
    go_wp2_with fail
    refine bodyPost_ret (v := .agg #[.int .i64 0, .int .i64 4, .int .i64 0, .string ⟨#[]⟩, .slice none 0 0, .slice none 0 0]) (by simp [results, Tryz.results37, go_sem, r0, r1, r2, r3, r4, r5, o0, o1, o2, o3, o4, o5, td0]) rfl ?_
    exact ans_end (q := { td0 with code := 4 }) (by unfold doUndo; rw [if_pos HP.out]; rfl) (show SpL _ _ _ _ _ _ _ (doUndo L).2.1 _ _ by unfold doUndo; rw [if_pos HP.out]; exact HS.out.farT HO.out 1 _) (HRS.out.far (show q + 1 ≠ q + 1 + 1 by omega) _) OwR.nil (owr_z OwR.nil) (HMV.out.setNew (p := ⟨q + 1 + 1, 1, none⟩) (by dsimp only; omega) (by rw [HQ.out]; dsimp only; omega) (.int .i64 4)) (by rw [HQ.out]; omega) (by rw [HQ.out]; exact hlw)
  · obtain ⟨m, hm⟩ : ∃ m, n0 = m + 1 := ⟨n0 - 1, by omega⟩
    obtain ⟨Au, cu, hv4, hop⟩ := HS.out.past.open'
    obtain ⟨rfl, rfl⟩ : A4 = Au ∧ c4 = cu := by simpa using hv4
    obtain ⟨b, rfl, hlb, hbw, hcl, hfz⟩ := hop (by omega)
    have hcapp : n0 ≤ c4 := by
      obtain ⟨A9, c9, he9, hle, -⟩ := HS.out.past.cap
      simp only [Value.slice.injEq] at he9
      omega
    obtain ⟨k, hk⟩ : ∃ k, elt L.past m = k := ⟨_, rfl⟩
    have HKE := Lib.hid hk
    have zc : w1.cell? ⟨b, m, none⟩ = some (.int .i64 k) := by
      have h := hcl m (by omega) 0 (by omega)
      rw [Nat.mul_one, Nat.add_zero] at h
      rw [h, ← hk]
      rfl
    clear hop hcl hfz hv4 hk
    have hni : ¬ ((n0 : Nat) : Int) = 0 := by omega
    have hni1 : ((n0 : Nat) : Int) - 1 = (m : Int) := by omega
    have hnil : (m : Int) < (n0 : Int) := by omega
    have hwr : IntKind.i64.wrap (m : Int) = (m : Int) := by rw [IntKind.wrap_i64]; omega
    have hmc : m ≤ c4 := by omega
    have hbl9 : b ≠ l := by
      have hb9 : (Value.slice (some ⟨b, 0, none⟩ : Option Addr) L.past.length c4).ownBlock = some b := rfl
      obtain ⟨N, F, hB⟩ := HS.out.past.block hb9
      exact hB.ne HS.out.blk (by decide)
    have z2 : w1.cell? ⟨l, 2, none⟩ = some (.int .i64 L.place) := HS.out.blk.cell (j := 2) (by omega)
    have f2 := HS.out.blk.free 2
    have f4 := HS.out.blk.free 4
    have hll := HS.out.blk.lt
    clear hn0 hm hc
    go_upto_region 67 with fail
    have HS2 := Lib.hid (HS.out.setAt k)
    have hlen : (L.past.take m).length = m := by rw [List.length_take, HP.out]; omega
    have htk : OwR (w1.setCell ⟨l, 2, none⟩ (.int .i64 k)) lo 3 1 (L.past.take m).length (intC (L.past.take m)) (.slice (some ⟨b, 0, none⟩) m c4) := by
      rw [hlen]
      refine (HS2.out.past.take (m := m) (by show m ≤ L.past.length; rw [HP.out]; omega)).congr fun i hi j hj => ?_
      unfold intC
      show Value.int .i64 (elt L.past i) = _
      rw [elt_eq (xs := L.past.take m) (by rw [hlen]; exact hi), List.getElem_take, ← elt_eq]
    have HS4 := Lib.hid (SpL.ofPast HS2.out.blk HS2.out.hits htk)
    have hRl := HRS.out.ne HS.out.blk (by decide)
    have hOl := HO.out.ne HS.out.blk (by decide)
    replace HRS := Lib.hid ((HRS.out.far (p := ⟨l, 2, none⟩) hRl (.int .i64 k)).far (p := ⟨l, 4, none⟩) hRl (.slice (some ⟨b, 0, none⟩) m c4))
    replace HO := Lib.hid ((HO.out.far (p := ⟨l, 2, none⟩) hOl (.int .i64 k)).far (p := ⟨l, 4, none⟩) hOl (.slice (some ⟨b, 0, none⟩) m c4))
    replace HMV := Lib.hid ((HMV.out.set (p := ⟨l, 2, none⟩) hlo HS.out.blk (by decide) (.int .i64 k)).set (p := ⟨l, 4, none⟩) hlo HS2.out.blk (by decide) (.slice (some ⟨b, 0, none⟩) m c4))
    clear z2 z4 zc f2 f4 x0 htk hlen HS2 hRl hOl HS HA HR hwr hbl9
    generalize World.setCell (World.setCell w1 _ _) _ _ = w2 at HS4 HRS HO HMV ⊢
    have hu : doUndo L = (td0, ⟨k, L.ss, L.past.take m⟩, 0) := by
      unfold doUndo
      rw [if_neg (by rw [HP.out]; omega), HP.out, show n0 - 1 = m by omega, HKE.out]
    rw [hu]
    have r0 := HRS.out.cell (j := 0) (by omega)
    have e0 := HRS.out.free 0
    have o0 := HO.out.cell (j := 0) (by omega)
    have g0 := HO.out.free 0
    have r1 := HRS.out.cell (j := 1) (by omega)
    have e1 := HRS.out.free 1
    have o1 := HO.out.cell (j := 1) (by omega)
    have g1 := HO.out.free 1
    have r2 := HRS.out.cell (j := 2) (by omega)
    have e2 := HRS.out.free 2
    have o2 := HO.out.cell (j := 2) (by omega)
    have g2 := HO.out.free 2
    have r3 := HRS.out.cell (j := 3) (by omega)
    have e3 := HRS.out.free 3
    have o3 := HO.out.cell (j := 3) (by omega)
    have g3 := HO.out.free 3
    have r4 := HRS.out.cell (j := 4) (by omega)
    have e4 := HRS.out.free 4
    have o4 := HO.out.cell (j := 4) (by omega)
    have g4 := HO.out.free 4
    have r5 := HRS.out.cell (j := 5) (by omega)
    have e5 := HRS.out.free 5
    have o5 := HO.out.cell (j := 5) (by omega)
    have g5 := HO.out.free 5
    simp only [tdF] at r0 r1 r2 r3 r4 r5 o0 o1 o2 o3 o4 o5
    go_wp2_with fail
    refine bodyPost_ret (v := .agg #[.int .i64 0, .int .i64 0, .int .i64 0, .string ⟨#[]⟩, .slice none 0 0, .slice none 0 0]) (by simp [results, Tryz.results37, go_sem, r0, r1, r2, r3, r4, r5, o0, o1, o2, o3, o4, o5, td0]) rfl ?_
    exact ans_end (q := td0) (by rfl) HS4.out HRS.out OwR.nil (owr_z OwR.nil) HMV.out (by rw [HQ.out]; omega) (by rw [HQ.out]; exact hlw)
set_option maxRecDepth 100000 in
set_option maxHeartbeats 4000000 in
theorem q9_calls (lo l : Nat) (v1 v2 : Value) (t : PTr) (L : Lk) (hv pv : Value) (a : PAsk) (w : World) (h : SpL w lo l t.moms.length t.moms v1 v2 L hv pv) (wb : World) (hrb : RdTr wb v1 v2 t) (hbb : Below wb.heap.size wb w) (hbl : wb.heap.size ≤ lo) (hsm : smTr t) (hso : soundP t = true) (hok : LkOk t L) (hlo : lo ≤ l) (hl : L.past.length ≤ 1000000)
    (h1 : a.op = 9) (ha : askOk a = true) (hz : a.nm.size ≤ 9223372036854775807) :
    Calls Tryz.prog 37 #[.pointer (some ⟨l, 0, none⟩), .agg #[.int .i64 a.op, .int .i64 a.n, .string a.nm, .int .i64 a.stop.kind, .int .i64 a.stop.fn, .int .i64 a.stop.line, .string a.stop.nm]] w (AnsPost (doTo t L a) lo l t.moms.length t.moms v1 v2 w) := by
  obtain ⟨op, n, nm, st⟩ := a
  have h1 : op = 9 := h1
  subst h1
  have hlw : lo ≤ w.heap.size := Nat.le_trans hlo (Nat.le_of_lt h.blk.lt)
  obtain ⟨A4, c4, rfl, -, -⟩ := h.past.cap
  obtain ⟨A3, c3, rfl, hc3⟩ := h.hits.cap
  have HS := Lib.hid h
  have HRB := Lib.hid hrb
  have HBB := Lib.hid hbb
  have HSM := Lib.hid hsm
  have HSO := Lib.hid hso
  have HOK := Lib.hid hok
  have hok' := Lib.hid ha
  have hln := hok.ln
  have hpl := hok.lo
  have hph := hok.hi
  have hmn := (sound_fns (sound_iff hso)).2.2
  obtain ⟨⟨A1, c1, rfl, hn1, -⟩, ⟨vv, ⟨A2, c2, rfl, hn2, -⟩, -⟩⟩ := hrb
  have hba := bl_alloc (bl_alloc (bl_alloc (Below.refl _ w) (.cells #[.int .i64 9, .int .i64 n, .string nm, .int .i64 st.kind, .int .i64 st.fn, .int .i64 st.line, .string st.nm] 47)) (.cells #[.int .i64 0, .int .i64 0, .int .i64 0, .string ⟨#[]⟩, .slice none 0 0, .slice none 0 0] 38)) (.cells #[.int .i64 0, .int .i64 0, .int .i64 0, .string ⟨#[]⟩, .slice none 0 0, .slice none 0 0] 38)
  have hA := ((ask_box w 9 n nm st).alloc (.cells #[.int .i64 0, .int .i64 0, .int .i64 0, .string ⟨#[]⟩, .slice none 0 0, .slice none 0 0] 38)).alloc (.cells #[.int .i64 0, .int .i64 0, .int .i64 0, .string ⟨#[]⟩, .slice none 0 0, .slice none 0 0] 38)
  have hR := (told_box (w.alloc (.cells #[.int .i64 9, .int .i64 n, .string nm, .int .i64 st.kind, .int .i64 st.fn, .int .i64 st.line, .string st.nm] 47))).alloc (.cells #[.int .i64 0, .int .i64 0, .int .i64 0, .string ⟨#[]⟩, .slice none 0 0, .slice none 0 0] 38)
  have hO := told_box ((w.alloc (.cells #[.int .i64 9, .int .i64 n, .string nm, .int .i64 st.kind, .int .i64 st.fn, .int .i64 st.line, .string st.nm] 47)).alloc (.cells #[.int .i64 0, .int .i64 0, .int .i64 0, .string ⟨#[]⟩, .slice none 0 0, .slice none 0 0] 38))
  rw [World.size_alloc] at hR
  rw [World.size_alloc, World.size_alloc] at hO
  have HA := Lib.hid hA
  have HRS := Lib.hid hR
  have HO := Lib.hid hO
  have HW := Lib.hid hba
  clear h hsm hso hok hA hR hO hba hbb ha
  go_enter Tryz.func37, Tryz.ntmps37
  go_wp2_with fail
  refine (l5askOk_calls ⟨9, n, nm, st⟩ _ hz).mono ?_; rintro e w1 ⟨rfl, hb⟩
  rw [hok'.out]
  have hbw := bl_then HW.out hb
  have HMV := Lib.hid (Mv.of_below (ts := qTys) hbw hlw)
  replace HA := Lib.hid (HA.out.later hb); replace HRS := Lib.hid (HRS.out.later hb); replace HO := Lib.hid (HO.out.later hb); clear hb
  replace HS := Lib.hid (HS.out.later hbw)
  have HR := Lib.hid (HRB.out.later (bl_trans9 HBB.out (bl_low9 hbw (Nat.le_trans hbl hlw))))
  clear hbw HW
  obtain ⟨q, hq⟩ : ∃ q, w.heap.size = q := ⟨_, rfl⟩
  have HQ := Lib.hid hq
  rw [hq] at HA HRS HO hlw ⊢
  clear hq
  have x0 : w1.cell? ⟨q, 0, none⟩ = some (.int .i64 9) := HA.out.cell (j := 0) (by omega)
  go_upto_region 42 with fail
  clear x0
  have hbd : Below w1.heap.size w1 w1.drew := bl_drew (Below.refl _ _)
  replace HMV := Lib.hid HMV.out.drew
  replace HS := Lib.hid (HS.out.later hbd); replace HA := Lib.hid (HA.out.later hbd); replace HRS := Lib.hid (HRS.out.later hbd); replace HO := Lib.hid (HO.out.later hbd); replace HR := Lib.hid (HR.out.later hbd); clear hbd
  refine wp_region_H (fun w' : World => Below w1.drew.heap.size w1.drew w') (by kernel_rfl) ?_
  generalize w1.drew = W2 at HMV HS HA HRS HO HR ⊢
  have HS0 : Hid (Below W2.heap.size W2 W2) := Lib.hid (Below.refl _ _)
  have z1 : W2.cell? ⟨l, 1, none⟩ = some (.slice A2 t.moms.length c2) := HS.out.blk.cell (j := 1) (by omega)
  have zn : W2.cell? ⟨q, 1, none⟩ = some (.int .i64 n) := HA.out.cell (j := 1) (by omega)
  refine wpAnyH_take2 0 (v := ?v0m) (by rfl) (by kernel_rfl) (by intro _ _ _ h; exact h) HS0.out (by rfl) ?hy0m ?rest0m
  case hy0m =>
    intro w' hSw
    have sz1 := cell_later hSw z1
    have szn := cell_later hSw zn
    clear hSw
    go_simp
    try with_reducible rfl
  simp only [Act.put, List.setIfInBounds_toArray, List.set_cons_zero, List.set_cons_succ]
  refine wpAnyH_take2 1 (v := ?v1m) (by rfl) (by kernel_rfl) (by intro _ _ _ h; exact h) HS0.out (by rfl) ?hy1m ?rest1m
  case hy1m =>
    intro w' hSw
    have sz1 := cell_later hSw z1
    have szn := cell_later hSw zn
    clear hSw
    go_simp
    try with_reducible rfl
  simp only [Act.put, List.setIfInBounds_toArray, List.set_cons_zero, List.set_cons_succ]
  refine wpAnyH_take2 2 (v := ?v2m) (by rfl) (by kernel_rfl) (by intro _ _ _ h; exact h) HS0.out (by rfl) ?hy2m ?rest2m
  case hy2m =>
    intro w' hSw
    have sz1 := cell_later hSw z1
    have szn := cell_later hSw zn
    clear hSw
    go_simp
    try with_reducible rfl
  simp only [Act.put, List.setIfInBounds_toArray, List.set_cons_zero, List.set_cons_succ]
  refine wpAnyH_take2 3 (v := ?v3m) (by rfl) (by kernel_rfl) (by intro _ _ _ h; exact h) HS0.out (by rfl) ?hy3m ?rest3m
  case hy3m =>
    intro w' hSw
    have sz1 := cell_later hSw z1
    have szn := cell_later hSw zn
    clear hSw
    go_simp
    try with_reducible rfl
  simp only [Act.put, List.setIfInBounds_toArray, List.set_cons_zero, List.set_cons_succ]
  refine wpAnyH_take2 4 (v := ?v4m) (by rfl) (by kernel_rfl) (by intro _ _ _ h; exact h) HS0.out (by rfl) ?hy4m ?rest4m
  case hy4m =>
    intro w' hSw
    have sz1 := cell_later hSw z1
    have szn := cell_later hSw zn
    clear hSw
    go_simp
    try with_reducible rfl
  simp only [Act.put, List.setIfInBounds_toArray, List.set_cons_zero, List.set_cons_succ]
  refine wpAnyH_take2 5 (v := ?v5m) (by rfl) (by kernel_rfl) (by intro _ _ _ h; exact h) HS0.out (by rfl) ?hy5m ?rest5m
  case hy5m =>
    intro w' hSw
    have sz1 := cell_later hSw z1
    have szn := cell_later hSw zn
    clear hSw
    go_simp
    try with_reducible rfl
  simp only [Act.put, List.setIfInBounds_toArray, List.set_cons_zero, List.set_cons_succ]
  refine wpAnyH_take2 6 (v := ?v6m) (by rfl) (by kernel_rfl) (by intro _ _ _ h; exact h) HS0.out (by rfl) ?hy6m ?rest6m
  case hy6m =>
    intro w' hSw
    have sz1 := cell_later hSw z1
    have szn := cell_later hSw zn
    clear hSw
    go_simp
    try with_reducible rfl
  simp only [Act.put, List.setIfInBounds_toArray, List.set_cons_zero, List.set_cons_succ]
  refine wpAnyH_take2 7 (v := ?v7m) (by rfl) (by kernel_rfl) (by intro _ _ _ h; exact h) HS0.out (by rfl) ?hy7m ?rest7m
  case hy7m =>
    intro w' hSw
    have sz1 := cell_later hSw z1
    have szn := cell_later hSw zn
    clear hSw
    go_simp
    try with_reducible rfl
  simp only [Act.put, List.setIfInBounds_toArray, List.set_cons_zero, List.set_cons_succ]
  refine wpAnyH_take2 8 (v := ?v8m) (by rfl) (by kernel_rfl) (by intro _ _ _ h; exact h) HS0.out (by rfl) ?hy8m ?rest8m
  case hy8m =>
    intro w' hSw
    have sz1 := cell_later hSw z1
    have szn := cell_later hSw zn
    clear hSw
    go_simp
    try with_reducible rfl
  simp only [Act.put, List.setIfInBounds_toArray, List.set_cons_zero, List.set_cons_succ]
  refine wpAnyH_done (by kernel_rfl) ?_ _
  simp only [List.getElem_toArray, List.getElem_cons_zero, List.getElem_cons_succ, List.setIfInBounds_toArray, List.set_cons_zero, List.set_cons_succ]
  clear HS0
  by_cases hc : (t.moms.length : Int) < n
  · have hu : doTo t L ⟨9, n, nm, st⟩ = (td0, L, 4) := by unfold doTo; rw [if_pos hc]
    have r0 := HRS.out.cell (j := 0) (by omega)
    have e0 := HRS.out.free 0
    have o0 := HO.out.cell (j := 0) (by omega)
    have g0 := HO.out.free 0
    have r1 := HRS.out.cell (j := 1) (by omega)
    have e1 := HRS.out.free 1
    have o1 := HO.out.cell (j := 1) (by omega)
    have g1 := HO.out.free 1
    have r2 := HRS.out.cell (j := 2) (by omega)
    have e2 := HRS.out.free 2
    have o2 := HO.out.cell (j := 2) (by omega)
    have g2 := HO.out.free 2
    have r3 := HRS.out.cell (j := 3) (by omega)
    have e3 := HRS.out.free 3
    have o3 := HO.out.cell (j := 3) (by omega)
    have g3 := HO.out.free 3
    have r4 := HRS.out.cell (j := 4) (by omega)
    have e4 := HRS.out.free 4
    have o4 := HO.out.cell (j := 4) (by omega)
    have g4 := HO.out.free 4
    have r5 := HRS.out.cell (j := 5) (by omega)
    have e5 := HRS.out.free 5
    have o5 := HO.out.cell (j := 5) (by omega)
    have g5 := HO.out.free 5
    simp only [tdF] at r0 r1 r2 r3 r4 r5 o0 o1 o2 o3 o4 o5
    go_wp2_with fail
    refine bodyPost_ret (v := .agg #[.int .i64 0, .int .i64 4, .int .i64 0, .string ⟨#[]⟩, .slice none 0 0, .slice none 0 0]) (by simp [results, Tryz.results37, go_sem, r0, r1, r2, r3, r4, r5, o0, o1, o2, o3, o4, o5, td0]) rfl ?_
    rw [hu]; exact ans_end (q := { td0 with code := 4 }) (by rfl) (HS.out.farT HO.out 1 _) (HRS.out.far (show q + 1 ≠ q + 1 + 1 by omega) _) OwR.nil (owr_z OwR.nil) (HMV.out.setNew (p := ⟨q + 1 + 1, 1, none⟩) (by dsimp only; omega) (by rw [HQ.out]; dsimp only; omega) (.int .i64 4)) (by rw [HQ.out]; omega) (by rw [HQ.out]; exact hlw)
  · have hu : doTo t L ⟨9, n, nm, st⟩ = (td0, L.move n, 0) := by unfold doTo; rw [if_neg hc]
    go_wp2_with fail
    refine (l5move_calls lo l _ t.moms _ _ L _ _ n _ HS.out hlo hl).mono ?_; rintro e w4 ⟨rfl, ⟨pv', hS4⟩, hm⟩
    have HS4 := Lib.hid hS4
    replace HRS := Lib.hid (HRS.out.mv hm (by decide))
    replace HO := Lib.hid (HO.out.mv hm (by decide))
    replace HMV := Lib.hid (HMV.out.trans hm)
    clear hS4 hm HS HA z1 zn
    have r0 := HRS.out.cell (j := 0) (by omega)
    have e0 := HRS.out.free 0
    have o0 := HO.out.cell (j := 0) (by omega)
    have g0 := HO.out.free 0
    have r1 := HRS.out.cell (j := 1) (by omega)
    have e1 := HRS.out.free 1
    have o1 := HO.out.cell (j := 1) (by omega)
    have g1 := HO.out.free 1
    have r2 := HRS.out.cell (j := 2) (by omega)
    have e2 := HRS.out.free 2
    have o2 := HO.out.cell (j := 2) (by omega)
    have g2 := HO.out.free 2
    have r3 := HRS.out.cell (j := 3) (by omega)
    have e3 := HRS.out.free 3
    have o3 := HO.out.cell (j := 3) (by omega)
    have g3 := HO.out.free 3
    have r4 := HRS.out.cell (j := 4) (by omega)
    have e4 := HRS.out.free 4
    have o4 := HO.out.cell (j := 4) (by omega)
    have g4 := HO.out.free 4
    have r5 := HRS.out.cell (j := 5) (by omega)
    have e5 := HRS.out.free 5
    have o5 := HO.out.cell (j := 5) (by omega)
    have g5 := HO.out.free 5
    simp only [tdF] at r0 r1 r2 r3 r4 r5 o0 o1 o2 o3 o4 o5
    go_wp2_with fail
    refine bodyPost_ret (v := .agg #[.int .i64 0, .int .i64 0, .int .i64 0, .string ⟨#[]⟩, .slice none 0 0, .slice none 0 0]) (by simp [results, Tryz.results37, go_sem, r0, r1, r2, r3, r4, r5, o0, o1, o2, o3, o4, o5, td0]) rfl ?_
    rw [hu]; exact ans_end (q := td0) (by rfl) HS4.out HRS.out OwR.nil (owr_z OwR.nil) HMV.out (by rw [HQ.out]; omega) (by rw [HQ.out]; exact hlw)
end Go.Proofs.YtcklnjjbhngbcaaGreatDoor
