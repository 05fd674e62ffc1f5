/- The laws' helpers toTrace and eq..: of one datum that is read twice they answer true. (Written by L3.py.) -/
import Derived.Test.YtcklnjjbhngbcaaDoorL2
namespace Go.Proofs.YtcklnjjbhngbcaaDoor
open Go.RowKit Go.Proofs.Lens

set_option maxRecDepth 100000 in
set_option maxHeartbeats 400000 in
theorem toTrace_calls (v1 v2 : Value) (t : PTr) (w : World) (hr : RdTr w v1 v2 t) (hz : smTr t) :
    Calls Tryd.prog 6 #[.agg #[v1, v2]] w fun e w' => ∃ u1 u2, e = .returned (.agg #[u1, u2]) ∧ OwStrs w' w.heap.size u1 t.fns ∧ OwMoms w' w.heap.size u2 t.moms ∧ Below w.heap.size w w' := by
  have HR := Lib.hid hr
  have HZ := Lib.hid hz
  obtain ⟨⟨A1, c1, rfl, hn1, hrow⟩, ⟨vv, ⟨A2, c2, rfl, hn2, hrow2⟩, hvv⟩⟩ := hr
  clear hz hrow hrow2 hvv
  go_enter Tryd.func6, Tryd.ntmps6
  go_wp2_with fail
  refine (toStrings_calls _ t.fns _ (HR.out.1.later (bl_alloc (bl_alloc (bl_alloc (Below.refl _ _) _) _) _)) HZ.out.1.1).mono ?_; rintro e w1 ⟨u1, rfl, ho1, hb1⟩
  have hx := (((Blk.made w _ _).alloc _).alloc _).later hb1
  have hy := ((Blk.made (w.alloc _) _ _).alloc _).later hb1
  have hz := (Blk.made ((w.alloc _).alloc _) _ _).later hb1
  have HL1 := Lib.hid (bl_then (bl_alloc (bl_alloc (bl_alloc (Below.refl _ w) _) _) _) hb1)
  have hs1 := hb1.size
  simp only [World.size_alloc] at hx hy hz ho1 hs1
  have HO1 := Lib.hid ho1
  have a1 : w1.cell? ⟨w.heap.size, 1, none⟩ = some (.slice A2 t.moms.length c2) := hx.cell (j := 1) (by simp)
  have z0 : w1.cell? ⟨w.heap.size + 1 + 1, 0, none⟩ = some (.slice none 0 0) := hz.cell (j := 0) (by simp)
  have z0' := hz.free 0
  have HX := Lib.hid hx
  have HY := Lib.hid hy
  have HZ2 := Lib.hid hz
  obtain ⟨g1, d1, f1, rfl, -⟩ := ho1
  clear hx hy hz hb1
  go_wp2_with fail
  refine (toMoments_calls _ t.moms _ (HR.out.2.later (bl_set HL1.out (by dsimp only; omega) _)) HZ.out.2).mono ?_; rintro e w2 ⟨u2, rfl, ho2, hb2⟩
  have hy := (HY.out.far (by dsimp only; omega) _).later hb2
  have hz := (HZ2.out.set (j := 0) (by simp) _).later hb2
  have HO3 := Lib.hid ((HO1.out.far (by dsimp only; omega) _).later hb2)
  have hs2 := hb2.size
  simp only [World.size_setCell] at ho2 hs2
  have HO2 := Lib.hid ho2
  have HL2 := Lib.hid (bl_then (bl_set HL1.out (by dsimp only; omega) _) hb2)
  have b0 : w2.cell? ⟨w.heap.size + 1 + 1, 0, none⟩ = some (.slice (some ⟨g1, 0, none⟩) t.fns.length d1) := hz.cell (j := 0) (by simp)
  have b1 : w2.cell? ⟨w.heap.size + 1 + 1, 1, none⟩ = some (.slice none 0 0) := hz.cell (j := 1) (by simp)
  have b2 := hz.free 1
  have y0 : w2.cell? ⟨w.heap.size + 1, 0, none⟩ = some (.slice none 0 0) := hy.cell (j := 0) (by simp)
  have y1 : w2.cell? ⟨w.heap.size + 1, 1, none⟩ = some (.slice none 0 0) := hy.cell (j := 1) (by simp)
  have y2 := hy.free 0
  have y3 := hy.free 1
  obtain ⟨g2, d2, f2, rfl, -⟩ := ho2
  clear hy hz hb2
  go_wp2
  refine bodyPost_ret (v := .agg #[.slice (some ⟨g1, 0, none⟩) t.fns.length d1, .slice (some ⟨g2, 0, none⟩) t.moms.length d2])
    (by simp [results, Tryd.results6, go_sem, y0, y1]) rfl ⟨_, _, rfl, ?_, ?_, ?_⟩
  · refine OwStrs.lower ?_ (lo := w.heap.size + 1 + 1 + 1) (by omega)
    repeat (refine OwStrs.far ?_ (by dsimp only; omega) _)
    exact HO3.out
  · refine OwMoms.lower ?_ (lo := w1.heap.size) (by omega)
    repeat (refine OwMoms.far ?_ (by dsimp only; omega) _)
    exact HO2.out
  · repeat (refine bl_set ?_ (by dsimp only; omega) _)
    exact HL2.out


set_option maxRecDepth 100000 in
set_option maxHeartbeats 400000 in
theorem eqVar_calls (p : PVar) (w : World) :
    Calls Tryd.prog 70 #[.agg #[.string p.nm, .string p.tx], .agg #[.string p.nm, .string p.tx]] w fun e w' => e = .returned (.bool true) ∧ Below w.heap.size w w' := by
  go_enter Tryd.func70, Tryd.ntmps70
  go_wp2
  go_ret
  exact ⟨rfl, bl_alloc (bl_alloc (Below.refl _ _) _) _⟩


set_option maxRecDepth 100000 in
set_option maxHeartbeats 400000 in
theorem eqVars_calls (v1 v2 : Value) (xs : List PVar) (w : World) (h1 : RdVars w v1 xs) (h2 : RdVars w v2 xs) :
    Calls Tryd.prog 50 #[v1, v2] w fun e w' => e = .returned (.bool true) ∧ Below w.heap.size w w' := by
  have H1 := Lib.hid h1
  have H2 := Lib.hid h2
  obtain ⟨A, c, rfl, hn, hrow⟩ := h1
  obtain ⟨A2, c2, rfl, -, hrow2⟩ := h2
  clear hrow hrow2
  go_enter Tryd.func50, Tryd.ntmps50
  go_wp2
  go_loopw [5] (fun i wr => ∃ (k : Nat), k ≤ xs.length ∧ i = .int .i64 k ∧ Below w.heap.size w wr) (fun i _ => xs.length - (intOf i).toNat)
  case atStart => exact ⟨0, Nat.zero_le _, rfl, Below.refl _ _⟩
  case round =>
    obtain ⟨k, hk, rfl, hb⟩ := hrel
    have HL := Lib.hid hb
    by_cases hlt : k < xs.length
    · obtain ⟨A', c', he, _, hrow⟩ := H1.out.later hb
      obtain ⟨rfl, rfl⟩ : A = A' ∧ c = c' := by simpa using he
      obtain ⟨b, o, rfl, hc⟩ := hrow (by omega)
      obtain ⟨A', c', he', _, hrow'⟩ := H2.out.later hb
      obtain ⟨rfl, rfl⟩ : A2 = A' ∧ c2 = c' := by simpa using he'
      obtain ⟨b2, o2, rfl, hc2⟩ := hrow' (by omega)
      have x0 : wr.cell? ⟨b, o + k * 2, none⟩ = some (.string (elt xs k).nm) := hc k hlt 0 (by omega)
      have x1 : wr.cell? ⟨b, o + k * 2 + 1, none⟩ = some (.string (elt xs k).tx) := hc k hlt 1 (by omega)
      have y0 : wr.cell? ⟨b2, o2 + k * 2, none⟩ = some (.string (elt xs k).nm) := hc2 k hlt 0 (by omega)
      have y1 : wr.cell? ⟨b2, o2 + k * 2 + 1, none⟩ = some (.string (elt xs k).tx) := hc2 k hlt 1 (by omega)
      clear hc hc2 he he' hrow hrow' hb
      go_wp2_with fail
      go_still_tail 8, (by kernel_rfl)
      go_wp2_with fail
      refine (eqVar_calls (elt xs k) _).mono ?_; rintro e w1 ⟨rfl, hb1⟩
      have HL1 := Lib.hid (bl_then (bl_drew HL.out) hb1)
      clear hb1
      go_wp2
      go_roundw
      case rel => exact ⟨k + 1, by omega, by go_num, HL1.out⟩
      case measure => simp [intOf]; omega
    · clear hb
      go_wp2
      go_ret
      exact ⟨rfl, HL.out⟩


set_option maxRecDepth 100000 in
set_option maxHeartbeats 400000 in
theorem eqStrings_calls (v1 v2 : Value) (xs : List ByteArray) (w : World) (h1 : RdStrs w v1 xs) (h2 : RdStrs w v2 xs) :
    Calls Tryd.prog 22 #[v1, v2] w fun e w' => e = .returned (.bool true) ∧ Below w.heap.size w w' := by
  have H1 := Lib.hid h1
  have H2 := Lib.hid h2
  obtain ⟨A, c, rfl, hn, hrow⟩ := h1
  obtain ⟨A2, c2, rfl, -, hrow2⟩ := h2
  clear hrow hrow2
  go_enter Tryd.func22, Tryd.ntmps22
  go_wp2
  go_loopw [5] (fun i wr => ∃ (k : Nat), k ≤ xs.length ∧ i = .int .i64 k ∧ Below w.heap.size w wr) (fun i _ => xs.length - (intOf i).toNat)
  case atStart => exact ⟨0, Nat.zero_le _, rfl, Below.refl _ _⟩
  case round =>
    obtain ⟨k, hk, rfl, hb⟩ := hrel
    have HL := Lib.hid hb
    by_cases hlt : k < xs.length
    · obtain ⟨A', c', he, _, hrow⟩ := H1.out.later hb
      obtain ⟨rfl, rfl⟩ : A = A' ∧ c = c' := by simpa using he
      obtain ⟨b, o, rfl, hc⟩ := hrow (by omega)
      obtain ⟨A', c', he', _, hrow'⟩ := H2.out.later hb
      obtain ⟨rfl, rfl⟩ : A2 = A' ∧ c2 = c' := by simpa using he'
      obtain ⟨b2, o2, rfl, hc2⟩ := hrow' (by omega)
      have x0 : wr.cell? ⟨b, o + k, none⟩ = some (.string (elt xs k)) := by have := hc k hlt 0 (by omega); simp only [Nat.mul_one, Nat.add_zero] at this; exact this
      have y0 : wr.cell? ⟨b2, o2 + k, none⟩ = some (.string (elt xs k)) := by have := hc2 k hlt 0 (by omega); simp only [Nat.mul_one, Nat.add_zero] at this; exact this
      clear hc hc2 he he' hrow hrow' hb
      go_wp2_with fail
      go_quiet (fail)
      go_wp2
      go_roundw
      case rel => exact ⟨k + 1, by omega, by go_num, bl_drewN HL.out _⟩
      case measure => simp [intOf]; omega
    · clear hb
      go_wp2
      go_ret
      exact ⟨rfl, HL.out⟩


set_option maxRecDepth 100000 in
set_option maxHeartbeats 400000 in
theorem eqMoment_calls (p : PMom) (v1 v2 : Value) (w : World) (h1 : RdVars w v1 p.vars) (h2 : RdVars w v2 p.vars) :
    Calls Tryd.prog 37 #[.agg #[.int .i64 p.kind, .int .i64 p.task, .int .i64 p.fn, .int .i64 p.line, .string p.text, v1], .agg #[.int .i64 p.kind, .int .i64 p.task, .int .i64 p.fn, .int .i64 p.line, .string p.text, v2]] w
      fun e w' => e = .returned (.bool true) ∧ Below w.heap.size w w' := by
  have H1 := Lib.hid h1
  have H2 := Lib.hid h2
  clear h1 h2
  go_enter Tryd.func37, Tryd.ntmps37
  go_wp2_with fail
  refine (eqVars_calls _ _ p.vars _ (H1.out.later (bl_alloc (bl_alloc (Below.refl _ _) _) _)) (H2.out.later (bl_alloc (bl_alloc (Below.refl _ _) _) _))).mono ?_; rintro e w1 ⟨rfl, hb1⟩
  have HL1 := Lib.hid (bl_then (bl_alloc (bl_alloc (Below.refl _ w) _) _) hb1)
  clear hb1
  go_wp2
  go_ret
  exact ⟨rfl, HL1.out⟩

set_option maxRecDepth 100000 in
set_option maxHeartbeats 400000 in
theorem eqMoments_calls (v1 v2 : Value) (xs : List PMom) (w : World) (h1 : RdMoms w v1 xs) (h2 : RdMoms w v2 xs) :
    Calls Tryd.prog 23 #[v1, v2] w fun e w' => e = .returned (.bool true) ∧ Below w.heap.size w w' := by
  obtain ⟨vv, h1, hv1⟩ := h1
  obtain ⟨vv2, h2, hv2⟩ := h2
  have H1 := Lib.hid h1
  have H2 := Lib.hid h2
  have V1 := Lib.hid hv1
  have V2 := Lib.hid hv2
  obtain ⟨A, c, rfl, hn, hrow⟩ := h1
  obtain ⟨A2, c2, rfl, -, hrow2⟩ := h2
  clear hrow hrow2 hv1 hv2
  go_enter Tryd.func23, Tryd.ntmps23
  go_wp2
  go_loopw [5] (fun i wr => ∃ (k : Nat), k ≤ xs.length ∧ i = .int .i64 k ∧ Below w.heap.size w wr) (fun i _ => xs.length - (intOf i).toNat)
  case atStart => exact ⟨0, Nat.zero_le _, rfl, Below.refl _ _⟩
  case round =>
    obtain ⟨k, hk, rfl, hb⟩ := hrel
    have HL := Lib.hid hb
    by_cases hlt : k < xs.length
    · obtain ⟨A', c', he, _, hrow⟩ := H1.out.later hb
      obtain ⟨rfl, rfl⟩ : A = A' ∧ c = c' := by simpa using he
      obtain ⟨b, o, rfl, hc⟩ := hrow (by omega)
      obtain ⟨A', c', he', _, hrow'⟩ := H2.out.later hb
      obtain ⟨rfl, rfl⟩ : A2 = A' ∧ c2 = c' := by simpa using he'
      obtain ⟨b2, o2, rfl, hc2⟩ := hrow' (by omega)
      have x0 : wr.cell? ⟨b, o + k * 6, none⟩ = some (.int .i64 (elt xs k).kind) := hc k hlt 0 (by omega)
      have x1 : wr.cell? ⟨b, o + k * 6 + 1, none⟩ = some (.int .i64 (elt xs k).task) := hc k hlt 1 (by omega)
      have x2 : wr.cell? ⟨b, o + k * 6 + 2, none⟩ = some (.int .i64 (elt xs k).fn) := hc k hlt 2 (by omega)
      have x3 : wr.cell? ⟨b, o + k * 6 + 3, none⟩ = some (.int .i64 (elt xs k).line) := hc k hlt 3 (by omega)
      have x4 : wr.cell? ⟨b, o + k * 6 + 4, none⟩ = some (.string (elt xs k).text) := hc k hlt 4 (by omega)
      have x5 : wr.cell? ⟨b, o + k * 6 + 5, none⟩ = some (vv k) := hc k hlt 5 (by omega)
      have y0 : wr.cell? ⟨b2, o2 + k * 6, none⟩ = some (.int .i64 (elt xs k).kind) := hc2 k hlt 0 (by omega)
      have y1 : wr.cell? ⟨b2, o2 + k * 6 + 1, none⟩ = some (.int .i64 (elt xs k).task) := hc2 k hlt 1 (by omega)
      have y2 : wr.cell? ⟨b2, o2 + k * 6 + 2, none⟩ = some (.int .i64 (elt xs k).fn) := hc2 k hlt 2 (by omega)
      have y3 : wr.cell? ⟨b2, o2 + k * 6 + 3, none⟩ = some (.int .i64 (elt xs k).line) := hc2 k hlt 3 (by omega)
      have y4 : wr.cell? ⟨b2, o2 + k * 6 + 4, none⟩ = some (.string (elt xs k).text) := hc2 k hlt 4 (by omega)
      have y5 : wr.cell? ⟨b2, o2 + k * 6 + 5, none⟩ = some (vv2 k) := hc2 k hlt 5 (by omega)
      clear hc hc2 he he' hrow hrow' hb
      go_wp2_with fail
      go_still_tail 8, (by kernel_rfl)
      go_wp2_with fail
      refine (eqMoment_calls (elt xs k) _ _ _ ((V1.out k hlt).later (bl_drew HL.out)) ((V2.out k hlt).later (bl_drew HL.out))).mono ?_; rintro e w1 ⟨rfl, hb1⟩
      have HL1 := Lib.hid (bl_then (bl_drew HL.out) hb1)
      clear hb1
      go_wp2
      go_roundw
      case rel => exact ⟨k + 1, by omega, by go_num, HL1.out⟩
      case measure => simp [intOf]; omega
    · clear hb
      go_wp2
      go_ret
      exact ⟨rfl, HL.out⟩

set_option maxRecDepth 100000 in
set_option maxHeartbeats 400000 in
theorem eqTrace_calls (v1 v2 u1 u2 : Value) (t : PTr) (w : World) (h1 : RdTr w v1 v2 t) (h2 : RdTr w u1 u2 t) :
    Calls Tryd.prog 8 #[.agg #[v1, v2], .agg #[u1, u2]] w fun e w' => e = .returned (.bool true) ∧ Below w.heap.size w w' := by
  have H1 := Lib.hid h1
  have H2 := Lib.hid h2
  obtain ⟨⟨A1, c1, rfl, -⟩, ⟨vv, ⟨A2, c2, rfl, -⟩, -⟩⟩ := h1
  obtain ⟨⟨A3, c3, rfl, -⟩, ⟨vv2, ⟨A4, c4, rfl, -⟩, -⟩⟩ := h2
  go_enter Tryd.func8, Tryd.ntmps8
  go_wp2_with fail
  refine (eqStrings_calls _ _ t.fns _ (H1.out.1.later (bl_alloc (bl_alloc (Below.refl _ _) _) _)) (H2.out.1.later (bl_alloc (bl_alloc (Below.refl _ _) _) _))).mono ?_; rintro e w1 ⟨rfl, hb1⟩
  have HL1 := Lib.hid (bl_then (bl_alloc (bl_alloc (Below.refl _ w) _) _) hb1)
  have hx := ((Blk.made w _ _).alloc _).later hb1
  have hy := (Blk.made (w.alloc _) _ _).later hb1
  simp only [World.size_alloc] at hx hy
  have a1 : w1.cell? ⟨w.heap.size, 1, none⟩ = some (.slice A2 t.moms.length c2) := hx.cell (j := 1) (by simp)
  have a2 : w1.cell? ⟨w.heap.size + 1, 1, none⟩ = some (.slice A4 t.moms.length c4) := hy.cell (j := 1) (by simp)
  clear hx hy hb1
  go_wp2_with fail
  refine (eqMoments_calls _ _ t.moms _ (H1.out.2.later HL1.out) (H2.out.2.later HL1.out)).mono ?_; rintro e w2 ⟨rfl, hb2⟩
  have HL2 := Lib.hid (bl_then HL1.out hb2)
  clear hb2
  go_wp2
  go_ret
  exact ⟨rfl, HL2.out⟩
end Go.Proofs.YtcklnjjbhngbcaaDoor
