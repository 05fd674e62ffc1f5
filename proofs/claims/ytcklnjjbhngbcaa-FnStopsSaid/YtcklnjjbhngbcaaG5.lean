/- The reference's choices: a stop. -/
import Derived.Test.YtcklnjjbhngbcaaG2
import Derived.Test.YtcklnjjbhngbcaaP9
namespace Go.Proofs.Ytcklnjjbhngbcaa
open Go.RowKit Go.Proofs.Lens

def stopF (p : PStop) (j : Nat) : Value := #[Value.int .i64 p.kind, .int .i64 p.fn, .int .i64 p.line, .string p.nm].getD j undef
theorem sbox_new (W : World) : Blk (W.alloc (.cells #[.int .i64 0, .int .i64 0, .int .i64 0, .string eT] 27)) W.heap.size 27 4 (stopF ⟨0, 0, 0, eT⟩) :=
  (Blk.made W #[.int .i64 0, .int .i64 0, .int .i64 0, .string eT] 27).congr fun j hj => by
    have hj : j < 4 := hj
    match j, hj with
    | 0, _ => rfl
    | 1, _ => rfl
    | 2, _ => rfl
    | 3, _ => rfl

set_option maxRecDepth 100000 in
set_option maxHeartbeats 4000000 in
theorem stop_calls (w0 : World) (g : Nat) (cv : Value) (code : List Nat) (c : Cu) (w : World) (hr : RdBytes w0 cv code) (hg : w0.heap.size ≤ g) (hb0 : Below w0.heap.size w0 w) (h : CuAt w g cv c) (hp : c.pos ≤ 1000000000000000000) :
    Calls Try.prog 118 #[.pointer (some ⟨g, 0, none⟩)] w fun e w' => e = .returned (stopV (stopP code c).1) ∧ Mv [122] g w w' := by
  have HR := Lib.hid hr
  have HC := Lib.hid h
  have HB0 := Lib.hid hb0
  have hgw : g < w.heap.size := h.blk.lt
  have hn := pickP_lt code c (n := 6) (by omega)
  have hpa := (pick_adv code (n := 6) (by omega) c).1
  have hst : stopP code c = stopP code c := rfl
  conv at hst => rhs; unfold stopP
  obtain ⟨n0, hn0⟩ : ∃ n0, (pickP code 6 c).1 = n0 := ⟨_, rfl⟩
  obtain ⟨c1, hc1⟩ : ∃ c1, (pickP code 6 c).2 = c1 := ⟨_, rfl⟩
  rw [hn0, hc1] at hst
  rw [hn0] at hn
  rw [hc1] at hpa
  have hx1 := pickP_lt code c1 (n := 4) (by omega)
  have hp1 := (pick_adv code (n := 4) (by omega) c1).1
  obtain ⟨y1, hy1⟩ : ∃ y, (pickP code 4 c1).1 = y := ⟨_, rfl⟩
  obtain ⟨c2, hc2⟩ : ∃ y, (pickP code 4 c1).2 = y := ⟨_, rfl⟩
  rw [hy1, hc2] at hst
  rw [hy1] at hx1
  rw [hc2] at hp1
  have hx2 := pickP_lt code c2 (n := 4) (by omega)
  have hx3 := pickP_lt code c2 (n := 3) (by omega)
  obtain ⟨y2, hy2⟩ : ∃ y, (pickP code 4 c2).1 = y := ⟨_, rfl⟩
  obtain ⟨y3, hy3⟩ : ∃ y, (pickP code 3 c2).1 = y := ⟨_, rfl⟩
  rw [hy2, hy3] at hst
  rw [hy2] at hx2
  rw [hy3] at hx3
  have HE : Hid (((pickP code 6 c).1 = n0 ∧ (pickP code 6 c).2 = c1) ∧ ((pickP code 4 c1).1 = y1 ∧ (pickP code 4 c1).2 = c2) ∧ (pickP code 4 c2).1 = y2 ∧ (pickP code 3 c2).1 = y3) := Lib.hid ⟨⟨hn0, hc1⟩, ⟨hy1, hc2⟩, hy2, hy3⟩
  have HST := Lib.hid hst
  have hc1p : c1.pos ≤ 1152921504606846976 := by omega
  have hc2p : c2.pos ≤ 1152921504606846976 := by omega
  have hcp : c.pos ≤ 1152921504606846976 := by omega
  clear h hr hb0 hst hn0 hc1 hy1 hc2 hy2 hy3
  go_enter Try.func118, Try.ntmps118
  go_wp2_with fail
  have HX := Lib.hid (sbox_new w)
  have hm0 := (Mv.refl [122] g w).alloc (by omega) (.cells #[.int .i64 0, .int .i64 0, .int .i64 0, .string eT] 27)
  have hC0 := HC.out.later (bl_alloc (Below.refl _ w) (.cells #[.int .i64 0, .int .i64 0, .int .i64 0, .string eT] 27))
  have hb1 := bl_alloc HB0.out (.cells #[.int .i64 0, .int .i64 0, .int .i64 0, .string eT] 27)
  have hsw : w.heap.size < (w.alloc (.cells #[.int .i64 0, .int .i64 0, .int .i64 0, .string eT] 27)).heap.size := by simp
  have e9 : (Value.string eT) = .string ⟨#[]⟩ := rfl
  rw [e9] at HX hm0 hC0 hb1 hsw
  generalize World.alloc w _ = W at HX hm0 hC0 hb1 hsw ⊢
  have HM := Lib.hid hm0
  have HC0 := Lib.hid hC0
  have HB1 := Lib.hid hb1
  clear hm0 hC0 hb1 HC e9
  refine (pick_calls g cv code c 6 _ (HR.out.later HB1.out) HC0.out (by omega) (by omega)).mono ?_; rintro e w1 ⟨rfl, hC, hm⟩
  rw [HE.out.1.1]
  rw [HE.out.1.2] at hC
  have HC1 := Lib.hid hC
  replace HX := Lib.hid (HX.out.mv hm (by decide))
  replace HM := Lib.hid (HM.out.trans hm)
  have hbb := bl_trans9 HB1.out (bl_low9 hm.bl hg)
  replace HB1 := Lib.hid hbb
  replace hsw := Nat.lt_of_lt_of_le hsw hm.bl.size
  clear hC hm HC0 hbb
  by_cases h0 : n0 = 0
  · subst h0
    have HS9 : Hid ((stopP code c).1 = ⟨1, y1, 1 + y2, eT⟩) := Lib.hid (by rw [HST.out]; rfl)
    clear HST
    go_wp2_with fail
    refine (pick_calls g cv code c1 4 _ (HR.out.later HB1.out) HC1.out (by omega) (by omega)).mono ?_; rintro e w2 ⟨rfl, hC, hm⟩
    rw [HE.out.2.1.1]
    rw [HE.out.2.1.2] at hC
    have HC2 := Lib.hid hC
    replace HX := Lib.hid (HX.out.mv hm (by decide))
    replace HM := Lib.hid (HM.out.trans hm)
    have hbb := bl_trans9 HB1.out (bl_low9 hm.bl hg)
    replace HB1 := Lib.hid hbb
    replace hsw := Nat.lt_of_lt_of_le hsw hm.bl.size
    clear hC hm HC1 hbb
    go_wp2_with fail
    refine (pick_calls g cv code c2 4 _ (HR.out.later HB1.out) HC2.out (by omega) (by omega)).mono ?_; rintro e w3 ⟨rfl, hC, hm⟩
    rw [HE.out.2.2.1]
    have HC3 := Lib.hid hC
    replace HX := Lib.hid (HX.out.mv hm (by decide))
    replace HM := Lib.hid (HM.out.trans hm)
    have hbb := bl_trans9 HB1.out (bl_low9 hm.bl hg)
    replace HB1 := Lib.hid hbb
    replace hsw := Nat.lt_of_lt_of_le hsw hm.bl.size
    clear hC hm HC2 hbb
    have y0 := HX.out.cell (j := 0) (by omega)
    have y1' := HX.out.cell (j := 1) (by omega)
    have y2' := HX.out.cell (j := 2) (by omega)
    have y3' := HX.out.cell (j := 3) (by omega)
    have z0 := HX.out.free 0
    have z1 := HX.out.free 1
    have z2 := HX.out.free 2
    have z3 := HX.out.free 3
    simp only [stopF] at y0 y1' y2' y3'
    go_wp2_with fail
    have hX := (((HX.out.set (j := 0) (by omega) (.int .i64 1)).set (j := 1) (by omega) (.int .i64 (y1 : Int))).set (j := 2) (by omega) (.int .i64 (1 + (y2 : Int)))).set (j := 3) (by omega) (.string ⟨#[]⟩)
    have hM := (((HM.out.setNew (p := ⟨w.heap.size, 0, none⟩) (by dsimp only; omega) (Nat.le_refl _) (.int .i64 1)).setNew (p := ⟨w.heap.size, 1, none⟩) (by dsimp only; omega) (Nat.le_refl _) (.int .i64 (y1 : Int))).setNew (p := ⟨w.heap.size, 2, none⟩) (by dsimp only; omega) (Nat.le_refl _) (.int .i64 (1 + (y2 : Int)))).setNew (p := ⟨w.heap.size, 3, none⟩) (by dsimp only; omega) (Nat.le_refl _) (.string ⟨#[]⟩)
    generalize World.setCell (World.setCell (World.setCell (World.setCell w3 _ _) _ _) _ _) _ _ = W9 at hX hM ⊢
    have x0 : W9.cell? ⟨w.heap.size, 0, none⟩ = some (.int .i64 1) := hX.cell (j := 0) (by omega)
    have x1 : W9.cell? ⟨w.heap.size, 1, none⟩ = some (.int .i64 (y1 : Int)) := hX.cell (j := 1) (by omega)
    have x2 : W9.cell? ⟨w.heap.size, 2, none⟩ = some (.int .i64 (1 + (y2 : Int))) := hX.cell (j := 2) (by omega)
    have x3 : W9.cell? ⟨w.heap.size, 3, none⟩ = some (.string ⟨#[]⟩) := hX.cell (j := 3) (by omega)
    refine bodyPost_ret (v := stopV ⟨1, y1, 1 + y2, eT⟩) (by simp [results, Try.results118, go_sem, stopV, eT, x0, x1, x2, x3]) rfl ⟨by rw [HS9.out], hM⟩
  by_cases h1 : n0 = 1
  · subst h1
    have HS9 : Hid ((stopP code c).1 = ⟨1, y1, 1 + y2, eT⟩) := Lib.hid (by rw [HST.out]; rfl)
    clear HST
    go_wp2_with fail
    refine (pick_calls g cv code c1 4 _ (HR.out.later HB1.out) HC1.out (by omega) (by omega)).mono ?_; rintro e w2 ⟨rfl, hC, hm⟩
    rw [HE.out.2.1.1]
    rw [HE.out.2.1.2] at hC
    have HC2 := Lib.hid hC
    replace HX := Lib.hid (HX.out.mv hm (by decide))
    replace HM := Lib.hid (HM.out.trans hm)
    have hbb := bl_trans9 HB1.out (bl_low9 hm.bl hg)
    replace HB1 := Lib.hid hbb
    replace hsw := Nat.lt_of_lt_of_le hsw hm.bl.size
    clear hC hm HC1 hbb
    go_wp2_with fail
    refine (pick_calls g cv code c2 4 _ (HR.out.later HB1.out) HC2.out (by omega) (by omega)).mono ?_; rintro e w3 ⟨rfl, hC, hm⟩
    rw [HE.out.2.2.1]
    have HC3 := Lib.hid hC
    replace HX := Lib.hid (HX.out.mv hm (by decide))
    replace HM := Lib.hid (HM.out.trans hm)
    have hbb := bl_trans9 HB1.out (bl_low9 hm.bl hg)
    replace HB1 := Lib.hid hbb
    replace hsw := Nat.lt_of_lt_of_le hsw hm.bl.size
    clear hC hm HC2 hbb
    have y0 := HX.out.cell (j := 0) (by omega)
    have y1' := HX.out.cell (j := 1) (by omega)
    have y2' := HX.out.cell (j := 2) (by omega)
    have y3' := HX.out.cell (j := 3) (by omega)
    have z0 := HX.out.free 0
    have z1 := HX.out.free 1
    have z2 := HX.out.free 2
    have z3 := HX.out.free 3
    simp only [stopF] at y0 y1' y2' y3'
    go_wp2_with fail
    have hX := (((HX.out.set (j := 0) (by omega) (.int .i64 1)).set (j := 1) (by omega) (.int .i64 (y1 : Int))).set (j := 2) (by omega) (.int .i64 (1 + (y2 : Int)))).set (j := 3) (by omega) (.string ⟨#[]⟩)
    have hM := (((HM.out.setNew (p := ⟨w.heap.size, 0, none⟩) (by dsimp only; omega) (Nat.le_refl _) (.int .i64 1)).setNew (p := ⟨w.heap.size, 1, none⟩) (by dsimp only; omega) (Nat.le_refl _) (.int .i64 (y1 : Int))).setNew (p := ⟨w.heap.size, 2, none⟩) (by dsimp only; omega) (Nat.le_refl _) (.int .i64 (1 + (y2 : Int)))).setNew (p := ⟨w.heap.size, 3, none⟩) (by dsimp only; omega) (Nat.le_refl _) (.string ⟨#[]⟩)
    generalize World.setCell (World.setCell (World.setCell (World.setCell w3 _ _) _ _) _ _) _ _ = W9 at hX hM ⊢
    have x0 : W9.cell? ⟨w.heap.size, 0, none⟩ = some (.int .i64 1) := hX.cell (j := 0) (by omega)
    have x1 : W9.cell? ⟨w.heap.size, 1, none⟩ = some (.int .i64 (y1 : Int)) := hX.cell (j := 1) (by omega)
    have x2 : W9.cell? ⟨w.heap.size, 2, none⟩ = some (.int .i64 (1 + (y2 : Int))) := hX.cell (j := 2) (by omega)
    have x3 : W9.cell? ⟨w.heap.size, 3, none⟩ = some (.string ⟨#[]⟩) := hX.cell (j := 3) (by omega)
    refine bodyPost_ret (v := stopV ⟨1, y1, 1 + y2, eT⟩) (by simp [results, Try.results118, go_sem, stopV, eT, x0, x1, x2, x3]) rfl ⟨by rw [HS9.out], hM⟩
  by_cases h2 : n0 = 2
  · subst h2
    have HS9 : Hid ((stopP code c).1 = ⟨2, y1, 0, eT⟩) := Lib.hid (by rw [HST.out]; rfl)
    clear HST
    go_wp2_with fail
    refine (pick_calls g cv code c1 4 _ (HR.out.later HB1.out) HC1.out (by omega) (by omega)).mono ?_; rintro e w2 ⟨rfl, hC, hm⟩
    rw [HE.out.2.1.1]
    rw [HE.out.2.1.2] at hC
    have HC2 := Lib.hid hC
    replace HX := Lib.hid (HX.out.mv hm (by decide))
    replace HM := Lib.hid (HM.out.trans hm)
    have hbb := bl_trans9 HB1.out (bl_low9 hm.bl hg)
    replace HB1 := Lib.hid hbb
    replace hsw := Nat.lt_of_lt_of_le hsw hm.bl.size
    clear hC hm HC1 hbb
    have y0 := HX.out.cell (j := 0) (by omega)
    have y1' := HX.out.cell (j := 1) (by omega)
    have y2' := HX.out.cell (j := 2) (by omega)
    have y3' := HX.out.cell (j := 3) (by omega)
    have z0 := HX.out.free 0
    have z1 := HX.out.free 1
    have z2 := HX.out.free 2
    have z3 := HX.out.free 3
    simp only [stopF] at y0 y1' y2' y3'
    go_wp2_with fail
    have hX := (((HX.out.set (j := 0) (by omega) (.int .i64 2)).set (j := 1) (by omega) (.int .i64 (y1 : Int))).set (j := 2) (by omega) (.int .i64 0)).set (j := 3) (by omega) (.string ⟨#[]⟩)
    have hM := (((HM.out.setNew (p := ⟨w.heap.size, 0, none⟩) (by dsimp only; omega) (Nat.le_refl _) (.int .i64 2)).setNew (p := ⟨w.heap.size, 1, none⟩) (by dsimp only; omega) (Nat.le_refl _) (.int .i64 (y1 : Int))).setNew (p := ⟨w.heap.size, 2, none⟩) (by dsimp only; omega) (Nat.le_refl _) (.int .i64 0)).setNew (p := ⟨w.heap.size, 3, none⟩) (by dsimp only; omega) (Nat.le_refl _) (.string ⟨#[]⟩)
    generalize World.setCell (World.setCell (World.setCell (World.setCell w2 _ _) _ _) _ _) _ _ = W9 at hX hM ⊢
    have x0 : W9.cell? ⟨w.heap.size, 0, none⟩ = some (.int .i64 2) := hX.cell (j := 0) (by omega)
    have x1 : W9.cell? ⟨w.heap.size, 1, none⟩ = some (.int .i64 (y1 : Int)) := hX.cell (j := 1) (by omega)
    have x2 : W9.cell? ⟨w.heap.size, 2, none⟩ = some (.int .i64 0) := hX.cell (j := 2) (by omega)
    have x3 : W9.cell? ⟨w.heap.size, 3, none⟩ = some (.string ⟨#[]⟩) := hX.cell (j := 3) (by omega)
    refine bodyPost_ret (v := stopV ⟨2, y1, 0, eT⟩) (by simp [results, Try.results118, go_sem, stopV, eT, x0, x1, x2, x3]) rfl ⟨by rw [HS9.out], hM⟩
  by_cases h3 : n0 = 3
  · subst h3
    have HS9 : Hid ((stopP code c).1 = ⟨3, y1, 0, chr1 (97 + y3)⟩) := Lib.hid (by rw [HST.out]; rfl)
    clear HST
    go_wp2_with fail
    refine (pick_calls g cv code c1 4 _ (HR.out.later HB1.out) HC1.out (by omega) (by omega)).mono ?_; rintro e w2 ⟨rfl, hC, hm⟩
    rw [HE.out.2.1.1]
    rw [HE.out.2.1.2] at hC
    have HC2 := Lib.hid hC
    replace HX := Lib.hid (HX.out.mv hm (by decide))
    replace HM := Lib.hid (HM.out.trans hm)
    have hbb := bl_trans9 HB1.out (bl_low9 hm.bl hg)
    replace HB1 := Lib.hid hbb
    replace hsw := Nat.lt_of_lt_of_le hsw hm.bl.size
    clear hC hm HC1 hbb
    go_wp2_with fail
    refine (pick_calls g cv code c2 3 _ (HR.out.later HB1.out) HC2.out (by omega) (by omega)).mono ?_; rintro e w3 ⟨rfl, hC, hm⟩
    rw [HE.out.2.2.2]
    have HC3 := Lib.hid hC
    replace HX := Lib.hid (HX.out.mv hm (by decide))
    replace HM := Lib.hid (HM.out.trans hm)
    have hbb := bl_trans9 HB1.out (bl_low9 hm.bl hg)
    replace HB1 := Lib.hid hbb
    replace hsw := Nat.lt_of_lt_of_le hsw hm.bl.size
    clear hC hm HC2 hbb
    have y0 := HX.out.cell (j := 0) (by omega)
    have y1' := HX.out.cell (j := 1) (by omega)
    have y2' := HX.out.cell (j := 2) (by omega)
    have y3' := HX.out.cell (j := 3) (by omega)
    have z0 := HX.out.free 0
    have z1 := HX.out.free 1
    have z2 := HX.out.free 2
    have z3 := HX.out.free 3
    simp only [stopF] at y0 y1' y2' y3'
    have hcv : ∀ (y : Int) (W : World), (convert 30 9 (.slice (some ⟨W.heap.size, 0, none⟩) 1 1)).run Try.prog (W.alloc (.cells #[.int .u8 y] 5)) = .ok (.string (strOfNums [y])) (W.alloc (.cells #[.int .u8 y] 5)) := fun y W => conv_byte _ _ y (ByB.new W y).cell
    go_wp2_with fail
    rw [chr_nums (97 + y3) (by omega)]
    have hX := (((HX.out.set (j := 0) (by omega) (.int .i64 3)).set (j := 1) (by omega) (.int .i64 (y1 : Int))).set (j := 2) (by omega) (.int .i64 0)).set (j := 3) (by omega) (.string (chr1 (97 + y3)))
    have hM := (((HM.out.setNew (p := ⟨w.heap.size, 0, none⟩) (by dsimp only; omega) (Nat.le_refl _) (.int .i64 3)).setNew (p := ⟨w.heap.size, 1, none⟩) (by dsimp only; omega) (Nat.le_refl _) (.int .i64 (y1 : Int))).setNew (p := ⟨w.heap.size, 2, none⟩) (by dsimp only; omega) (Nat.le_refl _) (.int .i64 0)).setNew (p := ⟨w.heap.size, 3, none⟩) (by dsimp only; omega) (Nat.le_refl _) (.string (chr1 (97 + y3)))
    replace hX := hX.alloc (.cells #[.int .u8 (97 + (y3 : Int))] 5)
    replace hM := hM.alloc (by simp only [World.size_setCell]; omega) (.cells #[.int .u8 (97 + (y3 : Int))] 5)
    generalize World.alloc (World.setCell (World.setCell (World.setCell (World.setCell w3 _ _) _ _) _ _) _ _) _ = W9 at hX hM ⊢
    have x0 : W9.cell? ⟨w.heap.size, 0, none⟩ = some (.int .i64 3) := hX.cell (j := 0) (by omega)
    have x1 : W9.cell? ⟨w.heap.size, 1, none⟩ = some (.int .i64 (y1 : Int)) := hX.cell (j := 1) (by omega)
    have x2 : W9.cell? ⟨w.heap.size, 2, none⟩ = some (.int .i64 0) := hX.cell (j := 2) (by omega)
    have x3 : W9.cell? ⟨w.heap.size, 3, none⟩ = some (.string (chr1 (97 + y3))) := hX.cell (j := 3) (by omega)
    refine bodyPost_ret (v := stopV ⟨3, y1, 0, chr1 (97 + y3)⟩) (by simp [results, Try.results118, go_sem, stopV, x0, x1, x2, x3]) rfl ⟨by rw [HS9.out], hM⟩
  by_cases h4 : n0 = 4
  · subst h4
    have HS9 : Hid ((stopP code c).1 = ⟨3, y1, 0, chr1 (97 + y3)⟩) := Lib.hid (by rw [HST.out]; rfl)
    clear HST
    go_wp2_with fail
    refine (pick_calls g cv code c1 4 _ (HR.out.later HB1.out) HC1.out (by omega) (by omega)).mono ?_; rintro e w2 ⟨rfl, hC, hm⟩
    rw [HE.out.2.1.1]
    rw [HE.out.2.1.2] at hC
    have HC2 := Lib.hid hC
    replace HX := Lib.hid (HX.out.mv hm (by decide))
    replace HM := Lib.hid (HM.out.trans hm)
    have hbb := bl_trans9 HB1.out (bl_low9 hm.bl hg)
    replace HB1 := Lib.hid hbb
    replace hsw := Nat.lt_of_lt_of_le hsw hm.bl.size
    clear hC hm HC1 hbb
    go_wp2_with fail
    refine (pick_calls g cv code c2 3 _ (HR.out.later HB1.out) HC2.out (by omega) (by omega)).mono ?_; rintro e w3 ⟨rfl, hC, hm⟩
    rw [HE.out.2.2.2]
    have HC3 := Lib.hid hC
    replace HX := Lib.hid (HX.out.mv hm (by decide))
    replace HM := Lib.hid (HM.out.trans hm)
    have hbb := bl_trans9 HB1.out (bl_low9 hm.bl hg)
    replace HB1 := Lib.hid hbb
    replace hsw := Nat.lt_of_lt_of_le hsw hm.bl.size
    clear hC hm HC2 hbb
    have y0 := HX.out.cell (j := 0) (by omega)
    have y1' := HX.out.cell (j := 1) (by omega)
    have y2' := HX.out.cell (j := 2) (by omega)
    have y3' := HX.out.cell (j := 3) (by omega)
    have z0 := HX.out.free 0
    have z1 := HX.out.free 1
    have z2 := HX.out.free 2
    have z3 := HX.out.free 3
    simp only [stopF] at y0 y1' y2' y3'
    have hcv : ∀ (y : Int) (W : World), (convert 30 9 (.slice (some ⟨W.heap.size, 0, none⟩) 1 1)).run Try.prog (W.alloc (.cells #[.int .u8 y] 5)) = .ok (.string (strOfNums [y])) (W.alloc (.cells #[.int .u8 y] 5)) := fun y W => conv_byte _ _ y (ByB.new W y).cell
    go_wp2_with fail
    rw [chr_nums (97 + y3) (by omega)]
    have hX := (((HX.out.set (j := 0) (by omega) (.int .i64 3)).set (j := 1) (by omega) (.int .i64 (y1 : Int))).set (j := 2) (by omega) (.int .i64 0)).set (j := 3) (by omega) (.string (chr1 (97 + y3)))
    have hM := (((HM.out.setNew (p := ⟨w.heap.size, 0, none⟩) (by dsimp only; omega) (Nat.le_refl _) (.int .i64 3)).setNew (p := ⟨w.heap.size, 1, none⟩) (by dsimp only; omega) (Nat.le_refl _) (.int .i64 (y1 : Int))).setNew (p := ⟨w.heap.size, 2, none⟩) (by dsimp only; omega) (Nat.le_refl _) (.int .i64 0)).setNew (p := ⟨w.heap.size, 3, none⟩) (by dsimp only; omega) (Nat.le_refl _) (.string (chr1 (97 + y3)))
    replace hX := hX.alloc (.cells #[.int .u8 (97 + (y3 : Int))] 5)
    replace hM := hM.alloc (by simp only [World.size_setCell]; omega) (.cells #[.int .u8 (97 + (y3 : Int))] 5)
    generalize World.alloc (World.setCell (World.setCell (World.setCell (World.setCell w3 _ _) _ _) _ _) _ _) _ = W9 at hX hM ⊢
    have x0 : W9.cell? ⟨w.heap.size, 0, none⟩ = some (.int .i64 3) := hX.cell (j := 0) (by omega)
    have x1 : W9.cell? ⟨w.heap.size, 1, none⟩ = some (.int .i64 (y1 : Int)) := hX.cell (j := 1) (by omega)
    have x2 : W9.cell? ⟨w.heap.size, 2, none⟩ = some (.int .i64 0) := hX.cell (j := 2) (by omega)
    have x3 : W9.cell? ⟨w.heap.size, 3, none⟩ = some (.string (chr1 (97 + y3))) := hX.cell (j := 3) (by omega)
    refine bodyPost_ret (v := stopV ⟨3, y1, 0, chr1 (97 + y3)⟩) (by simp [results, Try.results118, go_sem, stopV, x0, x1, x2, x3]) rfl ⟨by rw [HS9.out], hM⟩
  have h5 : n0 = 5 := by omega
  subst h5
  have HS9 : Hid ((stopP code c).1 = ⟨4, 0, 0, eT⟩) := Lib.hid (by rw [HST.out]; rfl)
  clear HST
  have y0 := HX.out.cell (j := 0) (by omega)
  have y1' := HX.out.cell (j := 1) (by omega)
  have y2' := HX.out.cell (j := 2) (by omega)
  have y3' := HX.out.cell (j := 3) (by omega)
  have z0 := HX.out.free 0
  have z1 := HX.out.free 1
  have z2 := HX.out.free 2
  have z3 := HX.out.free 3
  simp only [stopF] at y0 y1' y2' y3'
  go_wp2_with fail
  have hX := (((HX.out.set (j := 0) (by omega) (.int .i64 4)).set (j := 1) (by omega) (.int .i64 0)).set (j := 2) (by omega) (.int .i64 0)).set (j := 3) (by omega) (.string ⟨#[]⟩)
  have hM := (((HM.out.setNew (p := ⟨w.heap.size, 0, none⟩) (by dsimp only; omega) (Nat.le_refl _) (.int .i64 4)).setNew (p := ⟨w.heap.size, 1, none⟩) (by dsimp only; omega) (Nat.le_refl _) (.int .i64 0)).setNew (p := ⟨w.heap.size, 2, none⟩) (by dsimp only; omega) (Nat.le_refl _) (.int .i64 0)).setNew (p := ⟨w.heap.size, 3, none⟩) (by dsimp only; omega) (Nat.le_refl _) (.string ⟨#[]⟩)
  generalize World.setCell (World.setCell (World.setCell (World.setCell w1 _ _) _ _) _ _) _ _ = W9 at hX hM ⊢
  have x0 : W9.cell? ⟨w.heap.size, 0, none⟩ = some (.int .i64 4) := hX.cell (j := 0) (by omega)
  have x1 : W9.cell? ⟨w.heap.size, 1, none⟩ = some (.int .i64 0) := hX.cell (j := 1) (by omega)
  have x2 : W9.cell? ⟨w.heap.size, 2, none⟩ = some (.int .i64 0) := hX.cell (j := 2) (by omega)
  have x3 : W9.cell? ⟨w.heap.size, 3, none⟩ = some (.string ⟨#[]⟩) := hX.cell (j := 3) (by omega)
  refine bodyPost_ret (v := stopV ⟨4, 0, 0, eT⟩) (by simp [results, Try.results118, go_sem, stopV, eT, x0, x1, x2, x3]) rfl ⟨by rw [HS9.out], hM⟩

theorem cu_fresh (W : World) (cv : Value) : CuAt (W.alloc (.cells #[cv, .int .i64 0, .int .u64 0] 122)) W.heap.size cv cu0 :=
  ⟨(Blk.made W #[cv, .int .i64 0, .int .u64 0] 122).congr fun j hj => by
    have hj : j < 3 := hj
    match j, hj with
    | 0, _ => rfl
    | 1, _ => rfl
    | 2, _ => rfl, by decide⟩

set_option maxRecDepth 100000 in
set_option maxHeartbeats 4000000 in
theorem any_calls (v : Value) (code : List Nat) (w : World) (hr : RdBytes w v code) :
    Calls Try.prog 54 #[v] w fun e w' => e = .returned (stopV (stopP code cu0).1) ∧ Below w.heap.size w w' := by
  have HR := Lib.hid hr
  obtain ⟨A0, c0, rfl, hn0, -⟩ := hr.open'
  clear hr
  go_enter Try.func54, Try.ntmps54
  go_wp2_with fail
  have HX := Lib.hid ((sbox_new w).alloc (.cells #[.slice A0 code.length c0, .int .i64 0, .int .u64 0] 122))
  have HC := Lib.hid (cu_fresh (w.alloc (.cells #[.int .i64 0, .int .i64 0, .int .i64 0, .string eT] 27)) (.slice A0 code.length c0))
  have HB := Lib.hid (bl_alloc (bl_alloc (Below.refl _ w) (.cells #[.int .i64 0, .int .i64 0, .int .i64 0, .string eT] 27)) (.cells #[.slice A0 code.length c0, .int .i64 0, .int .u64 0] 122))
  rw [World.size_alloc] at HC
  have e9 : (Value.string eT) = .string ⟨#[]⟩ := rfl
  rw [e9] at HX HC HB
  generalize hW : World.alloc (World.alloc w _) _ = W at HC HX HB ⊢
  have hsz : W.heap.size = w.heap.size + 2 := by rw [← hW]; simp
  clear hW e9
  refine (stop_calls w _ _ code cu0 _ HR.out (by omega) HB.out HC.out (by decide)).mono ?_; rintro e w1 ⟨rfl, hm⟩
  replace HX := Lib.hid (HX.out.mv hm (by decide))
  have hbb := bl_trans9 HB.out (bl_low9 hm.bl (by omega))
  replace HB := Lib.hid hbb
  have hsw : w.heap.size < w1.heap.size := by have := hm.bl.size; omega
  clear hm hbb HC
  obtain ⟨p, hp⟩ : ∃ p, (stopP code cu0).1 = p := ⟨_, rfl⟩
  rw [hp]
  have HP := Lib.hid hp
  clear hp
  have y0 := HX.out.cell (j := 0) (by omega)
  have y1' := HX.out.cell (j := 1) (by omega)
  have y2' := HX.out.cell (j := 2) (by omega)
  have y3' := HX.out.cell (j := 3) (by omega)
  have z0 := HX.out.free 0
  have z1 := HX.out.free 1
  have z2 := HX.out.free 2
  have z3 := HX.out.free 3
  simp only [stopF] at y0 y1' y2' y3'
  unfold stopV
  go_wp2_with fail
  have hX := (((HX.out.set (j := 0) (by omega) (.int .i64 p.kind)).set (j := 1) (by omega) (.int .i64 p.fn)).set (j := 2) (by omega) (.int .i64 p.line)).set (j := 3) (by omega) (.string p.nm)
  have hM := bl_set (bl_set (bl_set (bl_set HB.out (p := ⟨w.heap.size, 0, none⟩) (by dsimp only; omega) (.int .i64 p.kind)) (p := ⟨w.heap.size, 1, none⟩) (by dsimp only; omega) (.int .i64 p.fn)) (p := ⟨w.heap.size, 2, none⟩) (by dsimp only; omega) (.int .i64 p.line)) (p := ⟨w.heap.size, 3, none⟩) (by dsimp only; omega) (.string p.nm)
  generalize World.setCell (World.setCell (World.setCell (World.setCell w1 _ _) _ _) _ _) _ _ = W9 at hX hM ⊢
  have x0 : W9.cell? ⟨w.heap.size, 0, none⟩ = some (.int .i64 p.kind) := hX.cell (j := 0) (by omega)
  have x1 : W9.cell? ⟨w.heap.size, 1, none⟩ = some (.int .i64 p.fn) := hX.cell (j := 1) (by omega)
  have x2 : W9.cell? ⟨w.heap.size, 2, none⟩ = some (.int .i64 p.line) := hX.cell (j := 2) (by omega)
  have x3 : W9.cell? ⟨w.heap.size, 3, none⟩ = some (.string p.nm) := hX.cell (j := 3) (by omega)
  exact bodyPost_ret (v := stopV p) (by simp [results, Try.results54, go_sem, stopV, x0, x1, x2, x3]) rfl ⟨by rw [HP.out], hM⟩
end Go.Proofs.Ytcklnjjbhngbcaa
