/- Merged out of L12, B16, G6, G7, G8, KSpoilt. -/
import Derived.Test.YtcklnjjbhngbcaaGreatDoorL1
import Derived.Test.YtcklnjjbhngbcaaGreatDoorP1
import Derived.Test.YtcklnjjbhngbcaaGreatDoorB9
import Derived.Test.YtcklnjjbhngbcaaGreatDoorG1
import Derived.Deep.CutBlock
import Derived.Deep.QuietTactic
import Derived.BigQuiet
import Derived.StillTailTactics
import Derived.Test.YtcklnjjbhngbcaaGreatDoorG3
import Derived.Test.YtcklnjjbhngbcaaGreatDoorD2
import Derived.Test.YtcklnjjbhngbcaaGreatDoorD3
import Derived.Test.YtcklnjjbhngbcaaGreatDoorI8
import Derived.Deep.RegionHeld3
namespace Go.Proofs.YtcklnjjbhngbcaaGreatDoor
open Go.RowKit Go.Proofs.Lens

theorem sm_sound {t : PTr} (h : Sound t) : smTr t := by
  have h1 := h.sizes
  simp only [sizesOk, Bool.and_eq_true, decide_eq_true_eq, fnsOk, List.all_eq_true] at h1
  refine ⟨⟨by omega, fun i hi => ?_⟩, by omega, fun i hi => ?_⟩
  · rw [elt_eq hi]
    have := h1.2 _ (List.getElem_mem hi)
    omega
  · have h2 := h.moms i hi
    simp only [momOk, momHd, Bool.and_eq_true, decide_eq_true_eq, varsOk, List.all_eq_true] at h2
    refine ⟨by omega, by omega, fun j hj => ?_⟩
    rw [elt_eq hj]
    have h3 := h2.2 _ (List.getElem_mem hj)
    simp only [varOk, Bool.and_eq_true, decide_eq_true_eq, inB_true] at h3
    exact ⟨by omega, by omega⟩
end Go.Proofs.YtcklnjjbhngbcaaGreatDoor

namespace Go.Proofs.YtcklnjjbhngbcaaGreatDoor
open Go.RowKit Go.Proofs.Lens

def updC (C : Nat → Nat → Value) (i0 j0 : Nat) (u : Value) (i j : Nat) : Value := if i = i0 ∧ j = j0 then u else C i j
theorem OwR.setE {w : World} {lo : Nat} {e : TypeId} {sz n : Nat} {C : Nat → Nat → Value} {b cap i0 j0 : Nat} (h : OwR w lo e sz n C (.slice (some ⟨b, 0, none⟩) n cap)) (hi : i0 < n) (hj : j0 < sz) (u : Value) :
    OwR (w.setCell ⟨b, i0 * sz + j0, none⟩ u) lo e sz n (updC C i0 j0 u) (.slice (some ⟨b, 0, none⟩) n cap) :=
  h.set hi hj (fun i j _ _ hne => by unfold updC; rw [if_neg (by omega)]) (by unfold updC; rw [if_pos ⟨rfl, rfl⟩])
/-- The world in which moment i of the block b is m, its variables in vx. -/
def putM (w : World) (b i : Nat) (m : PMom) (vx : Value) : World :=
  (((((w.setCell ⟨b, i * 6 + 0, none⟩ (.int .i64 m.kind)).setCell ⟨b, i * 6 + 1, none⟩ (.int .i64 m.task)).setCell ⟨b, i * 6 + 2, none⟩ (.int .i64 m.fn)).setCell ⟨b, i * 6 + 3, none⟩ (.int .i64 m.line)).setCell ⟨b, i * 6 + 4, none⟩ (.string m.text)).setCell ⟨b, i * 6 + 5, none⟩ vx
theorem elt_set {α : Type} [Inhabited α] (xs : List α) (i : Nat) (x : α) (hi : i < xs.length) (k : Nat) (hk : k < xs.length) : elt (xs.set i x) k = if k = i then x else elt xs k := by
  rw [elt_eq (by simpa using hk), List.getElem_set, elt_eq hk]
  by_cases h : k = i
  · subst h; simp
  · rw [if_neg h, if_neg (by omega)]
theorem BMoms.put {w : World} {lo b cap i : Nat} {ms : List PMom} (h : BMoms w lo (.slice (some ⟨b, 0, none⟩) ms.length cap) ms) (hi : i < ms.length) (m : PMom) (vx : Value) (hx : OwR w lo 40 2 m.vars.length (varC m.vars) vx) :
    BMoms (putM w b i m vx) lo (.slice (some ⟨b, 0, none⟩) ms.length cap) (ms.set i m) ∧ Mv [114] lo w (putM w b i m vx) := by
  obtain ⟨vv, hO, hV⟩ := h
  have h0 := OwR.setE hO hi (j0 := 0) (by omega) (.int .i64 m.kind)
  have h1 := OwR.setE h0 hi (j0 := 1) (by omega) (.int .i64 m.task)
  have h2 := OwR.setE h1 hi (j0 := 2) (by omega) (.int .i64 m.fn)
  have h3 := OwR.setE h2 hi (j0 := 3) (by omega) (.int .i64 m.line)
  have h4 := OwR.setE h3 hi (j0 := 4) (by omega) (.string m.text)
  have h5 := OwR.setE h4 hi (j0 := 5) (by omega) vx
  have hm : Mv [114] lo w (putM w b i m vx) :=
    ((((((Mv.refl _ _ _).setO hO (Nat.le_refl _) (by simp) _ _).setO h0 (Nat.le_refl _) (by simp) _ _).setO h1 (Nat.le_refl _) (by simp) _ _).setO h2 (Nat.le_refl _) (by simp) _ _).setO h3 (Nat.le_refl _) (by simp) _ _).setO h4 (Nat.le_refl _) (by simp) _ _
  refine ⟨⟨fun k => if k = i then vx else vv k, ?_, fun k hk => ?_⟩, hm⟩
  · rw [List.length_set]
    refine OwR.congr h5 fun k hk j hj => ?_
    unfold momC
    rw [elt_set ms i m hi k hk]
    unfold updC
    by_cases hki : k = i
    · subst hki
      match j, hj with
      | 0, _ => simp
      | 1, _ => simp
      | 2, _ => simp
      | 3, _ => simp
      | 4, _ => simp
      | 5, _ => simp
    · simp only [hki, false_and, if_false]
  · rw [List.length_set] at hk
    rw [elt_set ms i m hi k hk]
    by_cases hki : k = i
    · rw [if_pos hki]
      simp only [hki, if_true]
      exact hx.mv hm (by decide)
    · simp only [hki, if_false]
      exact (hV k hk).mv hm (by decide)
theorem smMoms_put {ms : List PMom} (h : smMoms ms) {i : Nat} (hi : i < ms.length) {m : PMom} (hm : smMom m) : smMoms (ms.set i m) := by
  refine ⟨by rw [List.length_set]; exact h.1, fun k hk => ?_⟩
  rw [List.length_set] at hk
  rw [elt_set ms i m hi k hk]
  split
  · exact hm
  · exact h.2 k hk
theorem smMoms_snoc {ms : List PMom} (h : smMoms ms) (hl : ms.length < 1048576) {m : PMom} (hm : smMom m) : smMoms (ms ++ [m]) := by
  refine ⟨by simp; omega, fun k hk => ?_⟩
  by_cases hk' : k < ms.length
  · rw [elt_eq hk, List.getElem_append_left hk', ← elt_eq hk']
    exact h.2 k hk'
  · have : k = ms.length := by simp at hk; omega
    subst this
    rw [elt_eq hk]
    simpa using hm
end Go.Proofs.YtcklnjjbhngbcaaGreatDoor

namespace Go.Proofs.YtcklnjjbhngbcaaGreatDoor
open Go.RowKit Go.Proofs.Lens

set_option maxRecDepth 100000 in
set_option maxHeartbeats 1000000 in
theorem pickE_calls (w0 : World) (g : Nat) (cv : Value) (code : List Nat) (c : Cu) (n : Nat) (w : World) (hr : RdBytes w0 cv code) (hg : w0.heap.size ≤ g) (hb0 : Below w0.heap.size w0 w) (h : CuAt w g cv c) (hp : c.pos ≤ 1000000000000000000) (hn : n ≤ 60000) :
    Calls Tryz.prog 33 #[.pointer (some ⟨g, 0, none⟩), .int .i64 n] w fun e w' => ∃ (r : Nat) (c' : Cu), e = .returned (.int .i64 (r : Nat)) ∧ (r < n ∨ r = 0) ∧ CuAt w' g cv c' ∧ c'.pos ≤ c.pos + 2 ∧ Mv [72] g w w' := by
  have hr' := hr.later hb0
  by_cases h200 : n ≤ 200
  · refine (pick_calls g cv code c n w hr' h (by omega) h200).mono ?_
    rintro e w1 ⟨rfl, hC, hm⟩
    obtain ⟨k, hk, ha⟩ := pick_adv' code n c
    refine ⟨_, _, rfl, ?_, hC, by rw [ha.1]; omega, hm⟩
    by_cases h0 : n = 0
    · subst h0; right; rw [pickP_one (by omega)]
    · left; exact pickP_lt code c (by omega)
  · have HC := Lib.hid h
    have HR := Lib.hid hr'
    have HR0 := Lib.hid hr
    have HB0 := Lib.hid hb0
    have hd : decide ((n : Int) ≤ 1) = false := by simp; omega
    have hd2 : decide ((n : Int) > 200) = true := by simp; omega
    have hn0 : 0 < n := by omega
    have hvv : ∀ d : Cu, drwV code d < 256 := fun d => by
      unfold drwV
      split
      · exact hr'.2 _
      · unfold outS; exact Nat.mod_lt _ (by omega)
    have hv := hvv c
    have hy := hvv (drwC code c)
    have hp2 : (drwC code c).pos = c.pos + 1 := rfl
    generalize hx : drwV code c = x at hv ⊢
    generalize hx2 : drwV code (drwC code c) = y at hy ⊢
    have HX : Hid (drwV code c = x ∧ drwV code (drwC code c) = y) := Lib.hid ⟨hx, hx2⟩
    clear h hr hr' h200 hb0 hvv hx hx2
    go_enter Tryz.func33, Tryz.ntmps33
    go_wp2_with fail
    refine (next_calls g cv code c _ HR.out HC.out (by omega)).mono ?_; rintro e w1 ⟨rfl, hC, hm⟩
    have HC1 := Lib.hid hC
    have HM := Lib.hid hm
    have HR1 := Lib.hid (HR0.out.later (bl_trans9 HB0.out (bl_low9 hm.bl hg)))
    clear hC hm
    rw [HX.out.1]
    go_wp2_with fail
    refine (next_calls g cv code _ _ HR1.out HC1.out (by omega)).mono ?_; rintro e w2 ⟨rfl, hC, hm⟩
    have HC2 := Lib.hid hC
    have HM2 := Lib.hid (HM.out.trans hm)
    clear hC hm
    rw [HX.out.2]
    go_wp2
    go_ret
    refine ⟨(x * 256 + y) % n, drwC code (drwC code c), ret_int ?_, .inl (Nat.mod_lt _ hn0), HC2.out, ?_, HM2.out⟩
    · rw [Int.natCast_emod]; simp
    · show (drwC code c).pos + 1 ≤ _; omega

/-- A trace that is drawn: its parts in blocks of its own, all of it small. -/
structure DrT (w : World) (lo : Nat) (v1 v2 : Value) (fns : List ByteArray) (ms : List PMom) : Prop where
  fn : OwR w lo 9 1 fns.length (strC fns) v1
  mo : BMoms w lo v2 ms
  sf : smStrs fns
  sm : smMoms ms
  ln : ms.length ≤ 3001
section
variable {w w' : World} {lo lo' : Nat} {v1 v2 : Value} {fns : List ByteArray} {ms : List PMom}
theorem DrT.later (h : DrT w lo v1 v2 fns ms) (hb : Below w.heap.size w w') : DrT w' lo v1 v2 fns ms := ⟨h.fn.later hb, h.mo.later hb, h.sf, h.sm, h.ln⟩
theorem DrT.lower (h : DrT w lo v1 v2 fns ms) (hl : lo' ≤ lo) : DrT w lo' v1 v2 fns ms := ⟨h.fn.lower hl, h.mo.lower hl, h.sf, h.sm, h.ln⟩
theorem DrT.mv {ts : List TypeId} (h : DrT w lo v1 v2 fns ms) (hm : Mv ts lo' w w') (h0 : 9 ∉ ts) (h1 : 114 ∉ ts) (h2 : 40 ∉ ts) : DrT w' lo v1 v2 fns ms := ⟨h.fn.mv hm h0, h.mo.mv hm h1 h2, h.sf, h.sm, h.ln⟩
theorem DrT.rd (h : DrT w lo v1 v2 fns ms) : RdTr w v1 v2 ⟨fns, ms⟩ := ⟨h.fn.rd, h.mo.rd⟩
theorem DrT.smT (h : DrT w lo v1 v2 fns ms) : smTr ⟨fns, ms⟩ := ⟨h.sf, h.sm⟩
end
theorem mv_new9 {ts : List TypeId} {lo : Nat} {w W W' : World} (h : Mv ts lo w W) (hl : lo ≤ w.heap.size) (k : Below w.heap.size W W') : Mv ts lo w W' :=
  ⟨⟨k.os.trans h.bl.os, k.tape.trans h.bl.tape, k.output.trans h.bl.output, Nat.le_trans h.bl.size k.size, fun j hj => (k.block j (by omega)).trans (h.bl.block j hj)⟩,
    fun b o hb hn => by rw [k.block b (Array.getElem?_eq_some_iff.1 hb).1]; exact h.kp b o hb hn⟩
theorem hM_far9 {w : World} {lo g N : Nat} {v : Value} {ms : List PMom} {F : Nat → Value} (h : BMoms w lo v ms) (hX : Blk w g 26 N F) (j : Nat) (u : Value) : BMoms (w.setCell ⟨g, j, none⟩ u) lo v ms :=
  h.mv (((Mv.refl [26] g w).set (p := ⟨g, j, none⟩) (Nat.le_refl _) hX (List.mem_singleton.2 rfl) u)) (by decide) (by decide)
def fMain : List ByteArray := [⟨#[109, 97, 105, 110]⟩]
theorem fMain_ow {w : World} {lo g : Nat} (h : Blk w g 9 1 (fun j => #[Value.string ⟨#[109, 97, 105, 110]⟩].getD j undef)) (hl : lo ≤ g) : OwR w lo 9 1 fMain.length (strC fMain) (.slice (some ⟨g, 0, none⟩) 1 1) :=
  .inr ⟨g, 1, _, rfl, hl, Nat.le_refl _, by simp [maxLen], h, fun i hi j hj => by
    obtain rfl : j = 0 := by omega
    obtain rfl : i = 0 := by simp [fMain] at hi; omega
    rfl⟩
theorem fMain_sm : smStrs fMain := ⟨by simp [fMain], fun i hi => by
  obtain rfl : i = 0 := by simp [fMain] at hi; omega
  decide⟩
theorem smMoms_nil : smMoms [] := ⟨by simp, fun i hi => absurd hi (by simp)⟩
theorem smMom_bare (k f l : Int) : smMom ⟨k, 0, f, l, ⟨#[]⟩, []⟩ := ⟨(by show (ByteArray.mk #[]).size ≤ 1048576; decide), by simp, fun i hi => absurd hi (by simp)⟩

set_option maxRecDepth 100000 in
set_option maxHeartbeats 4000000 in
theorem steep_calls (w0 : World) (g : Nat) (cv : Value) (code : List Nat) (c : Cu) (w : World) (hr : RdBytes w0 cv code) (hg : w0.heap.size ≤ g) (hb0 : Below w0.heap.size w0 w) (h : CuAt w g cv c) (hp : c.pos ≤ 10000000) :
    Calls Tryz.prog 134 #[.pointer (some ⟨g, 0, none⟩)] w fun e w' => ∃ v1 v2 fns ms c', e = .returned (.agg #[v1, v2]) ∧ DrT w' w.heap.size v1 v2 fns ms ∧ CuAt w' g cv c' ∧ c'.pos ≤ c.pos + 2 ∧ Mv [72] g w w' := by
  have HR := Lib.hid hr
  have HC := Lib.hid h
  have HB0 := Lib.hid hb0
  have hgw : g < w.heap.size := h.blk.lt
  clear h hr hb0
  go_enter Tryz.func134, Tryz.ntmps134
  go_wp2_with fail
  have hX0 := ((Blk.made w #[.slice none 0 0, .slice none 0 0] 26).alloc (.cells #[.string ⟨#[109, 97, 105, 110]⟩] 9)).alloc (.cells #[.slice (some ⟨w.heap.size + 1, 0, none⟩) 1 1, .slice none 0 0] 26)
  have hX0 := hX0.congr (f' := trF (.slice none 0 0) (.slice none 0 0)) fun j hj => by match j, hj with | 0, _ => rfl | 1, _ => rfl
  have hS0 := (Blk.made (w.alloc (.cells #[.slice none 0 0, .slice none 0 0] 26)) #[.string ⟨#[109, 97, 105, 110]⟩] 9).alloc (.cells #[.slice (some ⟨w.heap.size + 1, 0, none⟩) 1 1, .slice none 0 0] 26)
  have hT0 := Blk.made ((w.alloc (.cells #[.slice none 0 0, .slice none 0 0] 26)).alloc (.cells #[.string ⟨#[109, 97, 105, 110]⟩] 9)) #[.slice (some ⟨w.heap.size + 1, 0, none⟩) 1 1, .slice none 0 0] 26
  have hT0 := hT0.congr (f' := trF (.slice (some ⟨w.heap.size + 1, 0, none⟩) 1 1) (.slice none 0 0)) fun j hj => by match j, hj with | 0, _ => rfl | 1, _ => rfl
  simp only [World.size_alloc] at hS0 hT0
  have HX0 := Lib.hid hX0
  have HS0 := Lib.hid hS0
  have HT0 := Lib.hid hT0
  clear hX0 hS0 hT0
  generalize hW : World.alloc (World.alloc (World.alloc w _) _) _ = W0 at HX0 HS0 HT0 ⊢
  have hbw : Below w.heap.size w W0 := by rw [← hW]; exact bl_alloc (bl_alloc (bl_alloc (Below.refl _ _) _) _) _
  have HMV := Lib.hid (Mv.of_below (ts := [72]) hbw (Nat.le_of_lt hgw))
  have HC0 := Lib.hid (HC.out.later hbw)
  have HB1 := Lib.hid (bl_trans9 HB0.out (bl_low9 hbw (by omega)))
  have hs0 : w.heap.size + 3 ≤ W0.heap.size := by rw [← hW]; simp
  clear hW hbw HC
  refine (pickE_calls w0 g cv code c 3 _ HR.out hg HB1.out HC0.out (by omega) (by omega)).mono ?_; rintro e w1 ⟨r, c1, rfl, hr3, hC, hc1, hm⟩
  have hr3 : r ≤ 2 := by omega
  have HC1 := Lib.hid hC
  have HX1 := Lib.hid (HX0.out.mv hm (by decide))
  have HS1 := Lib.hid (HS0.out.mv hm (by decide))
  have HT1 := Lib.hid (HT0.out.mv hm (by decide))
  have HM1 := Lib.hid (HMV.out.trans hm)
  have hs1 : w.heap.size + 3 ≤ w1.heap.size := by have := hm.bl.size; omega
  have hnw : (198 : Int) + (r : Int) = ((198 + r : Nat) : Int) := by omega
  have HNW := Lib.hid hnw
  clear hC hm HX0 HS0 HT0 HMV HC0 HB1 hnw
  go_wp2_with fail
  rw [HNW.out]
  obtain ⟨N, hN⟩ : ∃ N, 198 + r = N := ⟨_, rfl⟩
  rw [hN]
  have hN1 : N ≤ 3001 := by omega
  clear HNW hN
  go_loopw [4] (fun nv wr => ∃ (m : Nat) (vM : Value) (ms : List PMom), ms.length + m = N ∧ nv = .int .i64 m ∧ BMoms wr w.heap.size vM ms ∧ smMoms ms ∧ Blk wr (w.heap.size + 2) 26 2 (trF (.slice (some ⟨w.heap.size + 1, 0, none⟩) 1 1) vM) ∧
    Blk wr w.heap.size 26 2 (trF (.slice none 0 0) (.slice none 0 0)) ∧ Blk wr (w.heap.size + 1) 9 1 (fun j => #[Value.string ⟨#[109, 97, 105, 110]⟩].getD j undef) ∧ CuAt wr g cv c1 ∧ Mv [72] g w wr ∧ w.heap.size + 3 ≤ wr.heap.size) (fun nv _ => (intOf nv).toNat)
  case atStart => exact ⟨N, _, [], by simp, rfl, BMoms.nil, smMoms_nil, HT1.out, HX1.out, HS1.out, HC1.out, HM1.out, hs1⟩
  case round =>
    obtain ⟨m, vM, ms, hmN, rfl, hM, hsm, hT, hX, hS, hC, hmv, hsr⟩ := hrel
    clear HT1 HX1 HS1 HC1 HM1
    have HM := Lib.hid hM
    have HSM := Lib.hid hsm
    have HT := Lib.hid hT
    have HX := Lib.hid hX
    have HS := Lib.hid hS
    have HC := Lib.hid hC
    have HMV := Lib.hid hmv
    obtain ⟨A3, c3, rfl, -⟩ := hM.cap
    clear hM hsm hT hX hS hC hmv
    by_cases hlt : 0 < m
    · have hd : decide ((m : Int) > 0) = true := by simp; omega
      have hln : ms.length ≤ 1048576 := by omega
      have hlw : w.heap.size ≤ wr.heap.size := by omega
      have x1 : wr.cell? ⟨w.heap.size + 2, 1, none⟩ = some (.slice A3 ms.length c3) := HT.out.cell (j := 1) (by omega)
      go_wp2_with (at_builtin; refine stopped ?_)
      unfold Stopped
      refine wpList_appendM _ (by rfl) _ _ (by rfl) w.heap.size _ ms ⟨2, 0, 0, 0, ⟨#[]⟩, []⟩ (.slice none 0 0) (by rfl) HM.out OwR.nil _ (by rfl) (by rfl) hlw hln ?_
      intro ga cap w5 hM5 hm5 hs5
      have hsn : smMoms (ms ++ [⟨2, 0, 0, 0, ⟨#[]⟩, []⟩]) := smMoms_snoc HSM.out (by omega) (smMom_bare _ _ _)
      have hl2 : (ms ++ [(⟨2, 0, 0, 0, ⟨#[]⟩, []⟩ : PMom)]).length + (m - 1) = N := by simp; omega
      generalize ms ++ [⟨2, 0, 0, 0, ⟨#[]⟩, []⟩] = msA at hM5 hsn hl2 ⊢
      have HM5 := Lib.hid hM5
      have HSN := Lib.hid hsn
      have HT5 := Lib.hid (HT.out.mv hm5 (by decide))
      have HX5 := Lib.hid (HX.out.mv hm5 (by decide))
      have HS5 := Lib.hid (HS.out.mv hm5 (by decide))
      have HC5 := Lib.hid (HC.out.mv hm5 (by decide))
      have HMV5 := Lib.hid (mv_new9 HMV.out (by omega) hm5.bl)
      clear hM5 hm5 x1 hsn
      have x1 : w5.cell? ⟨w.heap.size + 2, 1, none⟩ = some (.slice A3 ms.length c3) := HT5.out.cell (j := 1) (by omega)
      have f1 := HT5.out.free 1
      go_wp2
      go_roundw
      case rel => exact ⟨m - 1, _, msA, hl2, by go_num, hM_far9 HM5.out HT5.out _ _, HSN.out, trF_set HT5.out _, HX5.out.far (by dsimp only; omega) _, HS5.out.far (by dsimp only; omega) _, ⟨HC5.out.blk.far (by dsimp only; omega) _, HC5.out.sd⟩, mv_new9 HMV5.out (by omega) (bl_set (Below.refl _ _) (by dsimp only; omega) _), by rw [World.size_setCell]; omega⟩
      case measure => simp [intOf]; omega
    · have hd : decide ((m : Int) > 0) = false := by simp; omega
      have hln3 : ms.length ≤ 3001 := by omega
      have y0 : wr.cell? ⟨w.heap.size + 2, 0, none⟩ = some (.slice (some ⟨w.heap.size + 1, 0, none⟩) 1 1) := HT.out.cell (j := 0) (by omega)
      have x1 : wr.cell? ⟨w.heap.size + 2, 1, none⟩ = some (.slice A3 ms.length c3) := HT.out.cell (j := 1) (by omega)
      have y1 : wr.cell? ⟨w.heap.size, 0, none⟩ = some (.slice none 0 0) := HX.out.cell (j := 0) (by omega)
      have y2 : wr.cell? ⟨w.heap.size, 1, none⟩ = some (.slice none 0 0) := HX.out.cell (j := 1) (by omega)
      have f0 := HX.out.free 0
      have f1 := HX.out.free 1
      go_wp2_with fail
      refine bodyPost_ret (v := .agg #[.slice (some ⟨w.heap.size + 1, 0, none⟩) 1 1, .slice A3 ms.length c3]) (by simp [results, Tryz.results134, go_sem, y1, y2]) rfl ⟨_, _, fMain, ms, c1, rfl, ⟨?_, ?_, fMain_sm, HSM.out, hln3⟩, ?_, hc1, ?_⟩
      · exact fMain_ow ((HS.out.far (by dsimp only; omega) _).far (by dsimp only; omega) _) (by omega)
      · exact hM_far9 (hM_far9 HM.out HX.out 0 (.slice (some ⟨w.heap.size + 1, 0, none⟩) 1 1)) (HX.out.set (j := 0) (by omega) (.slice (some ⟨w.heap.size + 1, 0, none⟩) 1 1)) 1 _
      · exact ⟨(HC.out.blk.far (by dsimp only; omega) _).far (by dsimp only; omega) _, HC.out.sd⟩
      · exact (HMV.out.setNew (by dsimp only; omega) (by dsimp only; omega) _).setNew (by dsimp only; omega) (by dsimp only; omega) _

set_option maxRecDepth 100000 in
set_option maxHeartbeats 4000000 in
theorem long_calls (w0 : World) (g : Nat) (cv : Value) (code : List Nat) (c : Cu) (w : World) (hr : RdBytes w0 cv code) (hg : w0.heap.size ≤ g) (hb0 : Below w0.heap.size w0 w) (h : CuAt w g cv c) (hp : c.pos ≤ 10000000) :
    Calls Tryz.prog 135 #[.pointer (some ⟨g, 0, none⟩)] w fun e w' => ∃ v1 v2 fns ms c', e = .returned (.agg #[v1, v2]) ∧ DrT w' w.heap.size v1 v2 fns ms ∧ CuAt w' g cv c' ∧ c'.pos ≤ c.pos + 2 ∧ Mv [72] g w w' := by
  have HR := Lib.hid hr
  have HC := Lib.hid h
  have HB0 := Lib.hid hb0
  have hgw : g < w.heap.size := h.blk.lt
  clear h hr hb0
  go_enter Tryz.func135, Tryz.ntmps135
  go_wp2_with fail
  have hX0 := ((Blk.made w #[.slice none 0 0, .slice none 0 0] 26).alloc (.cells #[.string ⟨#[109, 97, 105, 110]⟩] 9)).alloc (.cells #[.slice (some ⟨w.heap.size + 1, 0, none⟩) 1 1, .slice none 0 0] 26)
  have hX0 := hX0.congr (f' := trF (.slice none 0 0) (.slice none 0 0)) fun j hj => by match j, hj with | 0, _ => rfl | 1, _ => rfl
  have hS0 := (Blk.made (w.alloc (.cells #[.slice none 0 0, .slice none 0 0] 26)) #[.string ⟨#[109, 97, 105, 110]⟩] 9).alloc (.cells #[.slice (some ⟨w.heap.size + 1, 0, none⟩) 1 1, .slice none 0 0] 26)
  have hT0 := Blk.made ((w.alloc (.cells #[.slice none 0 0, .slice none 0 0] 26)).alloc (.cells #[.string ⟨#[109, 97, 105, 110]⟩] 9)) #[.slice (some ⟨w.heap.size + 1, 0, none⟩) 1 1, .slice none 0 0] 26
  have hT0 := hT0.congr (f' := trF (.slice (some ⟨w.heap.size + 1, 0, none⟩) 1 1) (.slice none 0 0)) fun j hj => by match j, hj with | 0, _ => rfl | 1, _ => rfl
  simp only [World.size_alloc] at hS0 hT0
  have HX0 := Lib.hid hX0
  have HS0 := Lib.hid hS0
  have HT0 := Lib.hid hT0
  clear hX0 hS0 hT0
  generalize hW : World.alloc (World.alloc (World.alloc w _) _) _ = W0 at HX0 HS0 HT0 ⊢
  have hbw : Below w.heap.size w W0 := by rw [← hW]; exact bl_alloc (bl_alloc (bl_alloc (Below.refl _ _) _) _) _
  have HMV := Lib.hid (Mv.of_below (ts := [72]) hbw (Nat.le_of_lt hgw))
  have HC0 := Lib.hid (HC.out.later hbw)
  have HB1 := Lib.hid (bl_trans9 HB0.out (bl_low9 hbw (by omega)))
  have hs0 : w.heap.size + 3 ≤ W0.heap.size := by rw [← hW]; simp
  clear hW hbw HC
  refine (pickE_calls w0 g cv code c 3 _ HR.out hg HB1.out HC0.out (by omega) (by omega)).mono ?_; rintro e w1 ⟨r, c1, rfl, hr3, hC, hc1, hm⟩
  have hr3 : r ≤ 2 := by omega
  have HC1 := Lib.hid hC
  have HX1 := Lib.hid (HX0.out.mv hm (by decide))
  have HS1 := Lib.hid (HS0.out.mv hm (by decide))
  have HT1 := Lib.hid (HT0.out.mv hm (by decide))
  have HM1 := Lib.hid (HMV.out.trans hm)
  have hs1 : w.heap.size + 3 ≤ w1.heap.size := by have := hm.bl.size; omega
  have hnw : (2999 : Int) + (r : Int) = ((2999 + r : Nat) : Int) := by omega
  have HNW := Lib.hid hnw
  clear hC hm HX0 HS0 HT0 HMV HC0 HB1 hnw
  go_wp2_with fail
  rw [HNW.out]
  obtain ⟨N, hN⟩ : ∃ N, 2999 + r = N := ⟨_, rfl⟩
  rw [hN]
  have hN1 : N ≤ 3001 := by omega
  clear HNW hN
  go_loopw [4] (fun nv wr => ∃ (m : Nat) (vM : Value) (ms : List PMom), ms.length + m = N ∧ nv = .int .i64 m ∧ BMoms wr w.heap.size vM ms ∧ smMoms ms ∧ Blk wr (w.heap.size + 2) 26 2 (trF (.slice (some ⟨w.heap.size + 1, 0, none⟩) 1 1) vM) ∧
    Blk wr w.heap.size 26 2 (trF (.slice none 0 0) (.slice none 0 0)) ∧ Blk wr (w.heap.size + 1) 9 1 (fun j => #[Value.string ⟨#[109, 97, 105, 110]⟩].getD j undef) ∧ CuAt wr g cv c1 ∧ Mv [72] g w wr ∧ w.heap.size + 3 ≤ wr.heap.size) (fun nv _ => (intOf nv).toNat)
  case atStart => exact ⟨N, _, [], by simp, rfl, BMoms.nil, smMoms_nil, HT1.out, HX1.out, HS1.out, HC1.out, HM1.out, hs1⟩
  case round =>
    obtain ⟨m, vM, ms, hmN, rfl, hM, hsm, hT, hX, hS, hC, hmv, hsr⟩ := hrel
    clear HT1 HX1 HS1 HC1 HM1
    have HM := Lib.hid hM
    have HSM := Lib.hid hsm
    have HT := Lib.hid hT
    have HX := Lib.hid hX
    have HS := Lib.hid hS
    have HC := Lib.hid hC
    have HMV := Lib.hid hmv
    obtain ⟨A3, c3, rfl, -⟩ := hM.cap
    clear hM hsm hT hX hS hC hmv
    by_cases hlt : 0 < m
    · have hd : decide ((m : Int) > 0) = true := by simp; omega
      have hln : ms.length ≤ 1048576 := by omega
      have hlw : w.heap.size ≤ wr.heap.size := by omega
      have x1 : wr.cell? ⟨w.heap.size + 2, 1, none⟩ = some (.slice A3 ms.length c3) := HT.out.cell (j := 1) (by omega)
      go_wp2_with (at_builtin; refine stopped ?_)
      unfold Stopped
      refine wpList_appendM _ (by rfl) _ _ (by rfl) w.heap.size _ ms ⟨1, 0, 0, 1 + (m : Int) % 3, ⟨#[]⟩, []⟩ (.slice none 0 0) (by rfl) HM.out OwR.nil _ (by rfl) (by rfl) hlw hln ?_
      intro ga cap w5 hM5 hm5 hs5
      have hsn : smMoms (ms ++ [⟨1, 0, 0, 1 + (m : Int) % 3, ⟨#[]⟩, []⟩]) := smMoms_snoc HSM.out (by omega) (smMom_bare _ _ _)
      have hl2 : (ms ++ [(⟨1, 0, 0, 1 + (m : Int) % 3, ⟨#[]⟩, []⟩ : PMom)]).length + (m - 1) = N := by simp; omega
      generalize ms ++ [⟨1, 0, 0, 1 + (m : Int) % 3, ⟨#[]⟩, []⟩] = msA at hM5 hsn hl2 ⊢
      have HM5 := Lib.hid hM5
      have HSN := Lib.hid hsn
      have HT5 := Lib.hid (HT.out.mv hm5 (by decide))
      have HX5 := Lib.hid (HX.out.mv hm5 (by decide))
      have HS5 := Lib.hid (HS.out.mv hm5 (by decide))
      have HC5 := Lib.hid (HC.out.mv hm5 (by decide))
      have HMV5 := Lib.hid (mv_new9 HMV.out (by omega) hm5.bl)
      clear hM5 hm5 x1 hsn
      have x1 : w5.cell? ⟨w.heap.size + 2, 1, none⟩ = some (.slice A3 ms.length c3) := HT5.out.cell (j := 1) (by omega)
      have f1 := HT5.out.free 1
      go_wp2
      go_roundw
      case rel => exact ⟨m - 1, _, msA, hl2, by go_num, hM_far9 HM5.out HT5.out _ _, HSN.out, trF_set HT5.out _, HX5.out.far (by dsimp only; omega) _, HS5.out.far (by dsimp only; omega) _, ⟨HC5.out.blk.far (by dsimp only; omega) _, HC5.out.sd⟩, mv_new9 HMV5.out (by omega) (bl_set (Below.refl _ _) (by dsimp only; omega) _), by rw [World.size_setCell]; omega⟩
      case measure => simp [intOf]; omega
    · have hd : decide ((m : Int) > 0) = false := by simp; omega
      have hln3 : ms.length ≤ 3001 := by omega
      have y0 : wr.cell? ⟨w.heap.size + 2, 0, none⟩ = some (.slice (some ⟨w.heap.size + 1, 0, none⟩) 1 1) := HT.out.cell (j := 0) (by omega)
      have x1 : wr.cell? ⟨w.heap.size + 2, 1, none⟩ = some (.slice A3 ms.length c3) := HT.out.cell (j := 1) (by omega)
      have y1 : wr.cell? ⟨w.heap.size, 0, none⟩ = some (.slice none 0 0) := HX.out.cell (j := 0) (by omega)
      have y2 : wr.cell? ⟨w.heap.size, 1, none⟩ = some (.slice none 0 0) := HX.out.cell (j := 1) (by omega)
      have f0 := HX.out.free 0
      have f1 := HX.out.free 1
      go_wp2_with fail
      refine bodyPost_ret (v := .agg #[.slice (some ⟨w.heap.size + 1, 0, none⟩) 1 1, .slice A3 ms.length c3]) (by simp [results, Tryz.results135, go_sem, y1, y2]) rfl ⟨_, _, fMain, ms, c1, rfl, ⟨?_, ?_, fMain_sm, HSM.out, hln3⟩, ?_, hc1, ?_⟩
      · exact fMain_ow ((HS.out.far (by dsimp only; omega) _).far (by dsimp only; omega) _) (by omega)
      · exact hM_far9 (hM_far9 HM.out HX.out 0 (.slice (some ⟨w.heap.size + 1, 0, none⟩) 1 1)) (HX.out.set (j := 0) (by omega) (.slice (some ⟨w.heap.size + 1, 0, none⟩) 1 1)) 1 _
      · exact ⟨(HC.out.blk.far (by dsimp only; omega) _).far (by dsimp only; omega) _, HC.out.sd⟩
      · exact (HMV.out.setNew (by dsimp only; omega) (by dsimp only; omega) _).setNew (by dsimp only; omega) (by dsimp only; omega) _
end Go.Proofs.YtcklnjjbhngbcaaGreatDoor

namespace Go.Proofs.YtcklnjjbhngbcaaGreatDoor
open Go.RowKit Go.Proofs.Lens

theorem i_str9 : (Tryz.prog.info? 9).map (fun i => (i.zero, i.size, i.bytes)) = some (some (.string ⟨#[]⟩), 1, 16) := by kernel_rfl
structure SpS (w0 : World) (g : Nat) (cv : Value) (tb rb lo : Nat) (F : Nat → Value) (W : World) (c : Cu) (v1 v2 : Value) (fns : List ByteArray) (ms : List PMom) : Prop where
  hc : CuAt W g cv c
  hd : DrT W lo v1 v2 fns ms
  hx : Blk W tb 26 2 (trF v1 v2)
  hy : Blk W rb 26 2 F
  hb : Below w0.heap.size w0 W
  hs : lo ≤ W.heap.size
section
variable {w0 W W' : World} {g tb rb lo : Nat} {cv : Value} {F : Nat → Value} {c c' : Cu} {v1 v2 : Value} {fns : List ByteArray} {ms : List PMom}
theorem SpS.pick (h : SpS w0 g cv tb rb lo F W c v1 v2 fns ms) (hg : w0.heap.size ≤ g) (hC : CuAt W' g cv c') (hm : Mv [72] g W W') : SpS w0 g cv tb rb lo F W' c' v1 v2 fns ms :=
  ⟨hC, h.hd.mv hm (by decide) (by decide) (by decide), h.hx.mv hm (by decide), h.hy.mv hm (by decide), bl_trans9 h.hb (bl_low9 hm.bl hg), Nat.le_trans h.hs hm.bl.size⟩
theorem SpS.later (h : SpS w0 g cv tb rb lo F W c v1 v2 fns ms) (hb : Below W.heap.size W W') : SpS w0 g cv tb rb lo F W' c v1 v2 fns ms :=
  ⟨h.hc.later hb, h.hd.later hb, h.hx.later hb, h.hy.later hb, bl_then h.hb hb, Nat.le_trans h.hs hb.size⟩
end
def mF9 (m : PMom) (vx : Value) (j : Nat) : Value := (momV m vx).getD j undef
theorem mF9_new (W : World) (m : PMom) (vx : Value) : Blk (W.alloc (.cells #[.int .i64 m.kind, .int .i64 m.task, .int .i64 m.fn, .int .i64 m.line, .string m.text, vx] 114)) W.heap.size 114 6 (mF9 m vx) :=
  (Blk.made W #[.int .i64 m.kind, .int .i64 m.task, .int .i64 m.fn, .int .i64 m.line, .string m.text, vx] 114).congr fun j hj => by
    have hj : j < 6 := hj
    match j, hj with
    | 0, _ => rfl
    | 1, _ => rfl
    | 2, _ => rfl
    | 3, _ => rfl
    | 4, _ => rfl
    | 5, _ => rfl
theorem mF9_set {W : World} {mb j : Nat} {m m' : PMom} {vx vx' : Value} (h : Blk W mb 114 6 (mF9 m vx)) (hj : j < 6) (u : Value) (hF : ∀ i, i < 6 → upd (mF9 m vx) j u i = mF9 m' vx' i) : Blk (W.setCell ⟨mb, j, none⟩ u) mb 114 6 (mF9 m' vx') :=
  (h.set hj u).congr hF
/-- A moment of a list that the call owns. -/
theorem BMoms.cells9 {w : World} {lo : Nat} {v : Value} {ms : List PMom} (h : BMoms w lo v ms) {i : Nat} (hi : i < ms.length) : ∃ b cap Av cvx, v = .slice (some ⟨b, 0, none⟩) ms.length cap ∧
    w.cell? ⟨b, i * 6, none⟩ = some (.int .i64 (elt ms i).kind) ∧ w.cell? ⟨b, i * 6 + 1, none⟩ = some (.int .i64 (elt ms i).task) ∧ w.cell? ⟨b, i * 6 + 2, none⟩ = some (.int .i64 (elt ms i).fn) ∧ w.cell? ⟨b, i * 6 + 3, none⟩ = some (.int .i64 (elt ms i).line) ∧
    w.cell? ⟨b, i * 6 + 4, none⟩ = some (.string (elt ms i).text) ∧ w.cell? ⟨b, i * 6 + 5, none⟩ = some (.slice Av (elt ms i).vars.length cvx) ∧
    OwR w lo 40 2 (elt ms i).vars.length (varC (elt ms i).vars) (.slice Av (elt ms i).vars.length cvx) := by
  obtain ⟨vv, hO, hV⟩ := h
  obtain ⟨A, cap, rfl, -⟩ := hO.cap
  obtain ⟨b, hb⟩ : ∃ b, A = some ⟨b, 0, none⟩ := by
    rcases hO with ⟨-, h0⟩ | ⟨b, _, _, h1, _⟩
    · omega
    · cases h1; exact ⟨b, rfl⟩
  subst hb
  obtain ⟨Av, cvx, hv, -⟩ := (hV i hi).cap
  have hvi := hV i hi
  rw [hv] at hvi
  refine ⟨b, cap, Av, cvx, rfl, hO.cells hi (j := 0) (by omega), hO.cells hi (j := 1) (by omega), hO.cells hi (j := 2) (by omega), hO.cells hi (j := 3) (by omega), hO.cells hi (j := 4) (by omega), ?_, hvi⟩
  have := hO.cells hi (j := 5) (by omega)
  rw [this]
  show some (vv i) = _
  rw [hv]
theorem BMoms.free9 {w : World} {lo b cap : Nat} {ms : List PMom} (h : BMoms w lo (.slice (some ⟨b, 0, none⟩) ms.length cap) ms) (j : Nat) : w.frozen? ⟨b, j, none⟩ = false := by
  obtain ⟨vv, hO, hV⟩ := h
  exact hO.free j
theorem ow_empty {w : World} {n : Nat} {A : Array Value} (hA : A.size = n * 1) (hc : ∀ j, j < n * 1 → A[j]? = some (((Value.string ⟨#[]⟩).cells)[j % ((Value.string ⟨#[]⟩).cells).size]!)) (hn : n ≤ 600) :
    OwR (w.alloc (.cells A 9)) w.heap.size 9 1 (List.replicate n (⟨#[]⟩ : ByteArray)).length (strC (List.replicate n ⟨#[]⟩)) (.slice (some ⟨w.heap.size, 0, none⟩) n n) := by
  rw [List.length_replicate]
  refine OwR.made hA hc rfl (by simp only [maxLen]; omega) _ fun i hi j hj => ?_
  obtain rfl : j = 0 := by omega
  have e : elt (List.replicate n (⟨#[]⟩ : ByteArray)) i = ⟨#[]⟩ := by rw [elt_eq (by simpa using hi)]; simp
  unfold strC
  rw [e]
  rfl
theorem sm_empty {n : Nat} (hn : n ≤ 600) : smStrs (List.replicate n (⟨#[]⟩ : ByteArray)) := ⟨by rw [List.length_replicate]; omega, fun i hi => by
  rw [elt_eq hi, List.getElem_replicate]; exact (by show (ByteArray.mk #[]).size ≤ 1048576; decide)⟩
theorem smVars_x : smVars [⟨⟨#[]⟩, ⟨#[120]⟩⟩] := ⟨by simp, fun i hi => by
  obtain rfl : i = 0 := by simp at hi; omega
  exact ⟨by decide, by decide⟩⟩
theorem var_x (W : World) : OwR (W.alloc (.cells #[.string ⟨#[]⟩, .string ⟨#[120]⟩] 40)) W.heap.size 40 2 1 (varC [⟨⟨#[]⟩, ⟨#[120]⟩⟩]) (.slice (some ⟨W.heap.size, 0, none⟩) 1 1) :=
  .inr ⟨W.heap.size, 1, _, rfl, Nat.le_refl _, Nat.le_refl _, by simp [maxLen], Blk.made W _ _, fun i hi j hj => by
    obtain rfl : i = 0 := by omega
    match j, hj with
    | 0, _ => rfl
    | 1, _ => rfl⟩
theorem BMoms.some9 {w : World} {lo b cap : Nat} {ms : List PMom} (h : BMoms w lo (.slice (some ⟨b, 0, none⟩) ms.length cap) ms) {i j : Nat} (hi : i < ms.length) (hj : j < 6) : ∃ u, w.cell? ⟨b, i * 6 + j, none⟩ = some u := by
  obtain ⟨vv, hO, hV⟩ := h
  exact ⟨_, hO.cells hi hj⟩
theorem drew_cell9 : True := trivial
/-- What spoil gives. -/
def SpP (w0 : World) (g : Nat) (cv : Value) (c : Cu) (tb rb lo : Nat) (F : Nat → Value) (e : Ending) (w' : World) : Prop :=
  ∃ v1 v2 fns ms c', e = .returned (.tuple #[]) ∧ SpS w0 g cv tb rb lo F w' c' v1 v2 fns ms ∧ c'.pos ≤ c.pos + 12
theorem spMake_end {w0 w8 : World} {g tb rb lo N : Nat} {cv : Value} {F : Nat → Value} {c c8 : Cu} {v1 v2 : Value} {fns : List ByteArray} {ms : List PMom} {C : Array Value} (h : SpS w0 g cv tb rb lo F w8 c8 v1 v2 fns ms) (hA : C.size = N * 1)
    (hc : ∀ j, j < N * 1 → C[j]? = some (((Value.string ⟨#[]⟩).cells)[j % ((Value.string ⟨#[]⟩).cells).size]!)) (hN : N ≤ 600) (hne : rb ≠ tb) (htb : w0.heap.size ≤ tb) (hp : c8.pos ≤ c.pos + 12) :
    SpP w0 g cv c tb rb lo F (.returned (.tuple #[])) ((w8.setCell ⟨tb, 0, none⟩ (.slice (some ⟨w8.heap.size, 0, none⟩) N N)).alloc (.cells C 9)) := by
  have hgt : g ≠ tb := h.hc.blk.ne h.hx (by decide)
  have ho := ow_empty (w := w8.setCell ⟨tb, 0, none⟩ (.slice (some ⟨w8.heap.size, 0, none⟩) N N)) hA hc hN
  rw [World.size_setCell] at ho
  have hb := bl_alloc (Below.refl _ (w8.setCell ⟨tb, 0, none⟩ (.slice (some ⟨w8.heap.size, 0, none⟩) N N))) (.cells C 9)
  refine ⟨_, v2, _, ms, c8, rfl, ⟨CuAt.later ⟨h.hc.blk.far hgt _, h.hc.sd⟩ hb, ⟨ho.lower h.hs, (hM_far9 h.hd.mo h.hx 0 _).later hb, sm_empty hN, h.hd.sm, h.hd.ln⟩, ?_, (h.hy.far hne _).later hb, bl_alloc (bl_set h.hb htb _) _, ?_⟩, hp⟩
  · refine Blk.later ?_ hb
    exact (h.hx.set (j := 0) (by omega) _).congr fun j hj => by match j, hj with | 0, _ => rfl | 1, _ => rfl
  · rw [World.size_alloc, World.size_setCell]; have := h.hs; omega
theorem spoil_end {w0 W : World} {g tb rb lo b cap i : Nat} {cv : Value} {F : Nat → Value} {c c6 : Cu} {v1 vx : Value} {fns : List ByteArray} {ms : List PMom} {m : PMom} (h : SpS w0 g cv tb rb lo F W c6 v1 (.slice (some ⟨b, 0, none⟩) ms.length cap) fns ms) (hi : i < ms.length) (hsm : smMom m)
    (hx : OwR W lo 40 2 m.vars.length (varC m.vars) vx) (hlo : w0.heap.size ≤ lo) (hp : c6.pos ≤ c.pos + 12) : SpP w0 g cv c tb rb lo F (.returned (.tuple #[])) (putM W b i m vx).drew := by
  obtain ⟨hP, hM⟩ := h.hd.mo.put hi m vx hx
  have hS : SpS w0 g cv tb rb lo F (putM W b i m vx) c6 v1 (.slice (some ⟨b, 0, none⟩) ms.length cap) fns (ms.set i m) :=
    ⟨h.hc.mv hM (by decide), ⟨h.hd.fn.mv hM (by decide), hP, h.hd.sf, smMoms_put h.hd.sm hi hsm, by rw [List.length_set]; exact h.hd.ln⟩, h.hx.mv hM (by decide), h.hy.mv hM (by decide), bl_trans9 h.hb (bl_low9 hM.bl hlo), Nat.le_trans h.hs hM.bl.size⟩
  exact ⟨v1, _, fns, ms.set i m, c6, rfl, hS.later (bl_drew (Below.refl _ _)), hp⟩
set_option maxRecDepth 100000 in
set_option maxHeartbeats 10000000 in
theorem spoil_calls (w0 : World) (g : Nat) (cv : Value) (code : List Nat) (c : Cu) (tb rb lo : Nat) (F : Nat → Value) (v1 v2 : Value) (fns : List ByteArray) (ms : List PMom) (w : World) (hr : RdBytes w0 cv code) (hg : w0.heap.size ≤ g) (hp : c.pos ≤ 500000000000000000)
    (h : SpS w0 g cv tb rb lo F w c v1 v2 fns ms) (hlo : w0.heap.size ≤ lo) (htb : w0.heap.size ≤ tb) (hne : rb ≠ tb) :
    Calls Tryz.prog 69 #[.pointer (some ⟨g, 0, none⟩), .pointer (some ⟨tb, 0, none⟩)] w (SpP w0 g cv c tb rb lo F) := by
  have HR := Lib.hid hr
  have HS := Lib.hid h
  obtain ⟨A2, c2, rfl, -⟩ := h.hd.mo.cap
  have hln := h.hd.ln
  have x1 : w.cell? ⟨tb, 1, none⟩ = some (.slice A2 ms.length c2) := h.hx.cell (j := 1) (by omega)
  clear h hr
  by_cases hL : ms.length = 0
  · have hq : ((ms.length : Int) == 0) = true := by rw [beq_iff_eq]; omega
    go_enter Tryz.func69, Tryz.ntmps69
    go_wp2_with fail
    refine (pickE_calls w0 g cv code c 3 _ HR.out hg HS.out.hb HS.out.hc (by omega) (by omega)).mono ?_; rintro e w8 ⟨r, c8, rfl, hr3, hC, hc8, hm⟩
    have HS8 := Lib.hid (HS.out.pick hg hC hm)
    obtain ⟨N, hN⟩ : ∃ N, r * 300 = N := ⟨_, rfl⟩
    have hN6 : N ≤ 600 := by omega
    have hmul : (r : Int) * 300 = (N : Int) := by omega
    clear hC hm hN
    obtain ⟨C, hCs, hcc, hmk⟩ := make_law (P := Tryz.prog) 23 9 Tryz.underlying23 i_str9 N (by omega) (by omega)
    have HCS := Lib.hid hCs
    have HCC := Lib.hid hcc
    have f0 : w8.frozen? ⟨tb, 0, none⟩ = false := HS8.out.hx.free 0
    have x0 : w8.cell? ⟨tb, 0, none⟩ = some v1 := HS8.out.hx.cell (j := 0) (by omega)
    have hlt : tb < w8.heap.size := HS8.out.hx.lt
    clear hCs hcc x1
    go_wp2_with fail
    refine bodyPost_ret (results_none rfl _ _ _) rfl ?_
    exact spMake_end HS8.out HCS.out HCC.out hN6 hne htb (by omega)
  · have hq : ((ms.length : Int) == 0) = false := by rw [beq_eq_false_iff_ne]; omega
    go_enter Tryz.func69, Tryz.ntmps69
    go_wp2_with fail
    refine (pickE_calls w0 g cv code c 10 _ HR.out hg HS.out.hb HS.out.hc (by omega) (by omega)).mono ?_; rintro e w1 ⟨r0, c1, rfl, hr0, hC, hc1, hm⟩
    have HS1 := Lib.hid (HS.out.pick hg hC hm)
    clear hC hm HS x1 hr0
    have x1 : w1.cell? ⟨tb, 1, none⟩ = some (.slice A2 ms.length c2) := HS1.out.hx.cell (j := 1) (by omega)
    by_cases hz : r0 = 0
    · have hqz : ((r0 : Int) == 0) = true := by rw [beq_iff_eq]; omega
      go_wp2_with fail
      refine (pickE_calls w0 g cv code c1 3 _ HR.out hg HS1.out.hb HS1.out.hc (by omega) (by omega)).mono ?_; rintro e w8 ⟨r, c8, rfl, hr3, hC, hc8, hm⟩
      have HS8 := Lib.hid (HS1.out.pick hg hC hm)
      obtain ⟨N, hN⟩ : ∃ N, r * 300 = N := ⟨_, rfl⟩
      have hN6 : N ≤ 600 := by omega
      have hmul : (r : Int) * 300 = (N : Int) := by omega
      clear hC hm hN
      obtain ⟨C, hCs, hcc, hmk⟩ := make_law (P := Tryz.prog) 23 9 Tryz.underlying23 i_str9 N (by omega) (by omega)
      have HCS := Lib.hid hCs
      have HCC := Lib.hid hcc
      have f0 : w8.frozen? ⟨tb, 0, none⟩ = false := HS8.out.hx.free 0
      have x0 : w8.cell? ⟨tb, 0, none⟩ = some v1 := HS8.out.hx.cell (j := 0) (by omega)
      have hlt : tb < w8.heap.size := HS8.out.hx.lt
      clear hCs hcc x1
      go_wp2_with fail
      refine bodyPost_ret (results_none rfl _ _ _) rfl ?_
      exact spMake_end HS8.out HCS.out HCC.out hN6 hne htb (by omega)
    · have hqz : ((r0 : Int) == 0) = false := by rw [beq_eq_false_iff_ne]; omega
      go_wp2_with fail
      refine (pickE_calls w0 g cv code c1 ms.length _ HR.out hg HS1.out.hb HS1.out.hc (by omega) (by omega)).mono ?_; rintro e w2 ⟨i, c2x, rfl, hi, hC, hc2, hm⟩
      have hi : i < ms.length := by omega
      have HS := Lib.hid (HS1.out.pick hg hC hm)
      clear hC hm HS1 x1 hq hqz
      obtain ⟨b, cap, Av, cvx, hv, d0, d1, d2, d3, d4, d5, hV⟩ := HS.out.hd.mo.cells9 hi
      obtain ⟨rfl, rfl⟩ : A2 = some ⟨b, 0, none⟩ ∧ c2 = cap := by simpa using hv
      have HSMM := Lib.hid (HS.out.hd.sm.2 i hi)
      have HV := Lib.hid hV
      have x1 : w2.cell? ⟨tb, 1, none⟩ = some (.slice (some ⟨b, 0, none⟩) ms.length c2) := HS.out.hx.cell (j := 1) (by omega)
      obtain ⟨m, hme⟩ : ∃ m, elt ms i = m := ⟨_, rfl⟩
      rw [hme] at d0 d1 d2 d3 d4 d5 HSMM HV
      clear hv hV hme
      go_upto_region 4 with fail
      have HX3 := Lib.hid (mF9_new w2 m (.slice Av m.vars.length cvx))
      have HM3 := Lib.hid ((Mv.refl [72] g w2).alloc (Nat.le_of_lt HS.out.hc.blk.lt) (.cells #[.int .i64 m.kind, .int .i64 m.task, .int .i64 m.fn, .int .i64 m.line, .string m.text, .slice Av m.vars.length cvx] 114))
      have HC3 := Lib.hid (HS.out.hc.later (bl_alloc (Below.refl _ _) (.cells #[.int .i64 m.kind, .int .i64 m.task, .int .i64 m.fn, .int .i64 m.line, .string m.text, .slice Av m.vars.length cvx] 114)))
      have hsw : w2.heap.size < (World.alloc w2 (.cells #[.int .i64 m.kind, .int .i64 m.task, .int .i64 m.fn, .int .i64 m.line, .string m.text, .slice Av m.vars.length cvx] 114)).heap.size := by simp
      have hgm : g ≤ w2.heap.size := Nat.le_of_lt HS.out.hc.blk.lt
      have hgm2 : g < w2.heap.size := HS.out.hc.blk.lt
      have htm : tb < w2.heap.size := HS.out.hx.lt
      have hlm : lo ≤ w2.heap.size := HS.out.hs
      generalize World.alloc w2 _ = w3 at HX3 HM3 HC3 hsw ⊢
      obtain ⟨mb, hmb⟩ : ∃ x, w2.heap.size = x := ⟨_, rfl⟩
      rw [hmb] at HX3 hsw hgm hgm2 htm hlm ⊢
      clear d0 d1 d2 d3 d4 d5 x1
      go_wp2_with fail
      refine (pickE_calls w0 g cv code c2x 7 _ HR.out hg (bl_trans9 HS.out.hb (bl_low9 HM3.out.bl hg)) HC3.out (by omega) (by omega)).mono ?_; rintro e w4 ⟨q, c4, rfl, hq7, hC, hc4, hm⟩
      have HM4 := Lib.hid (HM3.out.trans hm)
      have HC4 := Lib.hid hC
      have HX4 := Lib.hid (HX3.out.mv hm (by decide))
      have hs4 : mb < w4.heap.size := Nat.lt_of_lt_of_le hsw hm.bl.size
      have x4 : w4.cell? ⟨mb, 5, none⟩ = some (.slice Av m.vars.length cvx) := HX4.out.cell (j := 5) (by omega)
      have f4 : w4.frozen? ⟨mb, 5, none⟩ = false := HX4.out.free 5
      clear hC hm HM3 HC3 HX3 hsw
      have h7 : q = 0 ∨ q = 1 ∨ q = 2 ∨ q = 3 ∨ q = 4 ∨ q = 5 ∨ q = 6 := by omega
      have hmw : w2.heap.size ≤ mb := by omega
      clear hmb
      rcases h7 with rfl | rfl | rfl | rfl | rfl | rfl | rfl
      · go_wp2_with fail
        refine (pickE_calls w0 g cv code c4 9 _ HR.out hg (bl_trans9 HS.out.hb (bl_low9 HM4.out.bl hg)) HC4.out (by omega) (by omega)).mono ?_; rintro e w5 ⟨r, c6, rfl, hrn, hC, hc6, hm⟩
        have hp6 : c6.pos ≤ c.pos + 12 := by omega
        have HM5 := Lib.hid (HM4.out.trans hm)
        have HC5 := Lib.hid hC
        have HX5 := Lib.hid (HX4.out.mv hm (by decide))
        have x5 : w5.cell? ⟨mb, 0, none⟩ = some (.int .i64 m.kind) := HX5.out.cell (j := 0) (by omega)
        have f5 : w5.frozen? ⟨mb, 0, none⟩ = false := HX5.out.free 0
        have hrn : r ≤ 10 := by omega
        clear hC hm x4
        go_upto_region 17 with fail
        clear x5 f5
        obtain ⟨u, hu⟩ : ∃ u : Int, ((r : Nat) : Int) = u := ⟨_, rfl⟩
        rw [hu]
        clear hu
        have HX6 := Lib.hid (mF9_set (m' := ⟨u, m.task, m.fn, m.line, m.text, m.vars⟩) (vx' := .slice Av m.vars.length cvx) HX5.out (j := 0) (by omega) (.int .i64 u) fun i hi => by match i, hi with | 0, _ => rfl | 1, _ => rfl | 2, _ => rfl | 3, _ => rfl | 4, _ => rfl | 5, _ => rfl)
        have HM6 := Lib.hid (HM5.out.setNew (p := ⟨mb, 0, none⟩) hgm hmw (.int .i64 u))
        have HC6 : Hid (CuAt (w5.setCell ⟨mb, 0, none⟩ (.int .i64 u)) g cv c6) := Lib.hid ⟨HC5.out.blk.far (by dsimp only; omega) _, HC5.out.sd⟩
        have HV6 : Hid (OwR (w5.setCell ⟨mb, 0, none⟩ (.int .i64 u)) lo 40 2 (⟨u, m.task, m.fn, m.line, m.text, m.vars⟩ : PMom).vars.length (varC (⟨u, m.task, m.fn, m.line, m.text, m.vars⟩ : PMom).vars) (.slice Av m.vars.length cvx)) := Lib.hid ((HV.out.mv HM5.out (by decide)).other HX5.out (by decide) _ _)
        have HSM6 : Hid (smMom ⟨u, m.task, m.fn, m.line, m.text, m.vars⟩) := Lib.hid ⟨HSMM.out.1, HSMM.out.2⟩
        generalize hvx5 : Value.slice Av m.vars.length cvx = vx5 at HX6 HV6
        generalize hwB : w5.setCell ⟨mb, 0, none⟩ (.int .i64 u) = w6 at HX6 HM6 HC6 HV6 ⊢
        obtain ⟨A5, n5, c5, rfl⟩ : ∃ A n c, vx5 = Value.slice A n c := ⟨_, _, _, hvx5.symm⟩
        clear hvx5 hwB HM5 HC5 HX5
        obtain ⟨m6, hm6⟩ : ∃ x : PMom, ⟨u, m.task, m.fn, m.line, m.text, m.vars⟩ = x := ⟨_, rfl⟩
        rw [hm6] at HX6 HV6 HSM6
        clear hm6 HX4 HM4 HC4
        have HS6 := Lib.hid (HS.out.pick hg HC6.out HM6.out)
        have x1 : w6.cell? ⟨tb, 1, none⟩ = some (.slice (some ⟨b, 0, none⟩) ms.length c2) := HS6.out.hx.cell (j := 1) (by omega)
        have y0 : w6.cell? ⟨mb, 0, none⟩ = some (.int .i64 m6.kind) := HX6.out.cell (j := 0) (by omega)
        have y1 : w6.cell? ⟨mb, 1, none⟩ = some (.int .i64 m6.task) := HX6.out.cell (j := 1) (by omega)
        have y2 : w6.cell? ⟨mb, 2, none⟩ = some (.int .i64 m6.fn) := HX6.out.cell (j := 2) (by omega)
        have y3 : w6.cell? ⟨mb, 3, none⟩ = some (.int .i64 m6.line) := HX6.out.cell (j := 3) (by omega)
        have y4 : w6.cell? ⟨mb, 4, none⟩ = some (.string m6.text) := HX6.out.cell (j := 4) (by omega)
        have y5 : w6.cell? ⟨mb, 5, none⟩ = some (.slice A5 n5 c5) := HX6.out.cell (j := 5) (by omega)
        have hfr : ∀ j, w6.frozen? ⟨b, j, none⟩ = false := fun j => HS6.out.hd.mo.free9 j
        have zc : ∀ j, j < 6 → ∃ u, w6.cell? ⟨b, i * 6 + j, none⟩ = some u := fun j hj => BMoms.some9 HS6.out.hd.mo hi hj
        obtain ⟨u0, z0⟩ := zc 0 (by omega)
        obtain ⟨u1, z1⟩ := zc 1 (by omega)
        obtain ⟨u2, z2⟩ := zc 2 (by omega)
        obtain ⟨u3, z3⟩ := zc 3 (by omega)
        obtain ⟨u4, z4⟩ := zc 4 (by omega)
        obtain ⟨u5, z5⟩ := zc 5 (by omega)
        have e0 := hfr (i * 6)
        have e1 := hfr (i * 6 + 1)
        have e2 := hfr (i * 6 + 2)
        have e3 := hfr (i * 6 + 3)
        have e4 := hfr (i * 6 + 4)
        have e5 := hfr (i * 6 + 5)
        rw [Nat.add_zero] at z0
        have hil : (i : Int) < (ms.length : Int) := by omega
        clear zc hfr
        go_still_tail 7, (by kernel_rfl)
        go_wp2_with fail
        refine bodyPost_ret (results_none rfl _ _ _) rfl ?_
        exact spoil_end HS6.out hi HSM6.out HV6.out hlo hp6
      · go_wp2_with fail
        refine (pickE_calls w0 g cv code c4 9 _ HR.out hg (bl_trans9 HS.out.hb (bl_low9 HM4.out.bl hg)) HC4.out (by omega) (by omega)).mono ?_; rintro e w5 ⟨r, c6, rfl, hrn, hC, hc6, hm⟩
        have hp6 : c6.pos ≤ c.pos + 12 := by omega
        have HM5 := Lib.hid (HM4.out.trans hm)
        have HC5 := Lib.hid hC
        have HX5 := Lib.hid (HX4.out.mv hm (by decide))
        have x5 : w5.cell? ⟨mb, 0, none⟩ = some (.int .i64 m.kind) := HX5.out.cell (j := 0) (by omega)
        have f5 : w5.frozen? ⟨mb, 0, none⟩ = false := HX5.out.free 0
        have hrn : r ≤ 10 := by omega
        clear hC hm x4
        go_upto_region 17 with fail
        clear x5 f5
        obtain ⟨u, hu⟩ : ∃ u : Int, ((r : Nat) : Int) = u := ⟨_, rfl⟩
        rw [hu]
        clear hu
        have HX6 := Lib.hid (mF9_set (m' := ⟨u, m.task, m.fn, m.line, m.text, m.vars⟩) (vx' := .slice Av m.vars.length cvx) HX5.out (j := 0) (by omega) (.int .i64 u) fun i hi => by match i, hi with | 0, _ => rfl | 1, _ => rfl | 2, _ => rfl | 3, _ => rfl | 4, _ => rfl | 5, _ => rfl)
        have HM6 := Lib.hid (HM5.out.setNew (p := ⟨mb, 0, none⟩) hgm hmw (.int .i64 u))
        have HC6 : Hid (CuAt (w5.setCell ⟨mb, 0, none⟩ (.int .i64 u)) g cv c6) := Lib.hid ⟨HC5.out.blk.far (by dsimp only; omega) _, HC5.out.sd⟩
        have HV6 : Hid (OwR (w5.setCell ⟨mb, 0, none⟩ (.int .i64 u)) lo 40 2 (⟨u, m.task, m.fn, m.line, m.text, m.vars⟩ : PMom).vars.length (varC (⟨u, m.task, m.fn, m.line, m.text, m.vars⟩ : PMom).vars) (.slice Av m.vars.length cvx)) := Lib.hid ((HV.out.mv HM5.out (by decide)).other HX5.out (by decide) _ _)
        have HSM6 : Hid (smMom ⟨u, m.task, m.fn, m.line, m.text, m.vars⟩) := Lib.hid ⟨HSMM.out.1, HSMM.out.2⟩
        generalize hvx5 : Value.slice Av m.vars.length cvx = vx5 at HX6 HV6
        generalize hwB : w5.setCell ⟨mb, 0, none⟩ (.int .i64 u) = w6 at HX6 HM6 HC6 HV6 ⊢
        obtain ⟨A5, n5, c5, rfl⟩ : ∃ A n c, vx5 = Value.slice A n c := ⟨_, _, _, hvx5.symm⟩
        clear hvx5 hwB HM5 HC5 HX5
        obtain ⟨m6, hm6⟩ : ∃ x : PMom, ⟨u, m.task, m.fn, m.line, m.text, m.vars⟩ = x := ⟨_, rfl⟩
        rw [hm6] at HX6 HV6 HSM6
        clear hm6 HX4 HM4 HC4
        have HS6 := Lib.hid (HS.out.pick hg HC6.out HM6.out)
        have x1 : w6.cell? ⟨tb, 1, none⟩ = some (.slice (some ⟨b, 0, none⟩) ms.length c2) := HS6.out.hx.cell (j := 1) (by omega)
        have y0 : w6.cell? ⟨mb, 0, none⟩ = some (.int .i64 m6.kind) := HX6.out.cell (j := 0) (by omega)
        have y1 : w6.cell? ⟨mb, 1, none⟩ = some (.int .i64 m6.task) := HX6.out.cell (j := 1) (by omega)
        have y2 : w6.cell? ⟨mb, 2, none⟩ = some (.int .i64 m6.fn) := HX6.out.cell (j := 2) (by omega)
        have y3 : w6.cell? ⟨mb, 3, none⟩ = some (.int .i64 m6.line) := HX6.out.cell (j := 3) (by omega)
        have y4 : w6.cell? ⟨mb, 4, none⟩ = some (.string m6.text) := HX6.out.cell (j := 4) (by omega)
        have y5 : w6.cell? ⟨mb, 5, none⟩ = some (.slice A5 n5 c5) := HX6.out.cell (j := 5) (by omega)
        have hfr : ∀ j, w6.frozen? ⟨b, j, none⟩ = false := fun j => HS6.out.hd.mo.free9 j
        have zc : ∀ j, j < 6 → ∃ u, w6.cell? ⟨b, i * 6 + j, none⟩ = some u := fun j hj => BMoms.some9 HS6.out.hd.mo hi hj
        obtain ⟨u0, z0⟩ := zc 0 (by omega)
        obtain ⟨u1, z1⟩ := zc 1 (by omega)
        obtain ⟨u2, z2⟩ := zc 2 (by omega)
        obtain ⟨u3, z3⟩ := zc 3 (by omega)
        obtain ⟨u4, z4⟩ := zc 4 (by omega)
        obtain ⟨u5, z5⟩ := zc 5 (by omega)
        have e0 := hfr (i * 6)
        have e1 := hfr (i * 6 + 1)
        have e2 := hfr (i * 6 + 2)
        have e3 := hfr (i * 6 + 3)
        have e4 := hfr (i * 6 + 4)
        have e5 := hfr (i * 6 + 5)
        rw [Nat.add_zero] at z0
        have hil : (i : Int) < (ms.length : Int) := by omega
        clear zc hfr
        go_still_tail 7, (by kernel_rfl)
        go_wp2_with fail
        refine bodyPost_ret (results_none rfl _ _ _) rfl ?_
        exact spoil_end HS6.out hi HSM6.out HV6.out hlo hp6
      · go_wp2_with fail
        refine (pickE_calls w0 g cv code c4 6 _ HR.out hg (bl_trans9 HS.out.hb (bl_low9 HM4.out.bl hg)) HC4.out (by omega) (by omega)).mono ?_; rintro e w5 ⟨r, c6, rfl, hrn, hC, hc6, hm⟩
        have hp6 : c6.pos ≤ c.pos + 12 := by omega
        have HM5 := Lib.hid (HM4.out.trans hm)
        have HC5 := Lib.hid hC
        have HX5 := Lib.hid (HX4.out.mv hm (by decide))
        have x5 : w5.cell? ⟨mb, 1, none⟩ = some (.int .i64 m.task) := HX5.out.cell (j := 1) (by omega)
        have f5 : w5.frozen? ⟨mb, 1, none⟩ = false := HX5.out.free 1
        have hrn : r ≤ 10 := by omega
        clear hC hm x4
        go_upto_region 17 with fail
        clear x5 f5
        obtain ⟨u, hu⟩ : ∃ u : Int, ((r : Nat) : Int) - 1 = u := ⟨_, rfl⟩
        rw [hu]
        clear hu
        have HX6 := Lib.hid (mF9_set (m' := ⟨m.kind, u, m.fn, m.line, m.text, m.vars⟩) (vx' := .slice Av m.vars.length cvx) HX5.out (j := 1) (by omega) (.int .i64 u) fun i hi => by match i, hi with | 0, _ => rfl | 1, _ => rfl | 2, _ => rfl | 3, _ => rfl | 4, _ => rfl | 5, _ => rfl)
        have HM6 := Lib.hid (HM5.out.setNew (p := ⟨mb, 1, none⟩) hgm hmw (.int .i64 u))
        have HC6 : Hid (CuAt (w5.setCell ⟨mb, 1, none⟩ (.int .i64 u)) g cv c6) := Lib.hid ⟨HC5.out.blk.far (by dsimp only; omega) _, HC5.out.sd⟩
        have HV6 : Hid (OwR (w5.setCell ⟨mb, 1, none⟩ (.int .i64 u)) lo 40 2 (⟨m.kind, u, m.fn, m.line, m.text, m.vars⟩ : PMom).vars.length (varC (⟨m.kind, u, m.fn, m.line, m.text, m.vars⟩ : PMom).vars) (.slice Av m.vars.length cvx)) := Lib.hid ((HV.out.mv HM5.out (by decide)).other HX5.out (by decide) _ _)
        have HSM6 : Hid (smMom ⟨m.kind, u, m.fn, m.line, m.text, m.vars⟩) := Lib.hid ⟨HSMM.out.1, HSMM.out.2⟩
        generalize hvx5 : Value.slice Av m.vars.length cvx = vx5 at HX6 HV6
        generalize hwB : w5.setCell ⟨mb, 1, none⟩ (.int .i64 u) = w6 at HX6 HM6 HC6 HV6 ⊢
        obtain ⟨A5, n5, c5, rfl⟩ : ∃ A n c, vx5 = Value.slice A n c := ⟨_, _, _, hvx5.symm⟩
        clear hvx5 hwB HM5 HC5 HX5
        obtain ⟨m6, hm6⟩ : ∃ x : PMom, ⟨m.kind, u, m.fn, m.line, m.text, m.vars⟩ = x := ⟨_, rfl⟩
        rw [hm6] at HX6 HV6 HSM6
        clear hm6 HX4 HM4 HC4
        have HS6 := Lib.hid (HS.out.pick hg HC6.out HM6.out)
        have x1 : w6.cell? ⟨tb, 1, none⟩ = some (.slice (some ⟨b, 0, none⟩) ms.length c2) := HS6.out.hx.cell (j := 1) (by omega)
        have y0 : w6.cell? ⟨mb, 0, none⟩ = some (.int .i64 m6.kind) := HX6.out.cell (j := 0) (by omega)
        have y1 : w6.cell? ⟨mb, 1, none⟩ = some (.int .i64 m6.task) := HX6.out.cell (j := 1) (by omega)
        have y2 : w6.cell? ⟨mb, 2, none⟩ = some (.int .i64 m6.fn) := HX6.out.cell (j := 2) (by omega)
        have y3 : w6.cell? ⟨mb, 3, none⟩ = some (.int .i64 m6.line) := HX6.out.cell (j := 3) (by omega)
        have y4 : w6.cell? ⟨mb, 4, none⟩ = some (.string m6.text) := HX6.out.cell (j := 4) (by omega)
        have y5 : w6.cell? ⟨mb, 5, none⟩ = some (.slice A5 n5 c5) := HX6.out.cell (j := 5) (by omega)
        have hfr : ∀ j, w6.frozen? ⟨b, j, none⟩ = false := fun j => HS6.out.hd.mo.free9 j
        have zc : ∀ j, j < 6 → ∃ u, w6.cell? ⟨b, i * 6 + j, none⟩ = some u := fun j hj => BMoms.some9 HS6.out.hd.mo hi hj
        obtain ⟨u0, z0⟩ := zc 0 (by omega)
        obtain ⟨u1, z1⟩ := zc 1 (by omega)
        obtain ⟨u2, z2⟩ := zc 2 (by omega)
        obtain ⟨u3, z3⟩ := zc 3 (by omega)
        obtain ⟨u4, z4⟩ := zc 4 (by omega)
        obtain ⟨u5, z5⟩ := zc 5 (by omega)
        have e0 := hfr (i * 6)
        have e1 := hfr (i * 6 + 1)
        have e2 := hfr (i * 6 + 2)
        have e3 := hfr (i * 6 + 3)
        have e4 := hfr (i * 6 + 4)
        have e5 := hfr (i * 6 + 5)
        rw [Nat.add_zero] at z0
        have hil : (i : Int) < (ms.length : Int) := by omega
        clear zc hfr
        go_still_tail 7, (by kernel_rfl)
        go_wp2_with fail
        refine bodyPost_ret (results_none rfl _ _ _) rfl ?_
        exact spoil_end HS6.out hi HSM6.out HV6.out hlo hp6
      · go_wp2_with fail
        refine (pickE_calls w0 g cv code c4 6 _ HR.out hg (bl_trans9 HS.out.hb (bl_low9 HM4.out.bl hg)) HC4.out (by omega) (by omega)).mono ?_; rintro e w5 ⟨r, c6, rfl, hrn, hC, hc6, hm⟩
        have hp6 : c6.pos ≤ c.pos + 12 := by omega
        have HM5 := Lib.hid (HM4.out.trans hm)
        have HC5 := Lib.hid hC
        have HX5 := Lib.hid (HX4.out.mv hm (by decide))
        have x5 : w5.cell? ⟨mb, 2, none⟩ = some (.int .i64 m.fn) := HX5.out.cell (j := 2) (by omega)
        have f5 : w5.frozen? ⟨mb, 2, none⟩ = false := HX5.out.free 2
        have hrn : r ≤ 10 := by omega
        clear hC hm x4
        go_upto_region 17 with fail
        clear x5 f5
        obtain ⟨u, hu⟩ : ∃ u : Int, ((r : Nat) : Int) - 1 = u := ⟨_, rfl⟩
        rw [hu]
        clear hu
        have HX6 := Lib.hid (mF9_set (m' := ⟨m.kind, m.task, u, m.line, m.text, m.vars⟩) (vx' := .slice Av m.vars.length cvx) HX5.out (j := 2) (by omega) (.int .i64 u) fun i hi => by match i, hi with | 0, _ => rfl | 1, _ => rfl | 2, _ => rfl | 3, _ => rfl | 4, _ => rfl | 5, _ => rfl)
        have HM6 := Lib.hid (HM5.out.setNew (p := ⟨mb, 2, none⟩) hgm hmw (.int .i64 u))
        have HC6 : Hid (CuAt (w5.setCell ⟨mb, 2, none⟩ (.int .i64 u)) g cv c6) := Lib.hid ⟨HC5.out.blk.far (by dsimp only; omega) _, HC5.out.sd⟩
        have HV6 : Hid (OwR (w5.setCell ⟨mb, 2, none⟩ (.int .i64 u)) lo 40 2 (⟨m.kind, m.task, u, m.line, m.text, m.vars⟩ : PMom).vars.length (varC (⟨m.kind, m.task, u, m.line, m.text, m.vars⟩ : PMom).vars) (.slice Av m.vars.length cvx)) := Lib.hid ((HV.out.mv HM5.out (by decide)).other HX5.out (by decide) _ _)
        have HSM6 : Hid (smMom ⟨m.kind, m.task, u, m.line, m.text, m.vars⟩) := Lib.hid ⟨HSMM.out.1, HSMM.out.2⟩
        generalize hvx5 : Value.slice Av m.vars.length cvx = vx5 at HX6 HV6
        generalize hwB : w5.setCell ⟨mb, 2, none⟩ (.int .i64 u) = w6 at HX6 HM6 HC6 HV6 ⊢
        obtain ⟨A5, n5, c5, rfl⟩ : ∃ A n c, vx5 = Value.slice A n c := ⟨_, _, _, hvx5.symm⟩
        clear hvx5 hwB HM5 HC5 HX5
        obtain ⟨m6, hm6⟩ : ∃ x : PMom, ⟨m.kind, m.task, u, m.line, m.text, m.vars⟩ = x := ⟨_, rfl⟩
        rw [hm6] at HX6 HV6 HSM6
        clear hm6 HX4 HM4 HC4
        have HS6 := Lib.hid (HS.out.pick hg HC6.out HM6.out)
        have x1 : w6.cell? ⟨tb, 1, none⟩ = some (.slice (some ⟨b, 0, none⟩) ms.length c2) := HS6.out.hx.cell (j := 1) (by omega)
        have y0 : w6.cell? ⟨mb, 0, none⟩ = some (.int .i64 m6.kind) := HX6.out.cell (j := 0) (by omega)
        have y1 : w6.cell? ⟨mb, 1, none⟩ = some (.int .i64 m6.task) := HX6.out.cell (j := 1) (by omega)
        have y2 : w6.cell? ⟨mb, 2, none⟩ = some (.int .i64 m6.fn) := HX6.out.cell (j := 2) (by omega)
        have y3 : w6.cell? ⟨mb, 3, none⟩ = some (.int .i64 m6.line) := HX6.out.cell (j := 3) (by omega)
        have y4 : w6.cell? ⟨mb, 4, none⟩ = some (.string m6.text) := HX6.out.cell (j := 4) (by omega)
        have y5 : w6.cell? ⟨mb, 5, none⟩ = some (.slice A5 n5 c5) := HX6.out.cell (j := 5) (by omega)
        have hfr : ∀ j, w6.frozen? ⟨b, j, none⟩ = false := fun j => HS6.out.hd.mo.free9 j
        have zc : ∀ j, j < 6 → ∃ u, w6.cell? ⟨b, i * 6 + j, none⟩ = some u := fun j hj => BMoms.some9 HS6.out.hd.mo hi hj
        obtain ⟨u0, z0⟩ := zc 0 (by omega)
        obtain ⟨u1, z1⟩ := zc 1 (by omega)
        obtain ⟨u2, z2⟩ := zc 2 (by omega)
        obtain ⟨u3, z3⟩ := zc 3 (by omega)
        obtain ⟨u4, z4⟩ := zc 4 (by omega)
        obtain ⟨u5, z5⟩ := zc 5 (by omega)
        have e0 := hfr (i * 6)
        have e1 := hfr (i * 6 + 1)
        have e2 := hfr (i * 6 + 2)
        have e3 := hfr (i * 6 + 3)
        have e4 := hfr (i * 6 + 4)
        have e5 := hfr (i * 6 + 5)
        rw [Nat.add_zero] at z0
        have hil : (i : Int) < (ms.length : Int) := by omega
        clear zc hfr
        go_still_tail 7, (by kernel_rfl)
        go_wp2_with fail
        refine bodyPost_ret (results_none rfl _ _ _) rfl ?_
        exact spoil_end HS6.out hi HSM6.out HV6.out hlo hp6
      · go_wp2_with fail
        refine (pickE_calls w0 g cv code c4 4 _ HR.out hg (bl_trans9 HS.out.hb (bl_low9 HM4.out.bl hg)) HC4.out (by omega) (by omega)).mono ?_; rintro e w5 ⟨r, c6, rfl, hrn, hC, hc6, hm⟩
        have hp6 : c6.pos ≤ c.pos + 12 := by omega
        have HM5 := Lib.hid (HM4.out.trans hm)
        have HC5 := Lib.hid hC
        have HX5 := Lib.hid (HX4.out.mv hm (by decide))
        have x5 : w5.cell? ⟨mb, 3, none⟩ = some (.int .i64 m.line) := HX5.out.cell (j := 3) (by omega)
        have f5 : w5.frozen? ⟨mb, 3, none⟩ = false := HX5.out.free 3
        have hrn : r ≤ 10 := by omega
        clear hC hm x4
        go_upto_region 17 with fail
        clear x5 f5
        obtain ⟨u, hu⟩ : ∃ u : Int, ((r : Nat) : Int) - 1 = u := ⟨_, rfl⟩
        rw [hu]
        clear hu
        have HX6 := Lib.hid (mF9_set (m' := ⟨m.kind, m.task, m.fn, u, m.text, m.vars⟩) (vx' := .slice Av m.vars.length cvx) HX5.out (j := 3) (by omega) (.int .i64 u) fun i hi => by match i, hi with | 0, _ => rfl | 1, _ => rfl | 2, _ => rfl | 3, _ => rfl | 4, _ => rfl | 5, _ => rfl)
        have HM6 := Lib.hid (HM5.out.setNew (p := ⟨mb, 3, none⟩) hgm hmw (.int .i64 u))
        have HC6 : Hid (CuAt (w5.setCell ⟨mb, 3, none⟩ (.int .i64 u)) g cv c6) := Lib.hid ⟨HC5.out.blk.far (by dsimp only; omega) _, HC5.out.sd⟩
        have HV6 : Hid (OwR (w5.setCell ⟨mb, 3, none⟩ (.int .i64 u)) lo 40 2 (⟨m.kind, m.task, m.fn, u, m.text, m.vars⟩ : PMom).vars.length (varC (⟨m.kind, m.task, m.fn, u, m.text, m.vars⟩ : PMom).vars) (.slice Av m.vars.length cvx)) := Lib.hid ((HV.out.mv HM5.out (by decide)).other HX5.out (by decide) _ _)
        have HSM6 : Hid (smMom ⟨m.kind, m.task, m.fn, u, m.text, m.vars⟩) := Lib.hid ⟨HSMM.out.1, HSMM.out.2⟩
        generalize hvx5 : Value.slice Av m.vars.length cvx = vx5 at HX6 HV6
        generalize hwB : w5.setCell ⟨mb, 3, none⟩ (.int .i64 u) = w6 at HX6 HM6 HC6 HV6 ⊢
        obtain ⟨A5, n5, c5, rfl⟩ : ∃ A n c, vx5 = Value.slice A n c := ⟨_, _, _, hvx5.symm⟩
        clear hvx5 hwB HM5 HC5 HX5
        obtain ⟨m6, hm6⟩ : ∃ x : PMom, ⟨m.kind, m.task, m.fn, u, m.text, m.vars⟩ = x := ⟨_, rfl⟩
        rw [hm6] at HX6 HV6 HSM6
        clear hm6 HX4 HM4 HC4
        have HS6 := Lib.hid (HS.out.pick hg HC6.out HM6.out)
        have x1 : w6.cell? ⟨tb, 1, none⟩ = some (.slice (some ⟨b, 0, none⟩) ms.length c2) := HS6.out.hx.cell (j := 1) (by omega)
        have y0 : w6.cell? ⟨mb, 0, none⟩ = some (.int .i64 m6.kind) := HX6.out.cell (j := 0) (by omega)
        have y1 : w6.cell? ⟨mb, 1, none⟩ = some (.int .i64 m6.task) := HX6.out.cell (j := 1) (by omega)
        have y2 : w6.cell? ⟨mb, 2, none⟩ = some (.int .i64 m6.fn) := HX6.out.cell (j := 2) (by omega)
        have y3 : w6.cell? ⟨mb, 3, none⟩ = some (.int .i64 m6.line) := HX6.out.cell (j := 3) (by omega)
        have y4 : w6.cell? ⟨mb, 4, none⟩ = some (.string m6.text) := HX6.out.cell (j := 4) (by omega)
        have y5 : w6.cell? ⟨mb, 5, none⟩ = some (.slice A5 n5 c5) := HX6.out.cell (j := 5) (by omega)
        have hfr : ∀ j, w6.frozen? ⟨b, j, none⟩ = false := fun j => HS6.out.hd.mo.free9 j
        have zc : ∀ j, j < 6 → ∃ u, w6.cell? ⟨b, i * 6 + j, none⟩ = some u := fun j hj => BMoms.some9 HS6.out.hd.mo hi hj
        obtain ⟨u0, z0⟩ := zc 0 (by omega)
        obtain ⟨u1, z1⟩ := zc 1 (by omega)
        obtain ⟨u2, z2⟩ := zc 2 (by omega)
        obtain ⟨u3, z3⟩ := zc 3 (by omega)
        obtain ⟨u4, z4⟩ := zc 4 (by omega)
        obtain ⟨u5, z5⟩ := zc 5 (by omega)
        have e0 := hfr (i * 6)
        have e1 := hfr (i * 6 + 1)
        have e2 := hfr (i * 6 + 2)
        have e3 := hfr (i * 6 + 3)
        have e4 := hfr (i * 6 + 4)
        have e5 := hfr (i * 6 + 5)
        rw [Nat.add_zero] at z0
        have hil : (i : Int) < (ms.length : Int) := by omega
        clear zc hfr
        go_still_tail 7, (by kernel_rfl)
        go_wp2_with fail
        refine bodyPost_ret (results_none rfl _ _ _) rfl ?_
        exact spoil_end HS6.out hi HSM6.out HV6.out hlo hp6
      · go_upto_region 17 with fail
        clear x4 f4
        have hvx := var_x (w4.setCell ⟨mb, 5, none⟩ (.slice (some ⟨w4.heap.size, 0, none⟩) 1 1))
        rw [World.size_setCell] at hvx
        have HSZ4 : Hid ((w4.setCell ⟨mb, 5, none⟩ (.slice (some ⟨w4.heap.size, 0, none⟩) 1 1)).heap.size = w4.heap.size) := Lib.hid (World.size_setCell _ _ _)
        have HX6 := Lib.hid ((mF9_set (m' := ⟨m.kind, m.task, m.fn, m.line, m.text, [⟨⟨#[]⟩, ⟨#[120]⟩⟩]⟩) (vx' := .slice (some ⟨w4.heap.size, 0, none⟩) 1 1) HX4.out (j := 5) (by omega) (.slice (some ⟨w4.heap.size, 0, none⟩) 1 1) fun i hi => by match i, hi with | 0, _ => rfl | 1, _ => rfl | 2, _ => rfl | 3, _ => rfl | 4, _ => rfl | 5, _ => rfl).alloc (.cells #[.string ⟨#[]⟩, .string ⟨#[120]⟩] 40))
        have HM6 := Lib.hid ((HM4.out.setNew (p := ⟨mb, 5, none⟩) hgm hmw (.slice (some ⟨w4.heap.size, 0, none⟩) 1 1)).alloc (by rw [HSZ4.out]; omega) (.cells #[.string ⟨#[]⟩, .string ⟨#[120]⟩] 40))
        have HC6 : Hid (CuAt ((w4.setCell ⟨mb, 5, none⟩ (.slice (some ⟨w4.heap.size, 0, none⟩) 1 1)).alloc (.cells #[.string ⟨#[]⟩, .string ⟨#[120]⟩] 40)) g cv c4) := Lib.hid ⟨(HC4.out.blk.far (by dsimp only; omega) _).alloc _, HC4.out.sd⟩
        have HV6 : Hid (OwR ((w4.setCell ⟨mb, 5, none⟩ (.slice (some ⟨w4.heap.size, 0, none⟩) 1 1)).alloc (.cells #[.string ⟨#[]⟩, .string ⟨#[120]⟩] 40)) lo 40 2 (⟨m.kind, m.task, m.fn, m.line, m.text, [⟨⟨#[]⟩, ⟨#[120]⟩⟩]⟩ : PMom).vars.length (varC (⟨m.kind, m.task, m.fn, m.line, m.text, [⟨⟨#[]⟩, ⟨#[120]⟩⟩]⟩ : PMom).vars) (.slice (some ⟨w4.heap.size, 0, none⟩) 1 1)) := Lib.hid (hvx.lower (by omega))
        have HSM6 : Hid (smMom ⟨m.kind, m.task, m.fn, m.line, m.text, [⟨⟨#[]⟩, ⟨#[120]⟩⟩]⟩) := Lib.hid ⟨HSMM.out.1, smVars_x⟩
        generalize hwB : World.alloc (w4.setCell ⟨mb, 5, none⟩ (.slice (some ⟨w4.heap.size, 0, none⟩) 1 1)) (.cells #[.string ⟨#[]⟩, .string ⟨#[120]⟩] 40) = w6 at HX6 HM6 HC6 HV6 ⊢
        generalize hvx5 : Value.slice (some ⟨w4.heap.size, 0, none⟩) 1 1 = vx5 at HX6 HV6
        obtain ⟨A5, n5, c5, rfl⟩ : ∃ A n c, vx5 = Value.slice A n c := ⟨_, _, _, hvx5.symm⟩
        obtain ⟨c6, hc6⟩ : ∃ d, c4 = d := ⟨_, rfl⟩
        rw [hc6] at HC6
        have hp6 : c6.pos ≤ c.pos + 12 := by rw [← hc6]; omega
        clear hwB hc6 hvx hvx5 HSZ4
        obtain ⟨m6, hm6⟩ : ∃ x : PMom, ⟨m.kind, m.task, m.fn, m.line, m.text, [⟨⟨#[]⟩, ⟨#[120]⟩⟩]⟩ = x := ⟨_, rfl⟩
        rw [hm6] at HX6 HV6 HSM6
        clear hm6 HX4 HM4 HC4
        have HS6 := Lib.hid (HS.out.pick hg HC6.out HM6.out)
        have x1 : w6.cell? ⟨tb, 1, none⟩ = some (.slice (some ⟨b, 0, none⟩) ms.length c2) := HS6.out.hx.cell (j := 1) (by omega)
        have y0 : w6.cell? ⟨mb, 0, none⟩ = some (.int .i64 m6.kind) := HX6.out.cell (j := 0) (by omega)
        have y1 : w6.cell? ⟨mb, 1, none⟩ = some (.int .i64 m6.task) := HX6.out.cell (j := 1) (by omega)
        have y2 : w6.cell? ⟨mb, 2, none⟩ = some (.int .i64 m6.fn) := HX6.out.cell (j := 2) (by omega)
        have y3 : w6.cell? ⟨mb, 3, none⟩ = some (.int .i64 m6.line) := HX6.out.cell (j := 3) (by omega)
        have y4 : w6.cell? ⟨mb, 4, none⟩ = some (.string m6.text) := HX6.out.cell (j := 4) (by omega)
        have y5 : w6.cell? ⟨mb, 5, none⟩ = some (.slice A5 n5 c5) := HX6.out.cell (j := 5) (by omega)
        have hfr : ∀ j, w6.frozen? ⟨b, j, none⟩ = false := fun j => HS6.out.hd.mo.free9 j
        have zc : ∀ j, j < 6 → ∃ u, w6.cell? ⟨b, i * 6 + j, none⟩ = some u := fun j hj => BMoms.some9 HS6.out.hd.mo hi hj
        obtain ⟨u0, z0⟩ := zc 0 (by omega)
        obtain ⟨u1, z1⟩ := zc 1 (by omega)
        obtain ⟨u2, z2⟩ := zc 2 (by omega)
        obtain ⟨u3, z3⟩ := zc 3 (by omega)
        obtain ⟨u4, z4⟩ := zc 4 (by omega)
        obtain ⟨u5, z5⟩ := zc 5 (by omega)
        have e0 := hfr (i * 6)
        have e1 := hfr (i * 6 + 1)
        have e2 := hfr (i * 6 + 2)
        have e3 := hfr (i * 6 + 3)
        have e4 := hfr (i * 6 + 4)
        have e5 := hfr (i * 6 + 5)
        rw [Nat.add_zero] at z0
        have hil : (i : Int) < (ms.length : Int) := by omega
        clear zc hfr
        go_still_tail 7, (by kernel_rfl)
        go_wp2_with fail
        refine bodyPost_ret (results_none rfl _ _ _) rfl ?_
        exact spoil_end HS6.out hi HSM6.out HV6.out hlo hp6
      · go_wp2_with fail
        refine (pickE_calls w0 g cv code c4 2 _ HR.out hg (bl_trans9 HS.out.hb (bl_low9 HM4.out.bl hg)) HC4.out (by omega) (by omega)).mono ?_; rintro e w5 ⟨r, c6, rfl, hrn, hC, hc6, hm⟩
        have hp6 : c6.pos ≤ c.pos + 12 := by omega
        have HM5 := Lib.hid (HM4.out.trans hm)
        have HC5 := Lib.hid hC
        have HX5 := Lib.hid (HX4.out.mv hm (by decide))
        have x5 : w5.cell? ⟨mb, 3, none⟩ = some (.int .i64 m.line) := HX5.out.cell (j := 3) (by omega)
        have f5 : w5.frozen? ⟨mb, 3, none⟩ = false := HX5.out.free 3
        have hrn : r ≤ 10 := by omega
        clear hC hm x4
        go_upto_region 17 with fail
        clear x5 f5
        obtain ⟨u, hu⟩ : ∃ u : Int, 100000 + ((r : Nat) : Int) = u := ⟨_, rfl⟩
        rw [hu]
        clear hu
        have HX6 := Lib.hid (mF9_set (m' := ⟨m.kind, m.task, m.fn, u, m.text, m.vars⟩) (vx' := .slice Av m.vars.length cvx) HX5.out (j := 3) (by omega) (.int .i64 u) fun i hi => by match i, hi with | 0, _ => rfl | 1, _ => rfl | 2, _ => rfl | 3, _ => rfl | 4, _ => rfl | 5, _ => rfl)
        have HM6 := Lib.hid (HM5.out.setNew (p := ⟨mb, 3, none⟩) hgm hmw (.int .i64 u))
        have HC6 : Hid (CuAt (w5.setCell ⟨mb, 3, none⟩ (.int .i64 u)) g cv c6) := Lib.hid ⟨HC5.out.blk.far (by dsimp only; omega) _, HC5.out.sd⟩
        have HV6 : Hid (OwR (w5.setCell ⟨mb, 3, none⟩ (.int .i64 u)) lo 40 2 (⟨m.kind, m.task, m.fn, u, m.text, m.vars⟩ : PMom).vars.length (varC (⟨m.kind, m.task, m.fn, u, m.text, m.vars⟩ : PMom).vars) (.slice Av m.vars.length cvx)) := Lib.hid ((HV.out.mv HM5.out (by decide)).other HX5.out (by decide) _ _)
        have HSM6 : Hid (smMom ⟨m.kind, m.task, m.fn, u, m.text, m.vars⟩) := Lib.hid ⟨HSMM.out.1, HSMM.out.2⟩
        generalize hvx5 : Value.slice Av m.vars.length cvx = vx5 at HX6 HV6
        generalize hwB : w5.setCell ⟨mb, 3, none⟩ (.int .i64 u) = w6 at HX6 HM6 HC6 HV6 ⊢
        obtain ⟨A5, n5, c5, rfl⟩ : ∃ A n c, vx5 = Value.slice A n c := ⟨_, _, _, hvx5.symm⟩
        clear hvx5 hwB HM5 HC5 HX5
        obtain ⟨m6, hm6⟩ : ∃ x : PMom, ⟨m.kind, m.task, m.fn, u, m.text, m.vars⟩ = x := ⟨_, rfl⟩
        rw [hm6] at HX6 HV6 HSM6
        clear hm6 HX4 HM4 HC4
        have HS6 := Lib.hid (HS.out.pick hg HC6.out HM6.out)
        have x1 : w6.cell? ⟨tb, 1, none⟩ = some (.slice (some ⟨b, 0, none⟩) ms.length c2) := HS6.out.hx.cell (j := 1) (by omega)
        have y0 : w6.cell? ⟨mb, 0, none⟩ = some (.int .i64 m6.kind) := HX6.out.cell (j := 0) (by omega)
        have y1 : w6.cell? ⟨mb, 1, none⟩ = some (.int .i64 m6.task) := HX6.out.cell (j := 1) (by omega)
        have y2 : w6.cell? ⟨mb, 2, none⟩ = some (.int .i64 m6.fn) := HX6.out.cell (j := 2) (by omega)
        have y3 : w6.cell? ⟨mb, 3, none⟩ = some (.int .i64 m6.line) := HX6.out.cell (j := 3) (by omega)
        have y4 : w6.cell? ⟨mb, 4, none⟩ = some (.string m6.text) := HX6.out.cell (j := 4) (by omega)
        have y5 : w6.cell? ⟨mb, 5, none⟩ = some (.slice A5 n5 c5) := HX6.out.cell (j := 5) (by omega)
        have hfr : ∀ j, w6.frozen? ⟨b, j, none⟩ = false := fun j => HS6.out.hd.mo.free9 j
        have zc : ∀ j, j < 6 → ∃ u, w6.cell? ⟨b, i * 6 + j, none⟩ = some u := fun j hj => BMoms.some9 HS6.out.hd.mo hi hj
        obtain ⟨u0, z0⟩ := zc 0 (by omega)
        obtain ⟨u1, z1⟩ := zc 1 (by omega)
        obtain ⟨u2, z2⟩ := zc 2 (by omega)
        obtain ⟨u3, z3⟩ := zc 3 (by omega)
        obtain ⟨u4, z4⟩ := zc 4 (by omega)
        obtain ⟨u5, z5⟩ := zc 5 (by omega)
        have e0 := hfr (i * 6)
        have e1 := hfr (i * 6 + 1)
        have e2 := hfr (i * 6 + 2)
        have e3 := hfr (i * 6 + 3)
        have e4 := hfr (i * 6 + 4)
        have e5 := hfr (i * 6 + 5)
        rw [Nat.add_zero] at z0
        have hil : (i : Int) < (ms.length : Int) := by omega
        clear zc hfr
        go_still_tail 7, (by kernel_rfl)
        go_wp2_with fail
        refine bodyPost_ret (results_none rfl _ _ _) rfl ?_
        exact spoil_end HS6.out hi HSM6.out HV6.out hlo hp6
end Go.Proofs.YtcklnjjbhngbcaaGreatDoor

namespace Go.Proofs.YtcklnjjbhngbcaaGreatDoor
open Go.RowKit Go.Proofs.Lens

theorem tr_new (w : World) (a b : Value) : Blk (w.alloc (.cells #[a, b] 26)) w.heap.size 26 2 (trF a b) :=
  (Blk.made w #[a, b] 26).congr fun j hj => by
    have hj : j < 2 := hj
    match j, hj with | 0, _ => rfl | 1, _ => rfl
/-- What the drawing of a trace gives. -/
def TrP (w0 : World) (g : Nat) (cv : Value) (lo : Nat) (e : Ending) (w' : World) : Prop :=
  ∃ v1 v2 fns ms c', e = .returned (.agg #[v1, v2]) ∧ DrT w' lo v1 v2 fns ms ∧ CuAt w' g cv c' ∧ c'.pos ≤ 200000000000000100 ∧ Below w0.heap.size w0 w'
theorem dFns_ow {w : World} {lo g : Nat} (h : Blk w g 9 4 strsF) (hl : lo ≤ g) : OwR w lo 9 1 dFns.length (strC dFns) (.slice (some ⟨g, 0, none⟩) 4 4) :=
  .inr ⟨g, 4, _, rfl, hl, Nat.le_refl _, by simp [maxLen], h, fun i hi j hj => by
    obtain rfl : j = 0 := by omega
    match i, hi with
    | 0, _ => rfl
    | 1, _ => rfl
    | 2, _ => rfl
    | 3, _ => rfl⟩
theorem ret_two {w W : World} {tb : Nat} {F : Nat → Value} (h : Blk W tb 26 2 F) {v1 v2 : Value} {lo : Nat} {fns : List ByteArray} {ms : List PMom} (hd : DrT W lo v1 v2 fns ms) {g : Nat} {cv : Value} {c : Cu} (hc : CuAt W g cv c) (hb : Below w.heap.size w W) (ht : w.heap.size ≤ tb) (u1 u2 : Value) :
    DrT ((W.setCell ⟨tb, 0, none⟩ u1).setCell ⟨tb, 1, none⟩ u2) lo v1 v2 fns ms ∧ CuAt ((W.setCell ⟨tb, 0, none⟩ u1).setCell ⟨tb, 1, none⟩ u2) g cv c ∧ Below w.heap.size w ((W.setCell ⟨tb, 0, none⟩ u1).setCell ⟨tb, 1, none⟩ u2) := by
  have m1 : Mv [26] tb W (W.setCell ⟨tb, 0, none⟩ u1) := (Mv.refl _ _ _).set (p := ⟨tb, 0, none⟩) (Nat.le_refl _) h (List.mem_singleton.2 rfl) u1
  have m2 := m1.set (p := ⟨tb, 1, none⟩) (Nat.le_refl _) (h.set (j := 0) (by omega) u1) (List.mem_singleton.2 rfl) u2
  exact ⟨hd.mv m2 (by decide) (by decide) (by decide), hc.mv m2 (by decide), bl_set (bl_set hb ht _) ht _⟩

set_option maxRecDepth 100000 in
set_option maxHeartbeats 4000000 in
theorem l6trace_calls (w0 : World) (g : Nat) (cv : Value) (code : List Nat) (c : Cu) (w : World) (hr : RdBytes w0 cv code) (hcode : code.length ≤ 1048576) (hg : w0.heap.size ≤ g) (hb0 : Below w0.heap.size w0 w) (h : CuAt w g cv c) (hp : c.pos ≤ 1000) :
    Calls Tryz.prog 68 #[.pointer (some ⟨g, 0, none⟩)] w (TrP w0 g cv w0.heap.size) := by
  have HR := Lib.hid hr
  have HC := Lib.hid h
  have HB0 := Lib.hid hb0
  have hgw : g < w.heap.size := h.blk.lt
  clear h hr hb0
  go_enter Tryz.func68, Tryz.ntmps68
  go_wp2_with fail
  have HY := Lib.hid (tr_new w (.slice none 0 0) (.slice none 0 0))
  have hbw : Below w.heap.size w (w.alloc (.cells #[.slice none 0 0, .slice none 0 0] 26)) := bl_alloc (Below.refl _ _) _
  have hsz : (w.alloc (.cells #[.slice none 0 0, .slice none 0 0] 26)).heap.size = w.heap.size + 1 := by simp
  generalize World.alloc w _ = W at HY hbw hsz ⊢
  obtain ⟨rb, hrb⟩ : ∃ x, w.heap.size = x := ⟨_, rfl⟩
  have HC0 := Lib.hid (HC.out.later hbw)
  have HB1 := Lib.hid (bl_then HB0.out hbw)
  rw [hrb] at HY hsz hgw ⊢
  have hsz : rb < W.heap.size := by omega
  clear hbw hrb HC HB0
  refine (pickE_calls w0 g cv code c 40 _ HR.out hg HB1.out HC0.out (by omega) (by omega)).mono ?_; rintro e w1 ⟨k, c1, rfl, hk, hC, hc1, hm⟩
  have HY1 := Lib.hid (HY.out.mv hm (by decide))
  have HC1 := Lib.hid hC
  have HB2 := Lib.hid (bl_trans9 HB1.out (bl_low9 hm.bl hg))
  have hsz1 : rb < w1.heap.size := Nat.lt_of_lt_of_le hsz hm.bl.size
  clear hC hm HY HC0 HB1 hsz
  by_cases h0 : k = 0
  · have hd : ((k : Int) == 0) = true := by rw [beq_iff_eq]; omega
    go_wp2_with fail
    refine (steep_calls w0 g cv code c1 _ HR.out hg HB2.out HC1.out (by omega)).mono ?_; rintro e w2 ⟨v1, v2, fns, ms, c2, rfl, hD, hC, hc2, hm⟩
    have HD := Lib.hid (hD.lower (lo' := w0.heap.size) HB2.out.size)
    have HC2 := Lib.hid hC
    have HY2 := Lib.hid (HY1.out.mv hm (by decide))
    have HB3 := Lib.hid (bl_trans9 HB2.out (bl_low9 hm.bl hg))
    have y1 : w2.cell? ⟨rb, 0, none⟩ = some (.slice none 0 0) := HY2.out.cell (j := 0) (by omega)
    have y2 : w2.cell? ⟨rb, 1, none⟩ = some (.slice none 0 0) := HY2.out.cell (j := 1) (by omega)
    have f0 := HY2.out.free 0
    have f1 := HY2.out.free 1
    obtain ⟨A1, cc1, rfl, -⟩ := hD.fn.cap
    obtain ⟨A2, cc2, rfl, -⟩ := hD.mo.cap
    clear hD hC hm
    go_wp2_with fail
    refine bodyPost_ret (v := .agg #[.slice A1 fns.length cc1, .slice A2 ms.length cc2]) (by simp [results, Tryz.results68, go_sem, y1, y2]) rfl ?_
    obtain ⟨q1, q2, q3⟩ := ret_two HY2.out HD.out HC2.out HB3.out (by omega) (.slice A1 fns.length cc1) (.slice A2 ms.length cc2)
    exact ⟨_, _, fns, ms, c2, rfl, q1, q2, by omega, q3⟩
  have hd : ((k : Int) == 0) = false := by rw [beq_eq_false_iff_ne]; omega
  by_cases h1 : k = 1
  · have hd1 : ((k : Int) == 1) = true := by rw [beq_iff_eq]; omega
    go_wp2_with fail
    refine (long_calls w0 g cv code c1 _ HR.out hg HB2.out HC1.out (by omega)).mono ?_; rintro e w2 ⟨v1, v2, fns, ms, c2, rfl, hD, hC, hc2, hm⟩
    have HD := Lib.hid (hD.lower (lo' := w0.heap.size) HB2.out.size)
    have HC2 := Lib.hid hC
    have HY2 := Lib.hid (HY1.out.mv hm (by decide))
    have HB3 := Lib.hid (bl_trans9 HB2.out (bl_low9 hm.bl hg))
    have y1 : w2.cell? ⟨rb, 0, none⟩ = some (.slice none 0 0) := HY2.out.cell (j := 0) (by omega)
    have y2 : w2.cell? ⟨rb, 1, none⟩ = some (.slice none 0 0) := HY2.out.cell (j := 1) (by omega)
    have f0 := HY2.out.free 0
    have f1 := HY2.out.free 1
    obtain ⟨A1, cc1, rfl, -⟩ := hD.fn.cap
    obtain ⟨A2, cc2, rfl, -⟩ := hD.mo.cap
    clear hD hC hm
    go_wp2_with fail
    refine bodyPost_ret (v := .agg #[.slice A1 fns.length cc1, .slice A2 ms.length cc2]) (by simp [results, Tryz.results68, go_sem, y1, y2]) rfl ?_
    obtain ⟨q1, q2, q3⟩ := ret_two HY2.out HD.out HC2.out HB3.out (by omega) (.slice A1 fns.length cc1) (.slice A2 ms.length cc2)
    exact ⟨_, _, fns, ms, c2, rfl, q1, q2, by omega, q3⟩
  have hd1 : ((k : Int) == 1) = false := by rw [beq_eq_false_iff_ne]; omega
  go_wp2_with fail
  refine (pickE_calls w0 g cv code c1 60 _ HR.out hg HB2.out HC1.out (by omega) (by omega)).mono ?_; rintro e w2 ⟨n, c2, rfl, hn, hC, hc2, hm⟩
  have hn59 : n ≤ 59 := by omega
  have HC2 := Lib.hid hC
  have HY2 := Lib.hid (HY1.out.mv hm (by decide))
  have HB3 := Lib.hid (bl_trans9 HB2.out (bl_low9 hm.bl hg))
  have hsz2 : rb < w2.heap.size := Nat.lt_of_lt_of_le hsz1 hm.bl.size
  clear hC hm HC1 HY1 HB2 hn
  go_wp2_with fail
  have hsound := trEnd_sound code c2 hcode (by omega : n ≤ 89)
  have htl := trEnd_len code c2 hcode (by omega : n ≤ 89)
  have HSM := Lib.hid (sm_sound hsound)
  refine (trace_calls w0 g cv code c2 n _ HR.out hg HB3.out HC2.out (by omega) (by omega) hcode).mono ?_; rintro e w3 ⟨gs, v2, rfl, hgs, hS, hM, hC, hc3, hm⟩
  have hlm : (trEnd code c2 n).ms.length ≤ 3001 := by omega
  have hcp : (trEnd code c2 n).c.pos ≤ 200000000000000000 := hc3
  have HSS : Hid (smStrs dFns ∧ smMoms (trEnd code c2 n).ms) := Lib.hid ⟨HSM.out.1, HSM.out.2⟩
  obtain ⟨ms, hms⟩ : ∃ x, (trEnd code c2 n).ms = x := ⟨_, rfl⟩
  obtain ⟨c3, hcc⟩ : ∃ x, (trEnd code c2 n).c = x := ⟨_, rfl⟩
  rw [hms] at hM hlm HSS
  rw [hcc] at hC hcp
  obtain ⟨A2, cc2, rfl, -⟩ := hM.cap
  have HD := Lib.hid (show DrT w3 w0.heap.size (.slice (some ⟨gs, 0, none⟩) 4 4) (.slice A2 ms.length cc2) dFns ms from ⟨dFns_ow hS (by have := HB3.out.size; omega), hM.lower (HB3.out.size), HSS.out.1, HSS.out.2, hlm⟩)
  have HC3 := Lib.hid hC
  have HY3 := Lib.hid (HY2.out.mv hm (by decide))
  have HB4 := Lib.hid (bl_trans9 HB3.out (bl_low9 hm.bl hg))
  have hsz3 : rb < w3.heap.size := Nat.lt_of_lt_of_le hsz2 hm.bl.size
  have hrb0 : w0.heap.size ≤ rb := by omega
  clear hC hm hS hM hms hcc hc3 hsound htl HSM HSS hlm hgs HC2 HY2 HB3
  go_upto_region 7 with fail
  have hX := (Blk.made w3 #[.slice (some ⟨gs, 0, none⟩) 4 4, .slice A2 ms.length cc2] 26).congr (f' := trF (.slice (some ⟨gs, 0, none⟩) 4 4) (.slice A2 ms.length cc2)) fun j hj => by
    have hj : j < 2 := hj
    match j, hj with | 0, _ => rfl | 1, _ => rfl
  have hbw : Below w3.heap.size w3 (w3.alloc (.cells #[.slice (some ⟨gs, 0, none⟩) 4 4, .slice A2 ms.length cc2] 26)) := bl_alloc (Below.refl _ _) _
  obtain ⟨tb, htb⟩ : ∃ x, w3.heap.size = x := ⟨_, rfl⟩
  generalize World.alloc w3 _ = w4 at hX hbw ⊢
  have HSP := Lib.hid (show SpS w0 g cv tb rb w0.heap.size (trF (.slice none 0 0) (.slice none 0 0)) w4 c3 _ _ dFns ms from ⟨HC3.out.later hbw, HD.out.later hbw, htb ▸ hX, HY3.out.later hbw, bl_then HB4.out hbw, (bl_then HB4.out hbw).size⟩)
  rw [htb] at hsz3 ⊢
  have htb0 : w0.heap.size ≤ tb := by omega
  have hne : rb ≠ tb := by omega
  clear hX hbw htb HC3 HD HY3 HB4
  by_cases h6 : k < 6
  · have hd6 : decide ((k : Int) < 6) = true := by simp; omega
    go_wp2_with fail
    refine (spoil_calls w0 g cv code c3 tb rb w0.heap.size _ _ _ dFns ms _ HR.out hg (by omega) HSP.out (Nat.le_refl _) htb0 hne).mono ?_; rintro e w5 ⟨v1, v2, fns, ms5, c5, rfl, hSP, hc5⟩
    have HSP5 := Lib.hid hSP
    obtain ⟨A1, cc1, rfl, -⟩ := hSP.hd.fn.cap
    obtain ⟨A5, cc5, rfl, -⟩ := hSP.hd.mo.cap
    have y1 : w5.cell? ⟨rb, 0, none⟩ = some (.slice none 0 0) := hSP.hy.cell (j := 0) (by omega)
    have y2 : w5.cell? ⟨rb, 1, none⟩ = some (.slice none 0 0) := hSP.hy.cell (j := 1) (by omega)
    have x1 : w5.cell? ⟨tb, 0, none⟩ = some (.slice A1 fns.length cc1) := hSP.hx.cell (j := 0) (by omega)
    have x2 : w5.cell? ⟨tb, 1, none⟩ = some (.slice A5 ms5.length cc5) := hSP.hx.cell (j := 1) (by omega)
    have f0 := hSP.hy.free 0
    have f1 := hSP.hy.free 1
    clear hSP HSP
    go_wp2_with fail
    refine bodyPost_ret (v := .agg #[.slice A1 fns.length cc1, .slice A5 ms5.length cc5]) (by simp [results, Tryz.results68, go_sem, y1, y2]) rfl ?_
    obtain ⟨q1, q2, q3⟩ := ret_two HSP5.out.hy HSP5.out.hd HSP5.out.hc HSP5.out.hb hrb0 (.slice A1 fns.length cc1) (.slice A5 ms5.length cc5)
    exact ⟨_, _, fns, ms5, c5, rfl, q1, q2, by omega, q3⟩
  · have hd6 : decide ((k : Int) < 6) = false := by simp; omega
    have y1 : w4.cell? ⟨rb, 0, none⟩ = some (.slice none 0 0) := HSP.out.hy.cell (j := 0) (by omega)
    have y2 : w4.cell? ⟨rb, 1, none⟩ = some (.slice none 0 0) := HSP.out.hy.cell (j := 1) (by omega)
    have x1 : w4.cell? ⟨tb, 0, none⟩ = some (.slice (some ⟨gs, 0, none⟩) 4 4) := HSP.out.hx.cell (j := 0) (by omega)
    have x2 : w4.cell? ⟨tb, 1, none⟩ = some (.slice A2 ms.length cc2) := HSP.out.hx.cell (j := 1) (by omega)
    have f0 := HSP.out.hy.free 0
    have f1 := HSP.out.hy.free 1
    go_wp2_with fail
    refine bodyPost_ret (v := .agg #[.slice (some ⟨gs, 0, none⟩) 4 4, .slice A2 ms.length cc2]) (by simp [results, Tryz.results68, go_sem, y1, y2]) rfl ?_
    obtain ⟨q1, q2, q3⟩ := ret_two HSP.out.hy HSP.out.hd HSP.out.hc HSP.out.hb hrb0 (.slice (some ⟨gs, 0, none⟩) 4 4) (.slice A2 ms.length cc2)
    exact ⟨_, _, dFns, ms, c3, rfl, q1, q2, by omega, q3⟩

theorem cu_new9 (W : World) (cv : Value) : CuAt (W.alloc (.cells #[cv, .int .i64 0, .int .u64 0] 72)) W.heap.size cv cu0 :=
  ⟨(Blk.made W #[cv, .int .i64 0, .int .u64 0] 72).congr fun j hj => by
    have hj : j < 3 := hj
    match j, hj with
    | 0, _ => rfl
    | 1, _ => rfl
    | 2, _ => rfl, by decide⟩
set_option maxRecDepth 100000 in
set_option maxHeartbeats 4000000 in
theorem drawTraceOk_calls (v : Value) (code : List Nat) (w : World) (hr : RdBytes w v code) (hcode : code.length ≤ 1048576) :
    Calls Tryz.prog 26 #[v] w fun e w' => ∃ v1 v2 fns ms, e = .returned (.agg #[v1, v2]) ∧ DrT w' w.heap.size v1 v2 fns ms ∧ Below w.heap.size w w' := by
  obtain ⟨A0, c0, rfl, hn0, -⟩ := hr.open'
  go_enter Tryz.func26, Tryz.ntmps26
  go_wp2_with fail
  have HY := Lib.hid (tr_new w (.slice none 0 0) (.slice none 0 0))
  have HBW := Lib.hid (bl_alloc (Below.refl _ w) (.cells #[.slice none 0 0, .slice none 0 0] 26))
  have hsz : (w.alloc (.cells #[.slice none 0 0, .slice none 0 0] 26)).heap.size = w.heap.size + 1 := by simp
  have HC := Lib.hid (cu_new9 (w.alloc (.cells #[.slice none 0 0, .slice none 0 0] 26)) (.slice A0 code.length c0))
  rw [hsz] at HC
  have HR := Lib.hid (hr.later (bl_alloc (Below.refl _ w) (.cells #[.slice none 0 0, .slice none 0 0] 26)))
  generalize World.alloc w (.cells #[.slice none 0 0, .slice none 0 0] 26) = w0 at HY HBW hsz HC HR ⊢
  have HB0 := Lib.hid (bl_alloc (Below.refl _ w0) (.cells #[.slice A0 code.length c0, .int .i64 0, .int .u64 0] 72))
  have HY1 := Lib.hid (HY.out.later HB0.out)
  generalize World.alloc w0 _ = W at HC HB0 HY1 ⊢
  obtain ⟨rb, hrb⟩ : ∃ x, w.heap.size = x := ⟨_, rfl⟩
  have hw0 : w0.heap.size = rb + 1 := by omega
  have HRB := Lib.hid hrb
  rw [hrb] at HC HY HY1 ⊢
  have hg : w0.heap.size ≤ rb + 1 := by omega
  have HG := Lib.hid hw0
  clear hsz hrb hw0 hr HY1
  refine (l6trace_calls w0 (rb + 1) _ code cu0 _ HR.out hcode hg HB0.out HC.out (by decide)).mono ?_; rintro e w1 ⟨v1, v2, fns, ms, c1, rfl, hD, hC, hc1, hb⟩
  have HD := Lib.hid hD
  have HC1 := Lib.hid hC
  have HB1 := Lib.hid hb
  have HY2 := Lib.hid (HY.out.later hb)
  obtain ⟨A1, cc1, rfl, -⟩ := hD.fn.cap
  obtain ⟨A2, cc2, rfl, -⟩ := hD.mo.cap
  clear hD hC hb HC HB0
  go_wp2_with fail
  have hX := (Blk.made w1 #[.slice A1 fns.length cc1, .slice A2 ms.length cc2] 26).congr (f' := trF (.slice A1 fns.length cc1) (.slice A2 ms.length cc2)) fun j hj => by
    have hj : j < 2 := hj
    match j, hj with | 0, _ => rfl | 1, _ => rfl
  have hbw : Below w1.heap.size w1 (w1.alloc (.cells #[.slice A1 fns.length cc1, .slice A2 ms.length cc2] 26)) := bl_alloc (Below.refl _ _) _
  obtain ⟨tb, htb⟩ : ∃ x, w1.heap.size = x := ⟨_, rfl⟩
  generalize World.alloc w1 _ = w2 at hX hbw ⊢
  have hs1 := HB1.out.size
  have HSP := Lib.hid (show SpS w0 (rb + 1) (.slice A0 code.length c0) tb rb w0.heap.size (trF (.slice none 0 0) (.slice none 0 0)) w2 c1 _ _ fns ms from ⟨HC1.out.later hbw, HD.out.later hbw, htb ▸ hX, HY2.out.later hbw, bl_then HB1.out hbw, (bl_then HB1.out hbw).size⟩)
  rw [htb] at hs1 ⊢
  have hne : rb ≠ tb := by have := HG.out; omega
  have htb0 : w0.heap.size ≤ tb := hs1
  clear hX hbw htb HC1 HD HY2 HB1 hs1
  refine (pickE_calls w0 (rb + 1) _ code c1 3 _ HR.out hg HSP.out.hb HSP.out.hc (by omega) (by omega)).mono ?_; rintro e w3 ⟨n, c3, rfl, hn, hC, hc3, hm⟩
  have hn2 : n ≤ 2 := by omega
  have HSP3 := Lib.hid (HSP.out.pick hg hC hm)
  clear hC hm HSP hn
  go_wp2_with fail
  go_loopw [5] (fun nv wr => ∃ (m : Nat) (v1 v2 : Value) (fns : List ByteArray) (ms : List PMom) (cr : Cu), m ≤ 2 ∧ nv = .int .i64 m ∧ cr.pos + 12 * m ≤ 200000000000000200 ∧ SpS w0 (rb + 1) (.slice A0 code.length c0) tb rb w0.heap.size (trF (.slice none 0 0) (.slice none 0 0)) wr cr v1 v2 fns ms) (fun nv _ => (intOf nv).toNat)
  case atStart => exact ⟨n, _, _, _, _, c3, hn2, rfl, by omega, HSP3.out⟩
  case round =>
    obtain ⟨m, v1, v2, fns, ms, cr, hm2, rfl, hcr, hS⟩ := hrel
    have HS := Lib.hid hS
    obtain ⟨A1, cc1, rfl, -⟩ := hS.hd.fn.cap
    obtain ⟨A2, cc2, rfl, -⟩ := hS.hd.mo.cap
    clear hS HSP3
    by_cases hlt : 0 < m
    · have hd : decide ((m : Int) > 0) = true := by simp; omega
      go_wp2_with fail
      refine (spoil_calls w0 (rb + 1) _ code cr tb rb w0.heap.size _ _ _ fns ms _ HR.out hg (by omega) HS.out (Nat.le_refl _) htb0 hne).mono ?_; rintro e w5 ⟨v1, v2, fns5, ms5, c5, rfl, hSP, hc5⟩
      have HS5 := Lib.hid hSP
      clear hSP HS
      go_wp2
      go_roundw
      case rel => exact ⟨m - 1, _, _, _, _, c5, by omega, by go_num, by omega, HS5.out⟩
      case measure => simp [intOf]; omega
    · have hd : decide ((m : Int) > 0) = false := by simp; omega
      have y1 : wr.cell? ⟨rb, 0, none⟩ = some (.slice none 0 0) := HS.out.hy.cell (j := 0) (by omega)
      have y2 : wr.cell? ⟨rb, 1, none⟩ = some (.slice none 0 0) := HS.out.hy.cell (j := 1) (by omega)
      have x1 : wr.cell? ⟨tb, 0, none⟩ = some (.slice A1 fns.length cc1) := HS.out.hx.cell (j := 0) (by omega)
      have x2 : wr.cell? ⟨tb, 1, none⟩ = some (.slice A2 ms.length cc2) := HS.out.hx.cell (j := 1) (by omega)
      have f0 := HS.out.hy.free 0
      have f1 := HS.out.hy.free 1
      go_wp2_with fail
      refine bodyPost_ret (v := .agg #[.slice A1 fns.length cc1, .slice A2 ms.length cc2]) (by simp [results, Tryz.results26, go_sem, y1, y2]) rfl ?_
      have hbb : Below w.heap.size w wr := bl_trans9 HBW.out (bl_low9 HS.out.hb (by rw [HRB.out]; have := HG.out; omega))
      obtain ⟨q1, -, q3⟩ := ret_two HS.out.hy HS.out.hd HS.out.hc hbb (by rw [HRB.out]; have := HG.out; omega) (.slice A1 fns.length cc1) (.slice A2 ms.length cc2)
      exact ⟨_, _, fns, ms, rfl, q1.lower (by rw [HRB.out]; have := HG.out; omega), q3⟩
end Go.Proofs.YtcklnjjbhngbcaaGreatDoor

namespace Go.Proofs.YtcklnjjbhngbcaaGreatDoor
open Go.RowKit Go.Proofs.Lens Go.ChangeShapes Go.WideShapes

theorem heldS4 {w W W' : World} {a1 a2 a3 a4 : Addr} {v1 v2 v3 v4 : Value} (h : Below w.heap.size w W ∧ W.cell? a1 = some v1 ∧ W.cell? a2 = some v2 ∧ W.cell? a3 = some v3 ∧ W.cell? a4 = some v4) (hb : Below W.heap.size W W') :
    Below w.heap.size w W' ∧ W'.cell? a1 = some v1 ∧ W'.cell? a2 = some v2 ∧ W'.cell? a3 = some v3 ∧ W'.cell? a4 = some v4 :=
  ⟨bl_then h.1 hb, cell_later hb h.2.1, cell_later hb h.2.2.1, cell_later hb h.2.2.2.1, cell_later hb h.2.2.2.2⟩
theorem heldS4_bl {w W : World} {a1 a2 a3 a4 : Addr} {v1 v2 v3 v4 : Value} (h : Below w.heap.size w W ∧ W.cell? a1 = some v1 ∧ W.cell? a2 = some v2 ∧ W.cell? a3 = some v3 ∧ W.cell? a4 = some v4) : Below w.heap.size w W := h.1
theorem heldS2 {w W W' : World} {a1 a2 : Addr} {v1 v2 : Value} (h : Below w.heap.size w W ∧ W.cell? a1 = some v1 ∧ W.cell? a2 = some v2) (hb : Below W.heap.size W W') :
    Below w.heap.size w W' ∧ W'.cell? a1 = some v1 ∧ W'.cell? a2 = some v2 :=
  ⟨bl_then h.1 hb, cell_later hb h.2.1, cell_later hb h.2.2⟩
theorem heldS2_bl {w W : World} {a1 a2 : Addr} {v1 v2 : Value} (h : Below w.heap.size w W ∧ W.cell? a1 = some v1 ∧ W.cell? a2 = some v2) : Below w.heap.size w W := h.1

set_option maxRecDepth 100000 in
set_option maxHeartbeats 1000000 in
/-- Look into an unsound trace. -/
theorem look_bad (v1 v2 : Value) (Ab : Option Addr) (n cb : Nat) (t : PTr) (w : World) (h : RdTr w v1 v2 t) (hsm : smTr t) (hs : soundP t = false) :
    Calls Tryz.prog 10 #[.agg #[v1, v2], .slice Ab n cb] w fun e w' => e = .returned (.slice none 0 0) ∧ Below w.heap.size w w' := by
  have HT := Lib.hid h
  have HS := Lib.hid hsm
  have HQ := Lib.hid hs
  obtain ⟨⟨A1, c1, rfl, hn1, -⟩, ⟨vv, ⟨A2, c2, rfl, hn2, -⟩, -⟩⟩ := h
  clear hsm hs
  go_enter Tryz.func10, Tryz.ntmps10
  go_wp2_with fail
  refine (sound_is _ _ t _ (HT.out.later (by repeat (with_reducible first | exact Below.refl _ _ | exact HL.out | refine bl_drewN ?_ _ | refine bl_drew ?_ | refine bl_alloc ?_ _ | refine bl_set ?_ (by dsimp only; omega) _))) HS.out HQ.out).mono ?_; rintro e w1 ⟨rfl, hb⟩
  have HB := Lib.hid (bl_then (bl_alloc (Below.refl _ w) _) hb)
  clear hb
  go_wp2
  go_ret
  exact ⟨rfl, HB.out⟩

theorem bad_fc {t : PTr} (h : soundP t = false) : fcP t = [] := by unfold fcP; rw [h]; rfl
theorem bad_ct {t : PTr} (h : soundP t = false) : ctP t = [] := by unfold ctP; rw [h]; rfl
theorem bad_rep {t : PTr} (h : soundP t = false) : repP t = [] := by unfold repP; rw [bad_fc h]; rfl
theorem bad_into {t : PTr} (h : soundP t = false) (k : Int) : intoP t k = -2 := by unfold intoP seekP goodP; rw [h]; rfl
theorem bad_run {t : PTr} (h : soundP t = false) (k : Int) : runP t k = -1 := by unfold runP goodP; rw [h]; rfl

set_option maxRecDepth 100000 in
set_option maxHeartbeats 10000000 in
theorem spoilt_law (u1 : Value) (code : List Nat) (w : World) (hr : RdBytes w u1 code) (htab : Lib.TabBelow Tryz.prog w.heap.size w "internal/strconv.uint64pow10" .u64 Lib.pow10Tab) :
    Calls Tryz.prog 6 #[u1] w fun e w' => e = .returned (.bool true) ∧ Below w.heap.size w w' := by
  have HR := Lib.hid hr
  have HTB := Lib.hid htab
  obtain ⟨A0, c0, rfl, hn0, -⟩ := hr.open'
  clear hr htab
  by_cases hbig : 1048576 < code.length
  · have hd : decide ((code.length : Int) > 1048576) = true := by simp; omega
    go_enter Tryz.func6, Tryz.ntmps6
    go_wp2
    go_ret
    exact ⟨rfl, Below.refl _ _⟩
  have hd : decide ((code.length : Int) > 1048576) = false := by simp; omega
  have hcode : code.length ≤ 1048576 := by omega
  clear hbig
  go_enter Tryz.func6, Tryz.ntmps6
  go_wp2_with fail
  refine (drawTraceOk_calls _ code w HR.out hcode).mono ?_; rintro e w1 ⟨v1, v2, fns, ms, rfl, hD, hb⟩
  have HB := Lib.hid hb
  have HRT := Lib.hid hD.rd
  have HSM := Lib.hid hD.smT
  obtain ⟨A1, c1, rfl, -⟩ := hD.fn.cap
  obtain ⟨A2, c2, rfl, -⟩ := hD.mo.cap
  obtain ⟨n1, hn1⟩ : ∃ n, fns.length = n := ⟨_, rfl⟩
  obtain ⟨n2, hn2⟩ : ∃ n, ms.length = n := ⟨_, rfl⟩
  rw [hn1, hn2] at HRT ⊢
  obtain ⟨t, ht⟩ : ∃ t, (⟨fns, ms⟩ : PTr) = t := ⟨_, rfl⟩
  rw [ht] at HRT HSM
  clear hD hb hn1 hn2 ht
  go_wp2_with fail
  have HX := Lib.hid (BoxAt.new w1 [.slice A1 n1 c1, .slice A2 n2 c2] 26)
  have hlr : Below w1.heap.size w1 (w1.alloc (.cells #[.slice A1 n1 c1, .slice A2 n2 c2] 26)) := bl_alloc (Below.refl _ w1) _
  generalize World.alloc w1 _ = W at HX hlr ⊢
  obtain ⟨tb, htb⟩ : ∃ x, w1.heap.size = x := ⟨_, rfl⟩
  replace HB := Lib.hid (bl_then HB.out hlr); replace HRT := Lib.hid (HRT.out.later hlr); clear hlr
  rw [htb] at HX ⊢
  clear htb
  refine (impl_TraceOk_calls _ _ t _ HRT.out HSM.out).mono ?_; rintro e w2 ⟨rfl, hb⟩
  have HF : Hid (soundP t = decide ((faultP t).1 = 0)) := Lib.hid rfl
  have HST := Lib.hid (fun (v1 v2 : Value) (W : World) (h : RdTr W v1 v2 t) => spec_TraceOk_calls v1 v2 t W h HSM.out)
  obtain ⟨f1, hf1⟩ : ∃ x, (faultP t).1 = x := ⟨_, rfl⟩
  obtain ⟨f2, hf2⟩ : ∃ x, (faultP t).2 = x := ⟨_, rfl⟩
  rw [hf1, hf2] at HST ⊢
  rw [hf1] at HF
  clear hf1 hf2
  replace HB := Lib.hid (bl_then HB.out hb); replace HX := Lib.hid (HX.out.later hb); replace HRT := Lib.hid (HRT.out.later hb); clear hb
  obtain ⟨x0, x1⟩ := HX.out.open2
  go_upto_region 5 with fail
  clear x0 x1
  have HY := Lib.hid (BoxAt.new w2 [.int .i64 f1, .int .i64 f2] 62)
  have hlr : Below w2.heap.size w2 (w2.alloc (.cells #[.int .i64 f1, .int .i64 f2] 62)) := bl_alloc (Below.refl _ w2) _
  generalize World.alloc w2 _ = W2 at HY hlr ⊢
  obtain ⟨fb, hfb⟩ : ∃ x, w2.heap.size = x := ⟨_, rfl⟩
  replace HB := Lib.hid (bl_then HB.out hlr); replace HX := Lib.hid (HX.out.later hlr); replace HRT := Lib.hid (HRT.out.later hlr); clear hlr
  rw [hfb] at HY ⊢
  clear hfb
  obtain ⟨x0, x1⟩ := HX.out.open2
  obtain ⟨y0, y1⟩ := HY.out.open2
  go_region_held3 (fun w' : World => Below W2.heap.size W2 w' ∧ w'.cell? ⟨tb, 0, none⟩ = some (.slice A1 n1 c1) ∧ w'.cell? ⟨tb, 1, none⟩ = some (.slice A2 n2 c2) ∧ w'.cell? ⟨fb, 0, none⟩ = some (.int .i64 f1) ∧ w'.cell? ⟨fb, 1, none⟩ = some (.int .i64 f2))
    (first | exact ⟨bl_drew (Below.refl _ _), x0, x1, y0, y1⟩ | exact heldS4 ‹_› hb7)
    (first | (go_at_call 28; refine (HST.out _ _ _ (HRT.out.later (heldS4_bl ‹_›))).mono ?_; rintro e w7' ⟨rfl, hb7⟩))
  have hb : Below W2.heap.size W2 _ := heldS4_bl ‹_›
  clear x0 x1 y0 y1 hb7
  replace HB := Lib.hid (bl_then HB.out hb); replace HX := Lib.hid (HX.out.later hb); replace HY := Lib.hid (HY.out.later hb); replace HRT := Lib.hid (HRT.out.later hb); clear hb
  obtain ⟨x0, x1⟩ := HX.out.open2
  obtain ⟨y0, y1⟩ := HY.out.open2
  by_cases h1 : f1 = 0
  · have hq : (f1 == 0) = true := by rw [beq_iff_eq]; omega
    clear h1
    clear y0 y1
    have HIR := Lib.hid (fun (v1 v2 : Value) (W : World) (h : RdTr W v1 v2 t) (ht : Lib.TabBelow Tryz.prog W.heap.size W "internal/strconv.uint64pow10" .u64 Lib.pow10Tab) => impl_Report_calls v1 v2 t W h HSM.out ht)
    have HSR := Lib.hid (fun (v1 v2 : Value) (W : World) (h : RdTr W v1 v2 t) => spec_Report_calls v1 v2 t W h HSM.out)
    generalize (⟨(repP t).toArray⟩ : ByteArray) = S at HIR HSR
    have HTT := Lib.hid (fun (W' : World) (h' : Below w7'.heap.size w7' W') => (show Lib.TabBelow Tryz.prog W'.heap.size W' "internal/strconv.uint64pow10" .u64 Lib.pow10Tab from fun W'' h'' => HTB.out W'' (bl_then (bl_then HB.out h') h'')))
    go_upto_region 8 with fail
    go_region_held3 (fun w' : World => Below w7'.heap.size w7' w' ∧ w'.cell? ⟨tb, 0, none⟩ = some (.slice A1 n1 c1) ∧ w'.cell? ⟨tb, 1, none⟩ = some (.slice A2 n2 c2))
      (first | exact ⟨bl_drew (Below.refl _ _), x0, x1⟩ | exact heldS2 ‹_› hb8)
      (first | (go_at_call 12; refine (HIR.out _ _ _ (HRT.out.later (heldS2_bl ‹_›)) (HTT.out _ (heldS2_bl ‹_›))).mono ?_; rintro e w8' ⟨rfl, hb8⟩) | (go_at_call 13; refine (HSR.out _ _ _ (HRT.out.later (heldS2_bl ‹_›))).mono ?_; rintro e w8' ⟨rfl, hb8⟩))
    have hb : Below w7'.heap.size w7' _ := heldS2_bl ‹_›
    clear x0 x1 hb8
    replace HB := Lib.hid (bl_then HB.out hb); clear hb
    go_wp2
    go_ret
    exact ⟨rfl, HB.out⟩
  · have hq : (f1 == 0) = false := by rw [beq_eq_false_iff_ne]; omega
    have hbad : soundP t = false := by rw [HF.out]; simp [h1]
    have HBAD := Lib.hid hbad
    have HRE : Hid ((⟨(repP t).toArray⟩ : ByteArray) = ⟨#[]⟩) := Lib.hid (by rw [bad_rep hbad])
    clear h1 hbad y0 y1 HST HF
    go_wp2_with fail
    refine (look_bad _ _ _ 1 1 t _ (HRT.out.later (by repeat (with_reducible first | exact Below.refl _ _ | exact HL.out | refine bl_drewN ?_ _ | refine bl_drew ?_ | refine bl_alloc ?_ _ | refine bl_set ?_ (by dsimp only; omega) _))) HSM.out HBAD.out).mono ?_; rintro e w8 ⟨rfl, hb⟩
    replace hb := bl_then (bl_alloc (Below.refl _ w7') _) hb
    clear x0 x1
    replace HB := Lib.hid (bl_then HB.out hb); replace HX := Lib.hid (HX.out.later hb); replace HRT := Lib.hid (HRT.out.later hb); clear hb
    obtain ⟨x0, x1⟩ := HX.out.open2
    go_wp2_with fail
    refine (impl_Report_calls _ _ t _ HRT.out HSM.out (fun W' h' => HTB.out W' (bl_then HB.out h'))).mono ?_; rintro e w9 ⟨rfl, hb⟩
    rw [HRE.out]
    clear x0 x1
    replace HB := Lib.hid (bl_then HB.out hb); replace HX := Lib.hid (HX.out.later hb); replace HRT := Lib.hid (HRT.out.later hb); clear hb
    obtain ⟨x0, x1⟩ := HX.out.open2
    go_wp2_with fail
    refine (impl_FnCounts_calls _ _ t _ HRT.out HSM.out).mono ?_; rintro e w10 ⟨v3, rfl, hO, hb⟩
    rw [bad_fc HBAD.out] at hO
    obtain ⟨A3, c3, rfl, -⟩ := hO.cap
    rw [List.length_nil]
    clear x0 x1 hO
    replace HB := Lib.hid (bl_then HB.out hb); replace HX := Lib.hid (HX.out.later hb); replace HRT := Lib.hid (HRT.out.later hb); clear hb
    obtain ⟨x0, x1⟩ := HX.out.open2
    go_wp2_with fail
    refine (impl_CallTree_calls _ _ t _ HRT.out HSM.out).mono ?_; rintro e w11 ⟨v4, rfl, hO, hb⟩
    rw [bad_ct HBAD.out] at hO
    obtain ⟨A4, c4, rfl, -⟩ := hO.cap
    rw [List.length_nil]
    clear x0 x1 hO
    replace HB := Lib.hid (bl_then HB.out hb); replace HX := Lib.hid (HX.out.later hb); replace HRT := Lib.hid (HRT.out.later hb); clear hb
    obtain ⟨x0, x1⟩ := HX.out.open2
    go_wp2_with fail
    refine (impl_Into_calls _ _ t _ _ HRT.out HSM.out).mono ?_; rintro e w12 ⟨rfl, hb⟩
    rw [bad_into HBAD.out]
    clear x0 x1
    replace HB := Lib.hid (bl_then HB.out hb); replace HX := Lib.hid (HX.out.later hb); replace HRT := Lib.hid (HRT.out.later hb); clear hb
    obtain ⟨x0, x1⟩ := HX.out.open2
    go_wp2_with fail
    refine (impl_RunningAt_calls _ _ t _ _ HRT.out HSM.out).mono ?_; rintro e w13 ⟨rfl, hb⟩
    rw [bad_run HBAD.out]
    clear x0 x1
    replace HB := Lib.hid (bl_then HB.out hb); clear hb
    go_wp2
    go_ret
    exact ⟨rfl, HB.out⟩

end Go.Proofs.YtcklnjjbhngbcaaGreatDoor
