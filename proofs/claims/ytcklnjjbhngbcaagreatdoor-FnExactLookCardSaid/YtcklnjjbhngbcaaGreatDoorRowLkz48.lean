/- Lemmas and contracts of functions that the theorem of this claim leans on (texts K1, KLook). -/
import Derived.Test.YtcklnjjbhngbcaaGreatDoorRowLkz42
import Derived.Test.YtcklnjjbhngbcaaGreatDoorRowLkz47
import Derived.Deep.RegionHeld3
namespace Go.Proofs.YtcklnjjbhngbcaaGreatDoor
open Go.RowKit Go.Proofs.Lens

theorem stackP_len (t : PTr) (k n : Int) : (stackP t k n).length ≤ 1048576 := by
  unfold stackP
  split
  · rename_i h
    rw [Bool.and_eq_true] at h
    have := (good_cur h.1).deep n
    omega
  · simp
theorem doP_small {t : PTr} {L : Lk} {a : PAsk} (hsm : smTr t) : (doP t L a).1.stack.length ≤ 1048576 ∧ (doP t L a).1.vars.length ≤ 1048576 := by
  have z : (td0.stack.length ≤ 1048576) ∧ td0.vars.length ≤ 1048576 := ⟨by simp [td0], by simp [td0]⟩
  refine doP_elim (Q := fun r => r.1.stack.length ≤ 1048576 ∧ r.1.vars.length ≤ 1048576) (fun _ => ?_) (fun _ => ?_) (fun _ => z) (fun _ => z) (fun _ => z) (fun _ => z) (fun _ => z) (fun _ => ?_) (fun _ => ?_) (fun _ => ⟨stackP_len _ _ _, by simp [doWhere]⟩) (fun _ => ⟨by simp [doVars], varsAt_len hsm⟩) (fun _ => ?_) ?_
  · unfold doStop
    split
    · exact z
    · exact ⟨by simp, by simp⟩
  · unfold doClear
    split
    · exact z
    · exact z
  · unfold doUndo
    split
    · exact z
    · exact z
  · unfold doTo
    split
    · exact z
    · exact z
  · unfold doValue
    split
    · exact z
    · exact ⟨by simp, by simp⟩
  · unfold doCount
    split
    · exact z
    · exact ⟨by simp, by simp⟩
theorem askP_small {t : PTr} {L : Lk} {a : PAsk} (hsm : smTr t) : (askP t L a).1.stack.length ≤ 1048576 ∧ (askP t L a).1.vars.length ≤ 1048576 := by
  unfold askP
  split
  · split
    · exact doP_small hsm
    · exact ⟨by simp [td0], by simp [td0]⟩
  · exact ⟨by simp [td0], by simp [td0]⟩
theorem lookP_small {t : PTr} {asks : List PAsk} (hsm : smTr t) : (lookP t asks).length ≤ 500 ∧ ∀ i, i < (lookP t asks).length → (elt (lookP t asks) i).stack.length ≤ 1048576 ∧ (elt (lookP t asks) i).vars.length ≤ 1048576 := by
  by_cases h : soundP t = true ∧ asks.length ≤ 500
  · rw [lookP_eq h.1 h.2]
    rw [lkN_len]
    exact ⟨h.2, fun i hi => by rw [lkN_told _ _ _ _ hi]; exact askP_small hsm⟩
  · have e : lookP t asks = [] := by
      by_cases h1 : soundP t = true
      · exact lookP_no (.inr (by have : ¬ asks.length ≤ 500 := fun h2 => h ⟨h1, h2⟩; omega))
      · exact lookP_no (.inl (by simpa using h1))
    rw [e]
    exact ⟨by simp, fun i hi => absurd hi (by simp)⟩
theorem BTold.hi {w w' : World} {lo lo2 hi : Nat} {v : Value} {qs : List PTold} {sv vv : Nat → Value} (h : BTold w lo v qs sv vv) (hM : MkTr lo2 hi w w') (hl : hi ≤ lo) : BTold w' lo v qs sv vv :=
  h.keep fun b _N _e _f hB hb => hM.block b hB.lt (.inr (Nat.le_trans hl hb))
theorem BTold.low {w w' : World} {lo lo2 : Nat} {v : Value} {qs : List PTold} {sv vv : Nat → Value} (h : BTold w lo v qs sv vv) (hb : Below lo2 w w') (hl : w.heap.size ≤ lo2) : BTold w' lo v qs sv vv :=
  h.keep fun b _N _e _f hB _ => hb.block b (Nat.lt_of_lt_of_le hB.lt hl)
end Go.Proofs.YtcklnjjbhngbcaaGreatDoor

namespace Go.Proofs.YtcklnjjbhngbcaaGreatDoor
open Go.RowKit Go.Proofs.Lens Go.ChangeShapes Go.WideShapes
set_option linter.unusedSimpArgs false

theorem AskOw.sh {w : World} {lo : Nat} {v : Value} {xs : List PAsk} (h : AskOw w lo v xs) : ShSl w lo w.heap.size 47 7 xs.length v := by
  obtain ⟨b, f, rfl, h1, h2, h3, h4⟩ := h
  exact ⟨b, _, rfl, h1, h3.lt, f, h3⟩
theorem ShSl.trA {w w' : World} {lo hi lo2 hi2 : Nat} {e : TypeId} {sz n : Nat} {v : Value} (h : ShSl w lo hi e sz n v) (k : MkTr lo2 hi2 w w') : ShSl w' lo hi e sz n v := by
  obtain ⟨g, c, h1, h2, h3, f, hB⟩ := h
  exact ⟨g, c, h1, h2, h3, k.shp _ _ _ _ hB⟩
set_option maxRecDepth 100000 in
set_option maxHeartbeats 8000000 in
theorem look_law (v1 v2 v3 : Value) (t : PTr) (xs : List PAsk) (w : World) (hr : RdTr w v1 v2 t) (hz : szTr t) (hra : RdAsks w v3 xs) (hza : ∀ i, i < xs.length → szAsk (elt xs i)) (hlaid : ErrLaid w) :
    Calls Tryz.prog 5 #[.agg #[v1, v2], v3] w fun e w' => e = .returned (.bool true) ∧ Below w.heap.size w w' := by
  have HT := Lib.hid hr
  have HZ := Lib.hid hz
  have HRS := Lib.hid hra
  have HZS := Lib.hid hza
  have HER := Lib.hid hlaid
  obtain ⟨⟨A1, c1, rfl, hn1, -⟩, ⟨vv, ⟨A2, c2, rfl, hn2, -⟩, -⟩⟩ := hr
  clear hz hra hza hlaid
  go_enter Tryz.func5, Tryz.ntmps5
  go_wp2_with fail
  refine (szTrace_calls _ _ t _ _ (HT.out.later (by repeat (with_reducible first | exact Below.refl _ _ | exact HL.out | refine bl_drewN ?_ _ | refine bl_drew ?_ | refine bl_alloc ?_ _ | refine bl_set ?_ (by dsimp only; omega) _))) HZ.out (by omega) (by omega)).mono ?_; rintro e w1 ⟨r, rfl, hr, hb⟩
  have HB := Lib.hid (bl_then (bl_alloc (Below.refl _ w) _) hb)
  have HX := Lib.hid ((BoxAt.new w [.slice A1 t.fns.length c1, .slice A2 t.moms.length c2] 50).later hb)
  clear hb
  rcases hr with hr | ⟨hr, hrr, hsm⟩
  · go_wp2
    go_ret
    exact ⟨rfl, HB.out⟩
  · have HS := Lib.hid hsm
    clear hsm
    have hr3 : 0 ≤ r := hr
    go_wp2_with fail
    refine (szAskS_calls _ xs _ _ (HRS.out.later HB.out) HZS.out hr3 (by omega)).mono ?_; rintro e w2 ⟨r2, rfl, hq, hb⟩
    replace HB := Lib.hid (bl_then HB.out hb); replace HX := Lib.hid (HX.out.later hb); clear hb
    rcases hq with hq | ⟨hq, -, hss⟩
    · go_wp2
      go_ret
      exact ⟨rfl, HB.out⟩
    · have hsl := hss.1
      have HSA : Hid (∀ i, i < xs.length → (elt xs i).nm.size ≤ 9223372036854775807) := Lib.hid fun i hi => by have := (hss.2 i hi).1; omega
      clear hss
      obtain ⟨x0, x1⟩ := HX.out.open2
      go_wp2_with fail
      clear x0 x1
      refine (copyTrace_calls _ _ t _ (HT.out.later HB.out) HS.out).mono ?_; rintro e w3 ⟨B1, d1, B2, d2, rfl, hr2, hb⟩
      have HR := Lib.hid hr2
      clear hr2
      replace HB := Lib.hid (bl_then HB.out hb); replace HX := Lib.hid (HX.out.later hb); clear hb
      go_wp2_with fail
      refine (toAskS_calls _ xs _ (HRS.out.later HB.out) hsl).mono ?_; rintro e w4 ⟨u1, rfl, hu1, hb⟩
      have HU := Lib.hid hu1.rd
      clear hu1
      replace HB := Lib.hid (bl_then HB.out hb); replace HX := Lib.hid (HX.out.later hb); replace HR := Lib.hid (HR.out.later hb); clear hb
      go_wp2_with fail
      refine (spec_Look_calls _ _ _ t xs _ HR.out HS.out HU.out HSA.out).mono ?_; rintro e w5 ⟨u0, sv0, vv0, rfl, hT0, hb⟩
      have HV := Lib.hid hT0
      have HV5 := Lib.hid hT0
      have HB5 := Lib.hid (Below.refl w5.heap.size w5)
      obtain ⟨A0, k0, rfl, -⟩ := hT0.row.cap
      clear HU HR hT0
      replace HB := Lib.hid (bl_then HB.out hb); replace HX := Lib.hid (HX.out.later hb); clear hb
      obtain ⟨x0, x1⟩ := HX.out.open2
      have s0 := World.block_lt_of_cell? _ _ x0
      go_wp2_with fail
      clear x0 x1
      refine (toTrace_calls _ _ t _ (HT.out.later HB.out) HS.out).mono ?_; rintro e w6 ⟨C1, C2, rfl, hq1, hq2, hb⟩
      have HR4 := Lib.hid (show RdTr w6 C1 C2 t from ⟨hq1.rd (by have := HS.out.1.1; omega), hq2.rd HS.out.2⟩)
      have SH1 := Lib.hid hq1.sh
      have SH2 := Lib.hid (hq2.sh HS.out.2)
      have hs6 := hb.size
      obtain ⟨g1, e1, f1, rfl, -⟩ := hq1
      obtain ⟨g2, e2, f2, rfl, -⟩ := hq2
      replace HB := Lib.hid (bl_then HB.out hb); replace HB5 := Lib.hid (bl_then HB5.out hb); replace HX := Lib.hid (HX.out.later hb); replace HV := Lib.hid (HV.out.later hb); clear hb
      go_upto_region 10 with fail
      have HY : Hid (BoxAt (w6.alloc _) w6.heap.size _) := Lib.hid (BoxAt.new w6 [.slice (some ⟨g1, 0, none⟩) t.fns.length e1, .slice (some ⟨g2, 0, none⟩) t.moms.length e2] 26)
      generalize hW7 : World.alloc w6 _ = w7 at HY ⊢
      have hbl : Below w6.heap.size w6 w7 := by rw [← hW7]; exact bl_alloc (Below.refl _ _) _
      have hs7 : w7.heap.size = w6.heap.size + 1 := by rw [← hW7]; simp
      clear hW7
      replace HB := Lib.hid (bl_then HB.out hbl); replace HB5 := Lib.hid (bl_then HB5.out hbl); replace HX := Lib.hid (HX.out.later hbl); replace HV := Lib.hid (HV.out.later hbl); replace HR4 := Lib.hid (HR4.out.later hbl); replace SH1 := Lib.hid (SH1.out.later hbl); replace SH2 := Lib.hid (SH2.out.later hbl); clear hbl
      go_wp2_with fail
      refine (toAskS_calls _ xs _ (HRS.out.later HB.out) hsl).mono ?_; rintro e w8 ⟨u2, rfl, hu2, hb⟩
      have HU := Lib.hid hu2
      have SHA := Lib.hid hu2.sh
      have hs8 := hb.size
      obtain ⟨ga, fa, rfl, -⟩ := hu2
      replace HB := Lib.hid (bl_then HB.out hb); replace HB5 := Lib.hid (bl_then HB5.out hb); replace HX := Lib.hid (HX.out.later hb); replace HV := Lib.hid (HV.out.later hb); replace HR4 := Lib.hid (HR4.out.later hb); replace SH1 := Lib.hid (SH1.out.later hb); replace SH2 := Lib.hid (SH2.out.later hb); replace HY := Lib.hid (HY.out.later hb); clear hb
      have HB8 := Lib.hid (Below.refl w8.heap.size w8)
      obtain ⟨z0, z1⟩ := HY.out.open2
      go_wp2_with fail
      clear z0 z1
      refine (impl_Look_calls _ _ _ t xs _ HR4.out HS.out HU.out.rd HSA.out (HER.out.later HB.out)).mono ?_; rintro e w9 ⟨u9, sv, vv9, rfl, hT9, hb⟩
      have HG := Lib.hid hT9
      obtain ⟨A9, k9, rfl, -⟩ := hT9.row.cap
      clear hT9
      replace HB := Lib.hid (bl_then HB.out hb); replace HB5 := Lib.hid (bl_then HB5.out hb); replace HB8 := Lib.hid (bl_then HB8.out hb); replace HX := Lib.hid (HX.out.later hb); replace HV := Lib.hid (HV.out.later hb); replace HR4 := Lib.hid (HR4.out.later hb); replace SH1 := Lib.hid (SH1.out.later hb); replace SH2 := Lib.hid (SH2.out.later hb); replace SHA := Lib.hid (SHA.out.later hb); replace HY := Lib.hid (HY.out.later hb); replace HU := Lib.hid (HU.out.later hb); clear hb
      go_wp2_with fail
      refine (eqToldS_calls _ _ (lookP t xs) _ HG.out.rd HV.out.rd).mono ?_; rintro e w10 ⟨rfl, hb⟩
      replace HB := Lib.hid (bl_then HB.out hb); replace HB5 := Lib.hid (bl_then HB5.out hb); replace HB8 := Lib.hid (bl_then HB8.out hb); replace HX := Lib.hid (HX.out.later hb); replace HV := Lib.hid (HV.out.later hb); replace HG := Lib.hid (HG.out.later hb); replace HR4 := Lib.hid (HR4.out.later hb); replace SH1 := Lib.hid (SH1.out.later hb); replace SH2 := Lib.hid (SH2.out.later hb); replace SHA := Lib.hid (SHA.out.later hb); replace HY := Lib.hid (HY.out.later hb); replace HU := Lib.hid (HU.out.later hb); clear hb
      obtain ⟨x0, x1⟩ := HX.out.open2
      obtain ⟨y0, y1⟩ := HY.out.open2
      go_wp2_with fail
      go_region_held3 (fun w' : World => Below w10.heap.size w10 w' ∧ w'.cell? ⟨w6.heap.size, 0, none⟩ = some (.slice (some ⟨g1, 0, none⟩) t.fns.length e1) ∧ w'.cell? ⟨w6.heap.size, 1, none⟩ = some (.slice (some ⟨g2, 0, none⟩) t.moms.length e2) ∧
          w'.cell? ⟨w.heap.size, 0, none⟩ = some (.slice A1 t.fns.length c1) ∧ w'.cell? ⟨w.heap.size, 1, none⟩ = some (.slice A2 t.moms.length c2))
        (first | exact ⟨bl_drew (Below.refl _ _), y0, y1, x0, x1⟩ | exact held_tr' ‹_› hb7)
        (first | (go_at_call 17; refine (copyTrace_calls _ _ t _ ((HT.out.later HB.out).later (held_bl' ‹_›)) HS.out).mono ?_; rintro e w11' ⟨G1, h1, G2, h2, rfl, hr7, hb7⟩) | (go_at_call 20; refine (eqTrace_calls _ _ _ _ t _ (HR4.out.later (held_bl' ‹_›)) hr7).mono ?_; rintro e w11 ⟨rfl, hb7⟩))
      have hb : Below w10.heap.size w10 w11 := held_bl' ‹_›
      clear x0 x1 y0 y1 hr7 hb7
      replace HB := Lib.hid (bl_then HB.out hb); replace HB5 := Lib.hid (bl_then HB5.out hb); replace HB8 := Lib.hid (bl_then HB8.out hb); replace HX := Lib.hid (HX.out.later hb); replace HV := Lib.hid (HV.out.later hb); replace HG := Lib.hid (HG.out.later hb); replace SH1 := Lib.hid (SH1.out.later hb); replace SH2 := Lib.hid (SH2.out.later hb); replace SHA := Lib.hid (SHA.out.later hb); replace HY := Lib.hid (HY.out.later hb); replace HU := Lib.hid (HU.out.later hb); clear hb
      go_wp2_with fail
      refine (toAskS_calls _ xs _ (HRS.out.later HB.out) hsl).mono ?_; rintro e w12 ⟨u3, rfl, hu3, hb⟩
      have HU3 := Lib.hid hu3.rd
      clear hu3
      replace HB := Lib.hid (bl_then HB.out hb); replace HB5 := Lib.hid (bl_then HB5.out hb); replace HB8 := Lib.hid (bl_then HB8.out hb); replace HX := Lib.hid (HX.out.later hb); replace HV := Lib.hid (HV.out.later hb); replace HG := Lib.hid (HG.out.later hb); replace SH1 := Lib.hid (SH1.out.later hb); replace SH2 := Lib.hid (SH2.out.later hb); replace SHA := Lib.hid (SHA.out.later hb); replace HY := Lib.hid (HY.out.later hb); replace HU := Lib.hid (HU.out.later hb); clear hb
      go_wp2_with fail
      refine (eqAskS_calls _ _ xs _ HU.out.rd HU3.out).mono ?_; rintro e w13 ⟨rfl, hb⟩
      replace HB := Lib.hid (bl_then HB.out hb); replace HB5 := Lib.hid (bl_then HB5.out hb); replace HB8 := Lib.hid (bl_then HB8.out hb); replace HX := Lib.hid (HX.out.later hb); replace HV := Lib.hid (HV.out.later hb); replace HG := Lib.hid (HG.out.later hb); replace SH1 := Lib.hid (SH1.out.later hb); replace SH2 := Lib.hid (SH2.out.later hb); replace SHA := Lib.hid (SHA.out.later hb); replace HY := Lib.hid (HY.out.later hb); clear hb
      clear HU HU3
      obtain ⟨y0, y1⟩ := HY.out.open2
      have hs13 : w5.heap.size ≤ w13.heap.size := by
        have h1 := World.block_lt_of_cell? _ _ y0
        dsimp only at h1
        omega
      go_wp2_with fail
      clear y0 y1
      have sb5 : w.heap.size < w5.heap.size := s0
      have h56 : w5.heap.size ≤ w6.heap.size := hs6
      have h67 : w6.heap.size ≤ w7.heap.size := by omega
      have h78 : w7.heap.size ≤ w8.heap.size := hs8
      have hst1 := HS.out.1.1
      have hst2 := HS.out.2.1
      refine (markTrace_calls w5.heap.size w6.heap.size _ _ _ _ _ _ SH1.out SH2.out hst1 hst2 (by omega) (by omega)).mono ?_; rintro e w14 ⟨r9, rfl, hr1, hr2', hM⟩
      have hb14 := hM.below hs13
      replace HB := Lib.hid (bl_trans' HB.out (bl_low' hb14 (Nat.le_of_lt sb5)))
      replace HB5 := Lib.hid (bl_trans' HB5.out hb14)
      replace HX := Lib.hid (HX.out.low hb14 sb5)
      replace HG := Lib.hid (HG.out.hi hM (by omega))
      replace SHA := Lib.hid (SHA.out.trA hM)
      have hs14 : w13.heap.size ≤ w14.heap.size := hM.size
      clear hM hb14 SH1 SH2 HY HV
      have h813 : w8.heap.size ≤ w13.heap.size := HB8.out.size
      have hr9 : 0 ≤ r9 := by omega
      have hxl : xs.length ≤ 1048576 := hsl
      go_wp2_with fail
      refine (markAsks_calls w7.heap.size w8.heap.size _ _ _ _ SHA.out hxl (by omega) (by omega)).mono ?_; rintro e w15 ⟨r10, rfl, hr3', hr4', hM⟩
      have hb15 := hM.below (show w7.heap.size ≤ w14.heap.size by omega)
      replace HB := Lib.hid (bl_trans' HB.out (bl_low' hb15 (by omega)))
      replace HB5 := Lib.hid (bl_trans' HB5.out (bl_low' hb15 (by omega)))
      replace HX := Lib.hid (HX.out.low hb15 (by omega))
      replace HG := Lib.hid (HG.out.hi hM (Nat.le_refl _))
      have hs15 : w14.heap.size ≤ w15.heap.size := hM.size
      clear hM hb15 SHA
      have HV := Lib.hid (HV5.out.low HB5.out (Nat.le_refl _))
      have hr10 : 0 ≤ r10 := by omega
      go_wp2_with fail
      refine (eqToldS_calls _ _ (lookP t xs) _ HG.out.rd HV.out.rd).mono ?_; rintro e w16 ⟨rfl, hb⟩
      have hs16 := hb.size
      replace HB := Lib.hid (bl_then HB.out hb); replace HB5 := Lib.hid (bl_then HB5.out hb); replace HX := Lib.hid (HX.out.later hb); replace HG := Lib.hid (HG.out.later hb); clear hb
      obtain ⟨hlk, hsmall⟩ := lookP_small (t := t) (asks := xs) HS.out
      have HSL := Lib.hid hsmall
      clear hsmall HV
      have hsz : w8.heap.size ≤ w16.heap.size := by omega
      have HMT := Lib.hid HG.out.marks
      clear HG
      go_wp2_with fail
      refine (markToldS_calls w8.heap.size _ _ _ _ sv vv9 _ HMT.out hlk (fun i hi => (HSL.out i hi).1) (fun i hi => (HSL.out i hi).2) hsz).mono ?_; rintro e w17 ⟨rfl, hMT, hb17⟩
      clear HMT
      have HMT := Lib.hid hMT
      replace HB := Lib.hid (bl_trans' HB.out (bl_low' hb17 (by omega)))
      replace HB5 := Lib.hid (bl_trans' HB5.out (bl_low' hb17 (by omega)))
      replace HX := Lib.hid (HX.out.low hb17 (by omega))
      have hrng := offT_rng (fun i hi => (HSL.out i hi).1) (fun i hi => (HSL.out i hi).2) (lookP t xs).length (Nat.le_refl _)
      obtain ⟨z, hz9⟩ : ∃ z, offT (fun i => (elt (lookP t xs) i).stack.length) (fun i => (elt (lookP t xs) i).vars.length) (lookP t xs).length = z := ⟨_, rfl⟩
      rw [hz9] at hrng ⊢
      have HZ9 := Lib.hid hz9
      clear hMT hb17 hz9
      go_wp2_with fail
      refine (heldToldS_calls w8.heap.size _ _ _ _ sv vv9 _ HMT.out hlk (fun i hi => (HSL.out i hi).1) (fun i hi => (HSL.out i hi).2)).mono ?_; rintro e w18 ⟨rfl, hb⟩
      replace HB := Lib.hid (bl_then HB.out hb); replace HB5 := Lib.hid (bl_then HB5.out hb); replace HX := Lib.hid (HX.out.later hb); replace HMT := Lib.hid (HMT.out.later hb); clear hb
      rw [HZ9.out]
      have hz0 : ¬ z < 0 := by omega
      obtain ⟨x0, x1⟩ := HX.out.open2
      go_wp2_with fail
      clear x0 x1
      refine (copyTrace_calls _ _ t _ (HT.out.later HB.out) HS.out).mono ?_; rintro e w19 ⟨G1, h1, G2, h2, rfl, hr7, hb⟩
      have HR := Lib.hid hr7
      clear hr7
      replace HB := Lib.hid (bl_then HB.out hb); replace HB5 := Lib.hid (bl_then HB5.out hb); replace HX := Lib.hid (HX.out.later hb); replace HMT := Lib.hid (HMT.out.later hb); clear hb
      go_wp2_with fail
      refine (toAskS_calls _ xs _ (HRS.out.later HB.out) hsl).mono ?_; rintro e w20 ⟨u4, rfl, hu4, hb⟩
      have HU := Lib.hid hu4.rd
      clear hu4
      replace HB := Lib.hid (bl_then HB.out hb); replace HB5 := Lib.hid (bl_then HB5.out hb); replace HX := Lib.hid (HX.out.later hb); replace HMT := Lib.hid (HMT.out.later hb); replace HR := Lib.hid (HR.out.later hb); clear hb
      go_wp2_with fail
      refine (impl_Look_calls _ _ _ t xs _ HR.out HS.out HU.out HSA.out (HER.out.later HB.out)).mono ?_; rintro e w21 ⟨u5, sv5, vv5, rfl, hT5, hb⟩
      have HG := Lib.hid hT5.rd
      clear hT5
      replace HB := Lib.hid (bl_then HB.out hb); replace HB5 := Lib.hid (bl_then HB5.out hb); replace HX := Lib.hid (HX.out.later hb); replace HMT := Lib.hid (HMT.out.later hb); clear hb
      have HV := Lib.hid (HV5.out.low HB5.out (Nat.le_refl _))
      clear HR HU
      go_wp2_with fail
      refine (eqToldS_calls _ _ (lookP t xs) _ HG.out HV.out.rd).mono ?_; rintro e w22 ⟨rfl, hb⟩
      replace HB := Lib.hid (bl_then HB.out hb); replace HMT := Lib.hid (HMT.out.later hb); clear hb
      clear HG HV
      go_wp2_with fail
      refine (heldToldS_calls w8.heap.size _ _ _ _ sv vv9 _ HMT.out hlk (fun i hi => (HSL.out i hi).1) (fun i hi => (HSL.out i hi).2)).mono ?_; rintro e w23 ⟨rfl, hb⟩
      replace HB := Lib.hid (bl_then HB.out hb); clear hb
      rw [HZ9.out]
      have hz0 : ¬ z < 0 := by omega
      go_wp2
      go_ret
      exact ⟨rfl, HB.out⟩

set_option maxRecDepth 100000 in
theorem look_walk (H : Type) (enc : TypeId × Value → H) (W : World) (base : Nat) (args : Array Value) (ds : List (DataW H)) (ps : List MemPlace)
    (hval : ∀ (j : Nat) t v, Tryz.f5.params[j]? = some t → args[j]? = some v → Value.okWide Tryz.prog W .any base t v)
    (h : DataW.TrodAll enc Tryz.prog W 0 (fun _ => true) true Tryz.f5.params.toList args.toList ds ps) (hlaid : ErrLaid W) :
    Calls Tryz.prog 5 args W fun e W' => e = .returned (.bool true) ∧ Below W.heap.size W W' := by
  rw [Tryz.params5] at h hval
  obtain ⟨v0, u0, d0, d1, p0, p1, ha, _, _, h0, h1⟩ := trodAll_two h
  have ha' : args = #[v0, u0] := by simpa using ha
  subst ha'
  obtain ⟨v1, v2, t, rfl, hr, hz⟩ := rd_trace (hval 0 _ _ rfl rfl) h0
  obtain ⟨xs, hrs, hzs⟩ := rd_asks (hval 1 _ _ rfl rfl) h1
  exact look_law v1 v2 u0 t xs W hr hz hrs hzs hlaid
end Go.Proofs.YtcklnjjbhngbcaaGreatDoor
