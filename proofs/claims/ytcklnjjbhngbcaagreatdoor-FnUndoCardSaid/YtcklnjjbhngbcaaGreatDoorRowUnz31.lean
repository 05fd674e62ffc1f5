/- Lemmas and contracts of functions that the theorem of this claim leans on (texts B16, G6). -/
import Derived.Test.YtcklnjjbhngbcaaGreatDoorRowUnz05
import Derived.Test.YtcklnjjbhngbcaaGreatDoorRowUnz10
import Derived.Deep.CutBlock
import Derived.Test.YtcklnjjbhngbcaaGreatDoorRowUnz25
namespace Go.Proofs.YtcklnjjbhngbcaaGreatDoor
open Go.RowKit Go.Proofs.Lens

def updC (C : Nat → Nat → Value) (i0 j0 : Nat) (u : Value) (i j : Nat) : Value := if i = i0 ∧ j = j0 then u else C i j
theorem OwR.setE {w : World} {lo : Nat} {e : TypeId} {sz n : Nat} {C : Nat → Nat → Value} {b cap i0 j0 : Nat} (h : OwR w lo e sz n C (.slice (some ⟨b, 0, none⟩) n cap)) (hi : i0 < n) (hj : j0 < sz) (u : Value) :
    OwR (w.setCell ⟨b, i0 * sz + j0, none⟩ u) lo e sz n (updC C i0 j0 u) (.slice (some ⟨b, 0, none⟩) n cap) :=
  h.set hi hj (fun i j _ _ hne => by unfold updC; rw [if_neg (by omega)]) (by unfold updC; rw [if_pos ⟨rfl, rfl⟩])
/-- The world in which moment i of the block b is m, its variables in vx. -/
def putM (w : World) (b i : Nat) (m : PMom) (vx : Value) : World :=
  (((((w.setCell ⟨b, i * 6 + 0, none⟩ (.int .i64 m.kind)).setCell ⟨b, i * 6 + 1, none⟩ (.int .i64 m.task)).setCell ⟨b, i * 6 + 2, none⟩ (.int .i64 m.fn)).setCell ⟨b, i * 6 + 3, none⟩ (.int .i64 m.line)).setCell ⟨b, i * 6 + 4, none⟩ (.string m.text)).setCell ⟨b, i * 6 + 5, none⟩ vx
theorem elt_set {α : Type} [Inhabited α] (xs : List α) (i : Nat) (x : α) (hi : i < xs.length) (k : Nat) (hk : k < xs.length) : elt (xs.set i x) k = if k = i then x else elt xs k := by
  rw [elt_eq (by simpa using hk), List.getElem_set, elt_eq hk]
  by_cases h : k = i
  · subst h; simp
  · rw [if_neg h, if_neg (by omega)]
theorem BMoms.put {w : World} {lo b cap i : Nat} {ms : List PMom} (h : BMoms w lo (.slice (some ⟨b, 0, none⟩) ms.length cap) ms) (hi : i < ms.length) (m : PMom) (vx : Value) (hx : OwR w lo 40 2 m.vars.length (varC m.vars) vx) :
    BMoms (putM w b i m vx) lo (.slice (some ⟨b, 0, none⟩) ms.length cap) (ms.set i m) ∧ Mv [114] lo w (putM w b i m vx) := by
  obtain ⟨vv, hO, hV⟩ := h
  have h0 := OwR.setE hO hi (j0 := 0) (by omega) (.int .i64 m.kind)
  have h1 := OwR.setE h0 hi (j0 := 1) (by omega) (.int .i64 m.task)
  have h2 := OwR.setE h1 hi (j0 := 2) (by omega) (.int .i64 m.fn)
  have h3 := OwR.setE h2 hi (j0 := 3) (by omega) (.int .i64 m.line)
  have h4 := OwR.setE h3 hi (j0 := 4) (by omega) (.string m.text)
  have h5 := OwR.setE h4 hi (j0 := 5) (by omega) vx
  have hm : Mv [114] lo w (putM w b i m vx) :=
    ((((((Mv.refl _ _ _).setO hO (Nat.le_refl _) (by simp) _ _).setO h0 (Nat.le_refl _) (by simp) _ _).setO h1 (Nat.le_refl _) (by simp) _ _).setO h2 (Nat.le_refl _) (by simp) _ _).setO h3 (Nat.le_refl _) (by simp) _ _).setO h4 (Nat.le_refl _) (by simp) _ _
  refine ⟨⟨fun k => if k = i then vx else vv k, ?_, fun k hk => ?_⟩, hm⟩
  · rw [List.length_set]
    refine OwR.congr h5 fun k hk j hj => ?_
    unfold momC
    rw [elt_set ms i m hi k hk]
    unfold updC
    by_cases hki : k = i
    · subst hki
      match j, hj with
      | 0, _ => simp
      | 1, _ => simp
      | 2, _ => simp
      | 3, _ => simp
      | 4, _ => simp
      | 5, _ => simp
    · simp only [hki, false_and, if_false]
  · rw [List.length_set] at hk
    rw [elt_set ms i m hi k hk]
    by_cases hki : k = i
    · rw [if_pos hki]
      simp only [hki, if_true]
      exact hx.mv hm (by decide)
    · simp only [hki, if_false]
      exact (hV k hk).mv hm (by decide)
end Go.Proofs.YtcklnjjbhngbcaaGreatDoor

namespace Go.Proofs.YtcklnjjbhngbcaaGreatDoor
open Go.RowKit Go.Proofs.Lens

set_option maxRecDepth 100000 in
set_option maxHeartbeats 1000000 in
theorem pickE_calls (w0 : World) (g : Nat) (cv : Value) (code : List Nat) (c : Cu) (n : Nat) (w : World) (hr : RdBytes w0 cv code) (hg : w0.heap.size ≤ g) (hb0 : Below w0.heap.size w0 w) (h : CuAt w g cv c) (hp : c.pos ≤ 1000000000000000000) (hn : n ≤ 60000) :
    Calls Tryz.prog 33 #[.pointer (some ⟨g, 0, none⟩), .int .i64 n] w fun e w' => ∃ (r : Nat) (c' : Cu), e = .returned (.int .i64 (r : Nat)) ∧ (r < n ∨ r = 0) ∧ CuAt w' g cv c' ∧ c'.pos ≤ c.pos + 2 ∧ Mv [72] g w w' := by
  have hr' := hr.later hb0
  by_cases h200 : n ≤ 200
  · refine (pick_calls g cv code c n w hr' h (by omega) h200).mono ?_
    rintro e w1 ⟨rfl, hC, hm⟩
    obtain ⟨k, hk, ha⟩ := pick_adv' code n c
    refine ⟨_, _, rfl, ?_, hC, by rw [ha.1]; omega, hm⟩
    by_cases h0 : n = 0
    · subst h0; right; rw [pickP_one (by omega)]
    · left; exact pickP_lt code c (by omega)
  · have HC := Lib.hid h
    have HR := Lib.hid hr'
    have HR0 := Lib.hid hr
    have HB0 := Lib.hid hb0
    have hd : decide ((n : Int) ≤ 1) = false := by simp; omega
    have hd2 : decide ((n : Int) > 200) = true := by simp; omega
    have hn0 : 0 < n := by omega
    have hvv : ∀ d : Cu, drwV code d < 256 := fun d => by
      unfold drwV
      split
      · exact hr'.2 _
      · unfold outS; exact Nat.mod_lt _ (by omega)
    have hv := hvv c
    have hy := hvv (drwC code c)
    have hp2 : (drwC code c).pos = c.pos + 1 := rfl
    generalize hx : drwV code c = x at hv ⊢
    generalize hx2 : drwV code (drwC code c) = y at hy ⊢
    have HX : Hid (drwV code c = x ∧ drwV code (drwC code c) = y) := Lib.hid ⟨hx, hx2⟩
    clear h hr hr' h200 hb0 hvv hx hx2
    go_enter Tryz.func33, Tryz.ntmps33
    go_wp2_with fail
    refine (next_calls g cv code c _ HR.out HC.out (by omega)).mono ?_; rintro e w1 ⟨rfl, hC, hm⟩
    have HC1 := Lib.hid hC
    have HM := Lib.hid hm
    have HR1 := Lib.hid (HR0.out.later (bl_trans9 HB0.out (bl_low9 hm.bl hg)))
    clear hC hm
    rw [HX.out.1]
    go_wp2_with fail
    refine (next_calls g cv code _ _ HR1.out HC1.out (by omega)).mono ?_; rintro e w2 ⟨rfl, hC, hm⟩
    have HC2 := Lib.hid hC
    have HM2 := Lib.hid (HM.out.trans hm)
    clear hC hm
    rw [HX.out.2]
    go_wp2
    go_ret
    refine ⟨(x * 256 + y) % n, drwC code (drwC code c), ret_int ?_, .inl (Nat.mod_lt _ hn0), HC2.out, ?_, HM2.out⟩
    · rw [Int.natCast_emod]; simp
    · show (drwC code c).pos + 1 ≤ _; omega

section
variable {w w' : World} {lo lo' : Nat} {v1 v2 : Value} {fns : List ByteArray} {ms : List PMom}
end
end Go.Proofs.YtcklnjjbhngbcaaGreatDoor
