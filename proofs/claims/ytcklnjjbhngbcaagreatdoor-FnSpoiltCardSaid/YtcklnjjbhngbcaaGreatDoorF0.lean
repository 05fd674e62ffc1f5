/- The slice of counts by fn, store by store. -/
import Derived.Test.YtcklnjjbhngbcaaGreatDoorB1
import Derived.Test.YtcklnjjbhngbcaaGreatDoorB6
import Derived.Test.YtcklnjjbhngbcaaGreatDoorP3
namespace Go.Proofs.YtcklnjjbhngbcaaGreatDoor
open Go.RowKit Go.Proofs.Lens

theorem i_fc : (Tryz.prog.info? 106).map (fun i => (i.zero, i.size, i.bytes)) = some (some (.agg #[.int .i64 0, .int .i64 0, .int .i64 0, .int .i64 0]), 4, 32) := by kernel_rfl
theorem i_int : (Tryz.prog.info? 3).map (fun i => (i.zero, i.size, i.bytes)) = some (some (.int .i64 0), 1, 8) := by kernel_rfl
theorem i_bool : (Tryz.prog.info? 4).map (fun i => (i.zero, i.size, i.bytes)) = some (some (.bool false), 1, 1) := by kernel_rfl

/-- The counts while their numbers are laid. -/
def fcI (q : Nat) (i j : Nat) : Value := .int .i64 (if j = 0 ∧ i < q then i else 0)
theorem fcI_set {w : World} {lo b n cap q : Nat} (h : OwR w lo 106 4 n (fcI q) (.slice (some ⟨b, 0, none⟩) n cap)) (hq : q < n) :
    OwR (w.setCell ⟨b, q * 4, none⟩ (.int .i64 q)) lo 106 4 n (fcI (q + 1)) (.slice (some ⟨b, 0, none⟩) n cap) := by
  refine h.set (j0 := 0) hq (by omega) (fun i j hi hj hne => ?_) ?_
  · unfold fcI
    congr 1
    by_cases h1 : j = 0 ∧ i < q
    · rw [if_pos h1, if_pos (by omega)]
    · rw [if_neg h1, if_neg (by omega)]
  · unfold fcI; rw [if_pos (by omega)]
theorem fcI_end {w : World} {lo b n cap : Nat} (h : OwR w lo 106 4 n (fcI n) (.slice (some ⟨b, 0, none⟩) n cap)) (hn : 0 < n) :
    OwR (w.setCell ⟨b, 1, none⟩ (.int .i64 1)) lo 106 4 n (fcC fc0) (.slice (some ⟨b, 0, none⟩) n cap) := by
  refine OwR.set (i0 := 0) (j0 := 1) h hn (by omega) (fun i j hi hj hne => ?_) rfl
  match j, hj with
  | 0, _ => simp [fcI, fcC, hi]
  | 1, _ => simp [fcI, fcC, fc0]; omega
  | 2, _ => simp [fcI, fcC, fc0]
  | 3, _ => simp [fcI, fcC, fc0]
theorem fcC_cal {w : World} {lo b n cap i0 : Nat} {c : FC} {fn : Int} (h : OwR w lo 106 4 n (fcC c) (.slice (some ⟨b, 0, none⟩) n cap)) (hi : i0 < n) (hf : fn = (i0 : Int)) :
    OwR (w.setCell ⟨b, i0 * 4 + 1, none⟩ (.int .i64 (c.cal i0 + 1))) lo 106 4 n (fcC ⟨bump c.cal fn, c.slf, c.tot⟩) (.slice (some ⟨b, 0, none⟩) n cap) := by
  refine h.set hi (by omega) (fun i j hi' hj hne => ?_) ?_
  · match j, hj with
    | 0, _ => rfl
    | 1, _ => simp only [fcC, bump]; rw [if_neg (by omega)]
    | 2, _ => rfl
    | 3, _ => rfl
  · simp only [fcC, bump]; rw [if_pos hf.symm]
theorem fcC_slf {w : World} {lo b n cap i0 : Nat} {c : FC} {fn : Int} (h : OwR w lo 106 4 n (fcC c) (.slice (some ⟨b, 0, none⟩) n cap)) (hi : i0 < n) (hf : fn = (i0 : Int)) :
    OwR (w.setCell ⟨b, i0 * 4 + 2, none⟩ (.int .i64 (c.slf i0 + 1))) lo 106 4 n (fcC ⟨c.cal, bump c.slf fn, c.tot⟩) (.slice (some ⟨b, 0, none⟩) n cap) := by
  refine h.set hi (by omega) (fun i j hi' hj hne => ?_) ?_
  · match j, hj with
    | 0, _ => rfl
    | 1, _ => rfl
    | 2, _ => simp only [fcC, bump]; rw [if_neg (by omega)]
    | 3, _ => rfl
  · simp only [fcC, bump]; rw [if_pos hf.symm]
theorem fcC_tot {w : World} {lo b n cap i0 : Nat} {c : FC} {fn : Int} (h : OwR w lo 106 4 n (fcC c) (.slice (some ⟨b, 0, none⟩) n cap)) (hi : i0 < n) (hf : fn = (i0 : Int)) :
    OwR (w.setCell ⟨b, i0 * 4 + 3, none⟩ (.int .i64 (c.tot i0 + 1))) lo 106 4 n (fcC ⟨c.cal, c.slf, bump c.tot fn⟩) (.slice (some ⟨b, 0, none⟩) n cap) := by
  refine h.set hi (by omega) (fun i j hi' hj hne => ?_) ?_
  · match j, hj with
    | 0, _ => rfl
    | 1, _ => rfl
    | 2, _ => rfl
    | 3, _ => simp only [fcC, bump]; rw [if_neg (by omega)]
  · simp only [fcC, bump]; rw [if_pos hf.symm]
theorem sound_fns {t : PTr} (h : Sound t) : 0 < t.fns.length ∧ t.fns.length ≤ 300 ∧ t.moms.length ≤ 3000 := by
  have := h.sizes
  simp only [sizesOk, Bool.and_eq_true, decide_eq_true_eq] at this
  omega
theorem fc_len (t : PTr) : (fcP t).length ≤ 1048576 := by
  unfold fcP
  split
  · rename_i h
    have := sound_fns (sound_iff h)
    rw [fcList_len]; omega
  · simp
end Go.Proofs.YtcklnjjbhngbcaaGreatDoor
