/- The slice of branches, store by store. -/
import Derived.Test.YtcklnjjbhngbcaaGreatDoorB1
import Derived.Test.YtcklnjjbhngbcaaGreatDoorB6
import Derived.Test.YtcklnjjbhngbcaaGreatDoorF0
import Derived.Test.YtcklnjjbhngbcaaGreatDoorP4
namespace Go.Proofs.YtcklnjjbhngbcaaGreatDoor
open Go.RowKit Go.Proofs.Lens

theorem i_br : (Tryz.prog.info? 150).map (fun i => (i.zero, i.size, i.bytes)) = some (some (.agg #[.int .i64 0, .int .i64 0, .int .i64 0, .int .i64 0]), 4, 32) := by kernel_rfl
theorem brC_cal {w : World} {lo b cap i0 : Nat} {br : List PBr} (h : OwR w lo 150 4 br.length (brC br) (.slice (some ⟨b, 0, none⟩) br.length cap)) (hi : i0 < br.length) :
    OwR (w.setCell ⟨b, i0 * 4 + 2, none⟩ (.int .i64 ((elt br i0).cal + 1))) lo 150 4 (brCal br i0).length (brC (brCal br i0)) (.slice (some ⟨b, 0, none⟩) br.length cap) := by
  rw [brCal_len]
  refine h.set hi (by omega) (fun i j hi' hj hne => ?_) ?_
  · unfold brC brCal
    rw [elt_modify _ _ _ _ hi']
    by_cases hii : i = i0
    · rw [if_pos hii]
      have hj2 : j ≠ 2 := by omega
      clear hne
      match j, hj, hj2 with
      | 0, _, _ => rfl
      | 1, _, _ => rfl
      | 3, _, _ => rfl
    · rw [if_neg hii]
  · unfold brC brCal
    rw [elt_modify _ _ _ _ hi, if_pos rfl]
    rfl
theorem brC_slf {w : World} {lo b cap i0 : Nat} {br : List PBr} (h : OwR w lo 150 4 br.length (brC br) (.slice (some ⟨b, 0, none⟩) br.length cap)) (hi : i0 < br.length) :
    OwR (w.setCell ⟨b, i0 * 4 + 3, none⟩ (.int .i64 ((elt br i0).slf + 1))) lo 150 4 (brSlf br i0).length (brC (brSlf br i0)) (.slice (some ⟨b, 0, none⟩) br.length cap) := by
  rw [brSlf_len]
  refine h.set hi (by omega) (fun i j hi' hj hne => ?_) ?_
  · unfold brC brSlf
    rw [elt_modify _ _ _ _ hi']
    by_cases hii : i = i0
    · rw [if_pos hii]
      have hj2 : j ≠ 3 := by omega
      clear hne
      match j, hj, hj2 with
      | 0, _, _ => rfl
      | 1, _, _ => rfl
      | 2, _, _ => rfl
      | 3, _, h => exact absurd rfl h
    · rw [if_neg hii]
  · unfold brC brSlf
    rw [elt_modify _ _ _ _ hi, if_pos rfl]
    rfl
theorem brAt_hit {br : List PBr} {p fn : Int} {q : Nat} (hq : q < br.length) (h1 : ∀ i, i < q → brIs p fn (elt br i) = false) (h2 : brIs p fn (elt br q) = true) : brAt br p fn = q := by
  unfold brAt
  rw [List.findIdx_eq hq]
  refine ⟨by rw [← elt_eq hq]; exact h2, fun j hj => ?_⟩
  rw [← elt_eq (by omega : j < br.length)]
  exact h1 j hj
theorem brAt_miss {br : List PBr} {p fn : Int} (h1 : ∀ i, i < br.length → brIs p fn (elt br i) = false) : brAt br p fn = br.length := by
  unfold brAt
  rw [List.findIdx_eq_length]
  intro x hx
  obtain ⟨i, hi, rfl⟩ := List.getElem_of_mem hx
  rw [← elt_eq hi]
  exact h1 i hi
theorem brAdd_hit {br : List PBr} {p fn : Int} (h : brAt br p fn < br.length) : brAdd br p fn = br := by unfold brAdd; rw [if_pos h]
theorem brAdd_miss {br : List PBr} {p fn : Int} (h : brAt br p fn = br.length) : brAdd br p fn = br ++ [⟨fn, p, 0, 0⟩] := by unfold brAdd; rw [if_neg (by omega)]
theorem ct_len (t : PTr) : (ctP t).length ≤ 1048576 := by
  unfold ctP
  split
  · rename_i h
    have hs := sound_iff h
    have := (hs.ctInv _ (Nat.le_refl _)).max
    have := sound_fns hs
    omega
  · simp
theorem brC_snoc {br : List PBr} {x : PBr} {i : Nat} (hi : i < br.length) (j : Nat) : brC (br ++ [x]) i j = brC br i j := by
  unfold brC
  rw [elt_eq (by simp; omega), elt_eq hi, List.getElem_append_left hi]
theorem brC_last (br : List PBr) (x : PBr) (j : Nat) : brC (br ++ [x]) br.length j = match j with | 0 => .int .i64 x.fn | 1 => .int .i64 x.par | 2 => .int .i64 x.cal | _ => .int .i64 x.slf := by
  unfold brC
  rw [elt_eq (by simp)]
  have e : (br ++ [x])[br.length]'(by simp) = x := by simp
  rw [e]
  match j with
  | 0 => rfl
  | 1 => rfl
  | 2 => rfl
  | _ + 3 => rfl
theorem brC0 {w : World} : OwR (w.alloc (.cells #[.int .i64 0, .int .i64 (-1), .int .i64 1, .int .i64 0] 150)) w.heap.size 150 4 ct0.br.length (brC ct0.br) (.slice (some ⟨w.heap.size, 0, none⟩) 1 1) := by
  refine .inr ⟨w.heap.size, 1, _, rfl, Nat.le_refl _, by simp [ct0], by simp [maxLen], Blk.made w #[.int .i64 0, .int .i64 (-1), .int .i64 1, .int .i64 0] 150, fun i hi j hj => ?_⟩
  obtain rfl : i = 0 := by simp [ct0] at hi; omega
  match j, hj with
  | 0, _ => rfl
  | 1, _ => rfl
  | 2, _ => rfl
  | 3, _ => rfl
end Go.Proofs.YtcklnjjbhngbcaaGreatDoor
