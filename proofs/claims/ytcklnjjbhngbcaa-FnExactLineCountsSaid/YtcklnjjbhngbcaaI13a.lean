/- What LineCounts hands slices.SortFunc: its comparison (by cmp.Or), and the sort of a list of counts by line. -/
import Derived.Test.YtcklnjjbhngbcaaLaySl
import Derived.Test.YtcklnjjbhngbcaaP12
import Derived.Test.YtcklnjjbhngbcaaF0
import Derived.Test.YtcklnjjbhngbcaaB6
namespace Go.Proofs.Ytcklnjjbhngbcaa
open Go.Shelf Go.RowKit Go.Proofs.Lens Go.Sort

set_option maxRecDepth 100000 in
set_option maxHeartbeats 1000000 in
theorem cmpOr_calls (b : Nat) (x y : Int) (w : World) (h0 : w.cell? ⟨b, 0, none⟩ = some (.int .i64 x)) (h1 : w.cell? ⟨b, 1, none⟩ = some (.int .i64 y)) :
    Calls Try.prog 134 #[.slice (some ⟨b, 0, none⟩) 2 2] w fun e w' => e = .returned (.int .i64 (if x ≠ 0 then x else y)) ∧ w' = w := by
  obtain ⟨r, hr⟩ : ∃ r, (if x ≠ 0 then x else y) = r := ⟨_, rfl⟩
  rw [hr]
  have HR := Lib.hid hr
  clear hr
  go_enter Try.func134, Try.ntmps134
  go_wp2
  go_loopw [8] (fun i wr => ∃ q : Nat, q ≤ 2 ∧ i = .int .i64 q ∧ wr = w ∧ (1 ≤ q → x = 0) ∧ (2 ≤ q → y = 0)) (fun i _ => 2 - (intOf i).toNat)
  case atStart => exact ⟨0, by omega, rfl, rfl, fun h => absurd h (by omega), fun h => absurd h (by omega)⟩
  case round =>
    obtain ⟨q, hq, rfl, rfl, hx, hy⟩ := hrel
    match q, hq with
    | 0, _ =>
      by_cases hz : x = 0
      · have hb : (x != 0) = false := by simp [hz]
        go_wp2
        go_roundw
        case rel => exact ⟨1, by omega, by first | trivial | rfl, by first | trivial | rfl, fun _ => hz, fun h => absurd h (by omega)⟩
        case measure => simp [intOf]
      · have hb : (x != 0) = true := by simp [hz]
        have HE : Hid (r = x) := Lib.hid (by rw [← HR.out, if_pos hz])
        go_wp2
        go_ret
        rw [HE.out]
        exact ⟨rfl, rfl⟩
    | 1, _ =>
      have HX := Lib.hid (hx (by omega))
      by_cases hz : y = 0
      · have hb : (y != 0) = false := by simp [hz]
        go_wp2
        go_roundw
        case rel => exact ⟨2, by omega, by first | trivial | rfl, by first | trivial | rfl, fun _ => HX.out, fun _ => hz⟩
        case measure => simp [intOf]
      · have hb : (y != 0) = true := by simp [hz]
        have HE : Hid (r = y) := Lib.hid (by rw [← HR.out, HX.out]; rfl)
        go_wp2
        go_ret
        rw [HE.out]
        exact ⟨rfl, rfl⟩
    | 2, _ =>
      have HE : Hid (r = 0) := Lib.hid (by rw [← HR.out, hx (by omega), hy (by omega)]; rfl)
      clear hx hy
      go_wp2
      go_ret
      rw [HE.out]
      exact ⟨rfl, rfl⟩

set_option maxRecDepth 100000 in
set_option maxHeartbeats 1000000 in
theorem lcCmp_calls (x y : LcS) (W : World) : Calls Try.prog 133 #[.agg (lcEnc x).toArray, .agg (lcEnc y).toArray] W fun e w' => e = .returned (.int .i64 (lcCf x y)) ∧ ∃ q os', w' = grow (W.drewN q) os' := by
  obtain ⟨⟨a0, a1, a2⟩, ha⟩ := x
  obtain ⟨⟨b0, b1, b2⟩, hb⟩ := y
  unfold LcOk at ha hb
  dsimp only at ha hb
  show Calls _ _ #[.agg #[.int .i64 a0, .int .i64 a1, .int .i64 a2], .agg #[.int .i64 b0, .int .i64 b1, .int .i64 b2]] _ _
  obtain ⟨r, hr⟩ : ∃ r, (if a0 - b0 ≠ 0 then a0 - b0 else a1 - b1) = r := ⟨_, rfl⟩
  show Calls _ _ _ _ (fun e w' => e = .returned (.int .i64 (if a0 - b0 ≠ 0 then a0 - b0 else a1 - b1)) ∧ ∃ q os', w' = grow (W.drewN q) os')
  rw [hr]
  have HO := Lib.hid (fun (w : World) (b : Nat) (h0 : w.cell? ⟨b, 0, none⟩ = some (.int .i64 (a0 - b0))) (h1 : w.cell? ⟨b, 1, none⟩ = some (.int .i64 (a1 - b1))) => by
    have := cmpOr_calls b (a0 - b0) (a1 - b1) w h0 h1
    rw [hr] at this
    exact this)
  clear hr
  go_enter Try.func133, Try.ntmps133
  go_wp2_with fail
  refine Calls.mono (HO.out _ _ ?h0 ?h1) ?_
  case h0 => go_simp
  case h1 => go_simp
  rintro e w' ⟨rfl, rfl⟩
  go_wp2
  go_ret
  exact ⟨rfl, 0, _, by rw [alloc_eq_grow, alloc_eq_grow, alloc_eq_grow, grow_grow, grow_grow]; rfl⟩
/-- The list put in order. -/
theorem lcSort_calls (lo : Nat) (v : Value) (l r : List PLc) (W : World) (hO : OwR W lo 94 3 l.length (lcC l) v) (ha : LcApart l) (hok : ∀ x ∈ l, LcOk x) (hr : LcSorted r) (hm : ∀ x, x ∈ l ↔ x ∈ r) (hlen : l.length ≤ 1048576) :
    Calls Try.prog 132 #[v, .func (.func 133) #[] #[]] W fun e w' => e = .returned (.tuple #[]) ∧ OwR w' lo 94 3 r.length (lcC r) v ∧ Below lo W w' := by
  have hnil : l = [] → r = [] := fun h => by
    subst h
    cases r with
    | nil => rfl
    | cons a r => exact absurd ((hm a).2 (List.mem_cons_self ..)) (by simp)
  rcases hO with ⟨rfl, h0⟩ | ⟨b, cap, f, rfl, h1⟩
  · have hl := List.eq_nil_of_length_eq_zero h0
    have hr0 := hnil hl
    subst hl
    subst hr0
    exact (AnyF.slices_SortFunc_none (P := Try.prog) (ρ := lcSort_ren) { lcSort with } none 0 _ W).mono fun e w' ⟨he, hw⟩ => by
      subst hw
      exact ⟨he, OwR.nil, Below.refl _ _⟩
  · have hO : OwR W lo 94 3 l.length (lcC l) (.slice (some ⟨b, 0, none⟩) l.length cap) := .inr ⟨b, cap, f, rfl, h1⟩
    obtain ⟨hlo, hcap, hmax, hB, -⟩ := h1
    have hd := lcArr_size l hok
    have ho := lcArr_out l hok
    generalize lcArr l hok = d at hd ho
    subst ho
    rw [lcOut_len] at hO hlen ⊢
    clear hd
    have eg : ∀ args w, (callFunc 133 args).run Try.prog w = .ok (.enter 133 args) w := enters_of Try.func133 (by kernel_rfl) rfl
    have hS := AnyQ.slices_SortFunc lcSort 3 Try.isAgg94 Try.sizeOf94 lcEnc (fun _ => rfl) (fun x v hv => by
      simp only [lcEnc, List.mem_cons, List.not_mem_nil, or_false] at hv
      rcases hv with rfl | rfl | rfl <;> rfl) lcCf lcSwo 133 #[] b 0 cap d W eg (fun m os dk _ x y => lcCmp_calls x y _) (lc_holds hO) hB.lt (by omega)
    refine Calls.mono hS fun e w' hh => ?_
    obtain ⟨he, d', n, os, hp, hs, rfl⟩ := hh
    have hsz : d'.size = d.size := hp.1
    have hout := lc_ordered hp hs ha hr hm
    have hrow := lc_sorted_row (m := n) (os := os) hO hsz
    rw [hout] at hrow
    have hrl : r.length = d.size := by rw [← hout, lcOut_len, hsz]
    rw [hrl]
    exact ⟨he, hrow, lc_sorted_below hlo hB.lt⟩
end Go.Proofs.Ytcklnjjbhngbcaa
