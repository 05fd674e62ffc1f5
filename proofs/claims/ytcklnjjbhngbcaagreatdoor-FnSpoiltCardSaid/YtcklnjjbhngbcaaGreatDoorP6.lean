/- The plain side of FnDeep: a fn n deep in itself. -/
import Derived.Test.YtcklnjjbhngbcaaGreatDoorP5
import Derived.Test.YtcklnjjbhngbcaaGreatDoorP4
namespace Go.Proofs.Lens

theorem firstNZ_all {f : Nat → Int} : ∀ {d k : Nat}, (∀ j, k ≤ j → j < k + d → f j = 0) → firstNZ f d k = (0, 0)
  | 0, _, _ => rfl
  | d + 1, k, h => by
    unfold firstNZ
    rw [if_pos (h k (Nat.le_refl _) (by omega))]
    exact firstNZ_all fun j h1 h2 => h j (by omega) (by omega)
theorem Sound.is {t : PTr} (h : Sound t) : soundP t = true := by
  obtain ⟨h1, h2, h3⟩ := h
  have e2 : firstNZ (momCode t) (t.moms.length - 0) 0 = (0, 0) := firstNZ_all fun j _ hj => by
    unfold momCode; rw [if_pos (h2 j (by omega))]
  have e3 : firstNZ (moveCode t) (t.moms.length - 0) 0 = (0, 0) := firstNZ_all fun j _ hj => h3 j (by omega)
  unfold soundP faultP
  rw [if_neg (by rw [h1]; simp), e2, e3]
  simp
def cM : PMom := ⟨2, 0, 1, 0, ⟨#[]⟩, []⟩
def lM : PMom := ⟨1, 0, 1, 3, ⟨#[]⟩, []⟩
def bM : PMom := ⟨3, 0, 1, 0, ⟨#[]⟩, []⟩
def deepM (n i : Nat) : PMom := if i < 2 * n then (if i % 2 = 0 then cM else lM) else bM
def deepMs (n : Nat) : List PMom := (List.range (3 * n)).map (deepM n)
theorem deepMs_len (n : Nat) : (deepMs n).length = 3 * n := by simp [deepMs]
theorem deepMs_elt {n i : Nat} (h : i < 3 * n) : elt (deepMs n) i = deepM n i := by
  rw [elt_eq (by rw [deepMs_len]; exact h)]; simp [deepMs]
/-- The open calls, j deep, a line seen in each. -/
def dS : Nat → List PFr
  | 0 => [⟨0, 0, -1⟩]
  | j + 1 => ⟨1, 3, 2 * j⟩ :: dS j
theorem dS_len : ∀ j, (dS j).length = j + 1
  | 0 => rfl
  | j + 1 => by simp [dS, dS_len j]
def dI (n i : Nat) : List PFr := if i ≤ 2 * n then (if i % 2 = 0 then dS (i / 2) else ⟨1, 0, (i : Int) - 1⟩ :: dS (i / 2)) else dS (3 * n - i)
def one (l : List PFr) : PS := ⟨0, fun t => if t = 0 then l else []⟩
theorem one_top (l : List PFr) : (one l).top = l := by simp [PS.top, one]
theorem one_put (l r : List PFr) : (one l).put r = one r := by
  unfold PS.put one
  congr 1
  funext i
  dsimp only
  split <;> simp [*]
theorem one_cur (l : List PFr) : (one l).cur = 0 := rfl
theorem dI_even (n j : Nat) (h : j ≤ n) : dI n (2 * j) = dS j := by
  unfold dI
  rw [if_pos (by omega), if_pos (by omega), show 2 * j / 2 = j by omega]
theorem dI_odd (n j : Nat) (h : j < n) : dI n (2 * j + 1) = ⟨1, 0, 2 * j⟩ :: dS j := by
  unfold dI
  rw [if_pos (by omega), if_neg (by omega), show (2 * j + 1) / 2 = j by omega]
  have : ((2 * j + 1 : Nat) : Int) - 1 = 2 * (j : Int) := by omega
  rw [this]
theorem dI_back (n j : Nat) (h : j ≤ n) : dI n (2 * n + j) = dS (n - j) := by
  unfold dI
  by_cases h0 : j = 0
  · subst h0
    rw [if_pos (by omega), if_pos (by omega), show (2 * n + 0) / 2 = n - 0 by omega]
  · rw [if_neg (by omega), show 3 * n - (2 * n + j) = n - j by omega]
theorem deep_cases {n i : Nat} (h : i < 3 * n) : (∃ j, i = 2 * j ∧ j < n ∧ deepM n i = cM) ∨ (∃ j, i = 2 * j + 1 ∧ j < n ∧ deepM n i = lM) ∨ ∃ j, i = 2 * n + j ∧ j < n ∧ deepM n i = bM := by
  unfold deepM
  by_cases h1 : i < 2 * n
  · rw [if_pos h1]
    by_cases h2 : i % 2 = 0
    · rw [if_pos h2]; exact .inl ⟨i / 2, by omega, by omega, rfl⟩
    · rw [if_neg h2]; exact .inr (.inl ⟨i / 2, by omega, by omega, rfl⟩)
  · rw [if_neg h1]; exact .inr (.inr ⟨i - 2 * n, by omega, by omega, rfl⟩)
theorem deep_step {n i : Nat} (h : i < 3 * n) : stepP (one (dI n i)) (deepM n i) i = one (dI n (i + 1)) := by
  rcases deep_cases h with ⟨j, rfl, hj, e⟩ | ⟨j, rfl, hj, e⟩ | ⟨j, rfl, hj, e⟩
  · rw [e, dI_even n j (by omega), dI_odd n j hj]
    unfold stepP
    rw [if_neg (by decide), if_pos (by rfl), one_top, one_put]
    simp [cM]
  · rw [e, dI_odd n j hj, show 2 * j + 1 + 1 = 2 * (j + 1) by omega, dI_even n (j + 1) (by omega)]
    unfold stepP
    rw [if_neg (by decide), if_neg (by decide), if_neg (by decide), if_pos (by rfl), one_top, one_put]
    rfl
  · rw [e, dI_back n j (by omega), Nat.add_assoc, dI_back n (j + 1) (by omega)]
    unfold stepP
    rw [if_neg (by decide), if_neg (by decide), if_pos (by rfl), one_top, one_put]
    obtain ⟨m, hm⟩ : ∃ m, n - j = m + 1 := ⟨n - j - 1, by omega⟩
    rw [hm, show n - (j + 1) = m by omega]
    rfl
theorem deep_st (n : Nat) : ∀ i, i ≤ 3 * n → stN (deepMs n) i = one (dI n i)
  | 0, _ => by rw [show (0 : Nat) = 2 * 0 from rfl, dI_even n 0 (by omega)]; rfl
  | i + 1, h => by
    show stepP (stN (deepMs n) i) (elt (deepMs n) i) i = _
    rw [deep_st n i (by omega), deepMs_elt (by omega)]
    exact deep_step (by omega)
theorem deep_check {n i : Nat} (hn : n ≤ 150) (h : i < 3 * n) : checkP (one (dI n i)) (deepM n i) = 0 := by
  rcases deep_cases h with ⟨j, rfl, hj, e⟩ | ⟨j, rfl, hj, e⟩ | ⟨j, rfl, hj, e⟩
  · rw [e, dI_even n j (by omega)]
    unfold checkP
    rw [if_neg (by decide), if_neg (by simp [one, cM]), if_pos (by rfl), one_top, dS_len, if_neg (by omega)]
  · rw [e, dI_odd n j hj]
    unfold checkP
    rw [if_neg (by decide), if_neg (by simp [one, lM]), if_neg (by decide), one_top]
    simp [lM]
  · rw [e, dI_back n j (by omega)]
    obtain ⟨m, hm⟩ : ∃ m, n - j = m + 1 := ⟨n - j - 1, by omega⟩
    rw [hm]
    unfold checkP
    rw [if_neg (by decide), if_neg (by simp [one, bM]), if_neg (by decide), one_top]
    simp only [dS, bM]
    rw [if_neg (by omega)]
def deepT (n : Nat) : PTr := ⟨[⟨#[109, 97, 105, 110]⟩, ⟨#[102]⟩], deepMs n⟩
theorem deep_sound {n : Nat} (hn : n ≤ 150) : Sound (deepT n) := by
  refine ⟨?_, fun k hk => ?_, fun k hk => ?_⟩
  · unfold sizesOk
    have h1 : (deepT n).moms.length = 3 * n := deepMs_len n
    have h2 : fnsOk (deepT n).fns = true := rfl
    have h3 : (deepT n).fns.length = 2 := rfl
    rw [h1, h2, h3]
    simp
    omega
  · have hk : k < 3 * n := by have := deepMs_len n; simp only [deepT] at hk; omega
    show momOk 2 (elt (deepMs n) k) = true
    rw [deepMs_elt hk]
    rcases deep_cases hk with ⟨j, _, _, e⟩ | ⟨j, _, _, e⟩ | ⟨j, _, _, e⟩ <;> rw [e] <;> decide
  · have hk : k < 3 * n := by have := deepMs_len n; simp only [deepT] at hk; omega
    show checkP (stN (deepMs n) k) (elt (deepMs n) k) = 0
    rw [deepMs_elt hk, deep_st n k (by omega)]
    exact deep_check hn hk
theorem open_dS0 : ∀ j, openIn (dS j) 0 = true
  | 0 => by decide
  | j + 1 => by simp only [openIn, dS, List.any_cons]; rw [show (List.any (dS j) fun f => decide (f.fn = ((0 : Nat) : Int))) = true from open_dS0 j]; simp
theorem open_dS1 (j : Nat) : openIn (dS (j + 1)) 1 = true := by simp [openIn, dS]
theorem deep_fc (n : Nat) : ∀ j, j ≤ n → (fcN (deepMs n) (2 * j)).cal 0 = 1 ∧ (fcN (deepMs n) (2 * j)).cal 1 = j ∧ (fcN (deepMs n) (2 * j)).slf 0 = 0 ∧ (fcN (deepMs n) (2 * j)).slf 1 = j ∧ (fcN (deepMs n) (2 * j)).tot 0 = j ∧ (fcN (deepMs n) (2 * j)).tot 1 = j
  | 0, _ => by simp [fcN, fc0]
  | j + 1, h => by
    obtain ⟨a1, a2, a3, a4, a5, a6⟩ := deep_fc n j (by omega)
    have e1 : elt (deepMs n) (2 * j) = cM := by
      rw [deepMs_elt (by omega)]; unfold deepM; rw [if_pos (by omega), if_pos (by omega)]
    have e2 : elt (deepMs n) (2 * j + 1) = lM := by
      rw [deepMs_elt (by omega)]; unfold deepM; rw [if_pos (by omega), if_neg (by omega)]
    have t2 : (stN (deepMs n) (2 * j + 2)).top = dS (j + 1) := by
      rw [deep_st n _ (by omega), one_top, show 2 * j + 2 = 2 * (j + 1) by omega, dI_even n (j + 1) h]
    have s1 : fcN (deepMs n) (2 * j + 1) = ⟨bump (fcN (deepMs n) (2 * j)).cal 1, (fcN (deepMs n) (2 * j)).slf, (fcN (deepMs n) (2 * j)).tot⟩ := by
      show fcStep _ _ _ = _
      rw [e1]; rfl
    have s2 : fcN (deepMs n) (2 * j + 2) = ⟨bump (fcN (deepMs n) (2 * j)).cal 1, bump (fcN (deepMs n) (2 * j)).slf 1, bumpAll (fcN (deepMs n) (2 * j)).tot (dS (j + 1))⟩ := by
      show fcStep (fcN (deepMs n) (2 * j + 1)) (elt (deepMs n) (2 * j + 1)) _ = _
      rw [s1, e2, t2]; rfl
    rw [show 2 * (j + 1) = 2 * j + 2 by omega, s2]
    simp only [bump, bumpAll, open_dS0, open_dS1, a1, a2, a3, a4, a5, a6]
    simp
theorem deep_fc_end (n : Nat) : ∀ j, j ≤ n → fcN (deepMs n) (2 * n + j) = fcN (deepMs n) (2 * n)
  | 0, _ => rfl
  | j + 1, h => by
    rw [← deep_fc_end n j (by omega)]
    show fcStep _ (elt (deepMs n) (2 * n + j)) _ = _
    rw [deepMs_elt (by omega)]
    unfold deepM
    rw [if_neg (by omega)]
    rfl
/-- The tree, j branches below the text's. -/
def dBr : Nat → List PBr
  | 0 => [⟨0, -1, 1, 0⟩]
  | j + 1 => dBr j ++ [⟨1, j, 1, 1⟩]
def dIx : Nat → List Nat
  | 0 => [0]
  | j + 1 => (j + 1) :: dIx j
theorem dBr_len : ∀ j, (dBr j).length = j + 1
  | 0 => rfl
  | j + 1 => by simp [dBr, dBr_len j]
theorem dBr_miss : ∀ (j : Nat) (p : Int), (j : Int) ≤ p → brAt (dBr j) p 1 = (dBr j).length
  | 0, p, hp => by
    unfold brAt dBr
    simp [List.findIdx_cons, brIs]
  | j + 1, p, hp => by
    have ih := dBr_miss j p (by omega)
    unfold brAt at ih ⊢
    unfold dBr
    rw [List.findIdx_append, ih, if_neg (by omega)]
    have : brIs p 1 ⟨1, j, 1, 1⟩ = false := by
      unfold brIs
      have : ¬ ((j : Int) = p) := by omega
      simp [this]
    simp [List.findIdx_cons, this]
    omega
theorem mod_last (br : List PBr) (x : PBr) (g : PBr → PBr) : (br ++ [x]).modify br.length g = br ++ [g x] := by
  induction br with
  | nil => rfl
  | cons a r ih => simp [ih]
def oneC (br : List PBr) (l : List Nat) : CT := ⟨br, fun t => if t = 0 then l else []⟩
theorem oneC_stk (br : List PBr) (l : List Nat) : (oneC br l).stk 0 = l := by simp [oneC]
theorem oneC_put (br : List PBr) (l r : List Nat) : (oneC br l).put 0 r = fun t => if t = 0 then r else [] := by
  unfold CT.put oneC
  funext i
  dsimp only
  split <;> simp [*]
theorem dIx_par : ∀ j, ctPar (dIx j) = (j : Int)
  | 0 => rfl
  | _ + 1 => rfl
theorem deep_ct_call (j : Nat) : ctStep (oneC (dBr j) (dIx j)) cM 0 = oneC (dBr j ++ [⟨1, j, 1, 0⟩]) ((j + 1) :: dIx j) := by
  unfold ctStep
  rw [if_pos (by rfl), oneC_stk, dIx_par]
  have hm := dBr_miss j j (Int.le_refl _)
  have ha : brAdd (dBr j) (j : Int) 1 = dBr j ++ [⟨1, j, 0, 0⟩] := by unfold brAdd; rw [hm, if_neg (by omega)]
  show CT.mk (brCal (brAdd (dBr j) (j : Int) 1) (brAt (dBr j) (j : Int) 1)) _ = _
  rw [oneC_put, ha]
  show CT.mk (brCal _ (brAt (dBr j) (j : Int) 1)) (fun t => if t = 0 then brAt (dBr j) (j : Int) 1 :: dIx j else []) = _
  rw [hm]
  unfold brCal
  rw [mod_last, dBr_len]
  rfl
theorem deep_ct_line (j : Nat) : ctStep (oneC (dBr j ++ [⟨1, j, 1, 0⟩]) ((j + 1) :: dIx j)) lM 0 = oneC (dBr (j + 1)) (dIx (j + 1)) := by
  unfold ctStep
  rw [if_neg (by decide), if_neg (by decide), if_pos (by rfl), oneC_stk]
  show CT.mk (brSlf (dBr j ++ [⟨1, j, 1, 0⟩]) (j + 1)) _ = _
  unfold brSlf
  have hm := mod_last (dBr j) ⟨1, j, 1, 0⟩ (fun b => ⟨b.fn, b.par, b.cal, b.slf + 1⟩)
  rw [dBr_len] at hm
  rw [hm]
  rfl
theorem deep_cur (n i : Nat) (h : i ≤ 3 * n) : (stN (deepMs n) i).cur = 0 := by rw [deep_st n i h]; rfl
theorem deep_ct (n : Nat) : ∀ j, j ≤ n → ctN (deepMs n) (2 * j) = oneC (dBr j) (dIx j)
  | 0, _ => rfl
  | j + 1, h => by
    have e1 : elt (deepMs n) (2 * j) = cM := by
      rw [deepMs_elt (by omega)]; unfold deepM; rw [if_pos (by omega), if_pos (by omega)]
    have e2 : elt (deepMs n) (2 * j + 1) = lM := by
      rw [deepMs_elt (by omega)]; unfold deepM; rw [if_pos (by omega), if_neg (by omega)]
    show ctStep (ctStep (ctN (deepMs n) (2 * j)) (elt (deepMs n) (2 * j)) (stN (deepMs n) (2 * j)).cur) (elt (deepMs n) (2 * j + 1)) (stN (deepMs n) (2 * j + 1)).cur = _
    rw [deep_ct n j (by omega), deep_cur n _ (by omega), deep_cur n _ (by omega), e1, e2, deep_ct_call, deep_ct_line]
theorem deep_ct_end (n : Nat) : ∀ j, j ≤ n → (ctN (deepMs n) (2 * n + j)).br = dBr n
  | 0, _ => by rw [Nat.add_zero, deep_ct n n (Nat.le_refl _)]; rfl
  | j + 1, h => by
    rw [← deep_ct_end n j (by omega)]
    show (ctStep _ (elt (deepMs n) (2 * n + j)) _).br = _
    rw [deepMs_elt (by omega)]
    unfold deepM
    rw [if_neg (by omega)]
    rfl
theorem dBr_elt : ∀ (j i : Nat), 1 ≤ i → i ≤ j → elt (dBr j) i = ⟨1, (i : Int) - 1, 1, 1⟩
  | 0, i, h1, h2 => by omega
  | j + 1, i, h1, h2 => by
    have hl := dBr_len j
    by_cases hi : i = j + 1
    · subst hi
      unfold dBr
      rw [elt_eq (by simp; omega)]
      rw [List.getElem_append_right (by omega)]
      simp [hl]
    · have := dBr_elt j i h1 (by omega)
      rw [← this]
      show elt (dBr j ++ [_]) i = _
      rw [elt_eq (by simp; omega), elt_eq (by omega), List.getElem_append_left (by omega)]
/-- What FnDeep reads of the counts and of the tree. -/
theorem deep_fcP {n : Nat} (hn : n ≤ 150) : fcP (deepT n) = fcList (fcN (deepMs n) (2 * n)) 2 := by
  have hs := (deep_sound hn).is
  unfold fcP
  rw [hs]
  show fcList (fcN (deepMs n) (deepMs n).length) 2 = _
  rw [deepMs_len, show 3 * n = 2 * n + n by omega, deep_fc_end n n (Nat.le_refl _)]
theorem deep_ctP {n : Nat} (hn : n ≤ 150) : ctP (deepT n) = dBr n := by
  have hs := (deep_sound hn).is
  unfold ctP
  rw [if_pos hs]
  show (ctN (deepMs n) (deepMs n).length).br = _
  rw [deepMs_len, show 3 * n = 2 * n + n by omega, deep_ct_end n n (Nat.le_refl _)]
theorem firstB_at {p : Nat → Bool} {n i0 : Nat} (h0 : i0 < n) (hp : p i0 = true) : ∀ (d k : Nat), i0 - k = d → k ≤ i0 → (∀ i, k ≤ i → i < i0 → p i = false) → firstB p n (n - k) k = i0
  | 0, k, hd, hk, _ => by
    obtain rfl : k = i0 := by omega
    exact firstB_hit h0 hp
  | d + 1, k, hd, hk, h => by
    rw [firstB_skip (by omega) (h k (Nat.le_refl _) (by omega))]
    exact firstB_at h0 hp d (k + 1) (by omega) (by omega) fun i h1 h2 => h i (by omega) h2
theorem deep_good {n : Nat} (hn : n ≤ 150) {k : Int} (h0 : -1 ≤ k) (h1 : k ≤ 3 * n) : goodP (deepT n) k = true := by
  have hs := (deep_sound hn).is
  unfold goodP placeOk
  rw [hs]
  have : (deepT n).moms.length = 3 * n := deepMs_len n
  rw [this]
  simp [inB]
  omega
theorem deep_at {n : Nat} {k : Int} {m : Nat} (hk : (k + 1).toNat = m) (hm : m ≤ 3 * n) : atP (deepT n) k = one (dI n m) := by
  unfold atP atN
  have : (deepT n).moms.length = 3 * n := deepMs_len n
  rw [this, hk, Nat.min_eq_left hm]
  exact deep_st n m hm
theorem one_stk (l : List PFr) : (one l).stk 0 = l := by simp [one]
theorem deep_over {n : Nat} (hn : n ≤ 150) (h1 : 1 ≤ n) : overP (deepT n) 0 = 1 := by
  have hl : (deepT n).moms.length = 3 * n := deepMs_len n
  have ha : atP (deepT n) 0 = one (dI n 1) := deep_at rfl (by omega)
  have e1 : dI n 1 = ⟨1, 0, 2 * (0 : Nat)⟩ :: dS 0 := by have := dI_odd n 0 (by omega); simpa using this
  unfold overP seekP
  rw [if_pos (deep_good hn (by omega) (by omega)), hl]
  have hp : overQ (deepT n) 0 1 = true := by
    unfold overQ
    have e2 : elt (deepT n).moms 1 = lM := by
      show elt (deepMs n) 1 = _
      rw [deepMs_elt (by omega)]; unfold deepM; rw [if_pos (by omega), if_neg (by omega)]
    have e3 : stN (deepT n).moms (1 + 1) = one (dS 1) := by
      show stN (deepMs n) 2 = _
      rw [deep_st n 2 (by omega)]
      have := dI_even n 1 h1
      rw [show 2 * 1 = 2 from rfl] at this
      rw [this]
    rw [e2, e3, ha, e1, one_cur, one_stk, one_stk]
    simp [lM, dS]
  have := firstB_at (n := 3 * n) (by omega) hp 0 1 (by omega) (by omega) (fun i h1 h2 => by omega)
  have e : ((0 : Int) + 1).toNat = 1 := rfl
  rw [e, this]
  rfl
theorem deep_out1 {n : Nat} (hn : n ≤ 150) (h1 : 1 ≤ n) : outP (deepT n) (2 * n - 1) = 2 * n := by
  have hl : (deepT n).moms.length = 3 * n := deepMs_len n
  have ha : atP (deepT n) (2 * n - 1) = one (dS n) := by rw [deep_at (m := 2 * n) (by omega) (by omega), dI_even n n (Nat.le_refl _)]
  unfold outP seekP
  rw [if_pos (deep_good hn (by omega) (by omega)), hl]
  have hp : outQ (deepT n) (2 * n - 1) (2 * n) = true := by
    unfold outQ
    have e2 : elt (deepT n).moms (2 * n) = bM := by
      show elt (deepMs n) (2 * n) = _
      rw [deepMs_elt (by omega)]; unfold deepM; rw [if_neg (by omega)]
    have e3 : stN (deepT n).moms (2 * n + 1) = one (dS (n - 1)) := by
      show stN (deepMs n) (2 * n + 1) = _
      rw [deep_st n _ (by omega), dI_back n 1 h1]
    rw [e2, e3, ha, one_cur, one_stk, one_stk, dS_len, dS_len]
    simp [bM]
    omega
  have := firstB_at (n := 3 * n) (by omega) hp 0 (2 * n) (by omega) (by omega) (fun i h1 h2 => by omega)
  have e : ((2 * n - 1 : Int) + 1).toNat = 2 * n := by omega
  rw [e, this]
  omega
theorem deep_out0 {n : Nat} (hn : n ≤ 150) (h1 : 1 ≤ n) : outP (deepT n) 0 = 3 * n - 1 := by
  have hl : (deepT n).moms.length = 3 * n := deepMs_len n
  have ha : atP (deepT n) 0 = one (dI n 1) := deep_at rfl (by omega)
  have e1 : dI n 1 = ⟨1, 0, 2 * (0 : Nat)⟩ :: dS 0 := by have := dI_odd n 0 (by omega); simpa using this
  have hq : ∀ i, i < 3 * n → outQ (deepT n) 0 i = decide (i = 3 * n - 1) := by
    intro i hi
    unfold outQ
    have e2 : elt (deepT n).moms i = deepM n i := deepMs_elt hi
    have e3 : stN (deepT n).moms (i + 1) = one (dI n (i + 1)) := deep_st n _ (by omega)
    rw [e2, e3, ha, e1, one_cur, one_stk, one_stk]
    rcases deep_cases hi with ⟨j, rfl, hj, e⟩ | ⟨j, rfl, hj, e⟩ | ⟨j, rfl, hj, e⟩
    · rw [e]
      have : ¬ 2 * j = 3 * n - 1 := by omega
      simp [cM, this]
    · rw [e]
      have : ¬ 2 * j + 1 = 3 * n - 1 := by omega
      simp [lM, this]
    · rw [e, Nat.add_assoc, dI_back n (j + 1) (by omega), dS_len]
      by_cases hjn : j = n - 1
      · have e5 : 2 * n + j = 3 * n - 1 := by omega
        have e6 : n - (j + 1) = 0 := by omega
        rw [e5, e6]
        simp [bM, dS]
      · have e5 : ¬ 2 * n + j = 3 * n - 1 := by omega
        have e6 : ¬ n - (j + 1) + 1 < 2 := by omega
        simp [bM, dS, e5]
        omega
  unfold outP seekP
  rw [if_pos (deep_good hn (by omega) (by omega)), hl]
  have hp : outQ (deepT n) 0 (3 * n - 1) = true := by rw [hq _ (by omega)]; simp
  have hno : ∀ i, 1 ≤ i → i < 3 * n - 1 → outQ (deepT n) 0 i = false := fun i _ h2 => by
    rw [hq _ (by omega)]
    have : ¬ i = 3 * n - 1 := by omega
    simp [this]
  have := firstB_at (n := 3 * n) (by omega) hp (3 * n - 2) 1 (by omega) (by omega) hno
  have e : ((0 : Int) + 1).toNat = 1 := rfl
  rw [e, this]
  omega
end Go.Proofs.Lens
