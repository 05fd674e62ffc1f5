/- The plain sides of FnStacks, FnSteps and FnStops. -/
import Derived.Test.YtcklnjjbhngbcaaP8
namespace Go.Proofs.Lens

/-! ### open calls, place by place -/
def wantP (s : PS) (m : PMom) (k : Nat) (task : Int) : List PFr :=
  if task = m.task then
    (if m.kind = 2 then ⟨m.fn, 0, k⟩ :: s.stk task else if m.kind = 3 then (s.stk task).tail
      else if m.kind = 1 then (match s.stk task with | [] => [] | f :: r => ⟨f.fn, m.line, f.frm⟩ :: r) else s.stk task)
  else s.stk task
theorem want_step {s : PS} {m : PMom} {k : Nat} (hc : checkP s m = 0) (task : Int) : (stepP s m k).stk task = wantP s m k task := by
  unfold stepP wantP
  unfold checkP at hc
  by_cases k7 : m.kind = 7
  · rw [if_pos k7]
    by_cases ht : task = m.task
    · rw [if_pos ht, if_neg (by omega), if_neg (by omega), if_neg (by omega)]
    · rw [if_neg ht]
  rw [if_neg k7] at hc ⊢
  by_cases hct : m.task ≠ s.cur
  · rw [if_pos hct] at hc; cases hc
  have hct : m.task = s.cur := Decidable.not_not.1 hct
  by_cases ht : task = m.task
  · rw [if_pos ht]
    have ht' : task = s.cur := ht.trans hct
    subst ht'
    have hput : ∀ l : List PFr, (s.put l).stk s.cur = l := fun l => by simp [PS.put]
    by_cases k2 : m.kind = 2
    · rw [if_pos k2, if_pos k2, hput]; rfl
    rw [if_neg k2, if_neg k2]
    by_cases k3 : m.kind = 3
    · rw [if_pos k3, if_pos k3, hput]; rfl
    rw [if_neg k3, if_neg k3]
    by_cases k1 : m.kind = 1
    · rw [if_pos k1, if_pos k1, hput]; rfl
    rw [if_neg k1, if_neg k1]
  · rw [if_neg ht]
    have hput : ∀ l : List PFr, (s.put l).stk task = s.stk task := fun l => by
      simp only [PS.put]
      rw [if_neg (by rw [← hct]; exact ht)]
    split
    · exact hput _
    · split
      · exact hput _
      · split
        · exact hput _
        · rfl
theorem at_nat {t : PTr} {k : Nat} (h : k < t.moms.length) : atP t k = stN t.moms (k + 1) := by
  unfold atP atN
  rw [show ((k : Int) + 1).toNat = k + 1 by omega, Nat.min_eq_left (by omega)]
theorem at_neg (t : PTr) : atP t (-1) = ps0 := by
  unfold atP atN
  rw [show ((-1 : Int) + 1).toNat = 0 by omega, Nat.zero_min]; rfl
theorem good_of {t : PTr} (hs : Sound t) {k : Int} (h0 : -1 ≤ k) (h1 : k ≤ t.moms.length) : goodP t k = true := by
  unfold goodP placeOk
  rw [hs.is]
  simp [inB]
  omega
theorem stack_of {t : PTr} (hs : Sound t) {k task : Int} (h0 : -1 ≤ k) (h1 : k ≤ t.moms.length) (h2 : 0 ≤ task) (h3 : task ≤ 100) : stackP t k task = (atP t k).stk task := by
  unfold stackP
  rw [good_of hs h0 h1, if_pos (by simp [inB]; omega)]
theorem run_of {t : PTr} (hs : Sound t) {k : Int} (h0 : -1 ≤ k) (h1 : k ≤ t.moms.length) : runP t k = (atP t k).cur := by
  unfold runP
  rw [good_of hs h0 h1, if_pos rfl]

/-! ### the first and the last, met on one way through -/
def accF (p : Nat → Bool) (n : Nat) : Nat → Nat
  | 0 => n
  | i + 1 => if p i = true ∧ accF p n i = n then i else accF p n i
theorem firstB_snoc (p : Nat → Bool) (n : Nat) : ∀ d k, k + d < n → firstB p n (d + 1) k = if firstB p n d k = n then (if p (k + d) = true then k + d else n) else firstB p n d k
  | 0, k, h => by simp [firstB]
  | d + 1, k, h => by
    rw [firstB]
    rw [show firstB p n (d + 1) k = if p k = true then k else firstB p n d (k + 1) from rfl]
    by_cases hp : p k = true
    · rw [if_pos hp, if_pos hp, if_neg (by omega)]
    · rw [if_neg hp, if_neg hp, firstB_snoc p n d (k + 1) (by omega), show k + 1 + d = k + (d + 1) by omega]
theorem accF_first (p : Nat → Bool) (n : Nat) : ∀ i, i ≤ n → accF p n i = firstB p n i 0
  | 0, _ => rfl
  | i + 1, h => by
    rw [firstB_snoc p n i 0 (by omega), accF, accF_first p n i (by omega), Nat.zero_add]
    by_cases h1 : firstB p n i 0 = n
    · by_cases h2 : p i = true
      · rw [if_pos ⟨h2, h1⟩, if_pos h1, if_pos h2]
      · rw [if_neg (fun hh => h2 hh.1), if_pos h1, if_neg h2]; exact h1
    · rw [if_neg (fun hh => h1 hh.2), if_neg h1]
theorem firstB_none {p : Nat → Bool} {n : Nat} : ∀ {d k : Nat}, (∀ i, k ≤ i → i < k + d → p i = false) → firstB p n d k = n
  | 0, _, _ => rfl
  | d + 1, k, h => by
    rw [firstB, if_neg (by rw [h k (Nat.le_refl _) (by omega)]; simp)]
    exact firstB_none fun i h1 h2 => h i (by omega) (by omega)
theorem firstB_same {p q : Nat → Bool} {n : Nat} : ∀ {d k : Nat}, (∀ i, k ≤ i → i < k + d → p i = q i) → firstB p n d k = firstB q n d k
  | 0, _, _ => rfl
  | d + 1, k, h => by
    rw [firstB, firstB, h k (Nat.le_refl _) (by omega), firstB_same fun i h1 h2 => h i (by omega) (by omega)]
theorem firstB_to {p : Nat → Bool} {n : Nat} : ∀ m, m ≤ n → (∀ i, i < m → p i = false) → firstB p n (n - 0) 0 = firstB p n (n - m) m
  | 0, _, _ => rfl
  | m + 1, hm, h => by
    rw [firstB_to m (by omega) (fun i hi => h i (by omega)), firstB_skip (by omega) (h m (by omega))]
/-- Met on the way through all: what the search from a place gives. -/
theorem accF_seek {p q : Nat → Bool} {n : Nat} {k : Int} (h0 : -1 ≤ k) (hq : ∀ i, i < n → q i = (decide (k < (i : Int)) && p i)) : accF q n n = firstB p n (n - (k + 1).toNat) (k + 1).toNat := by
  rw [accF_first q n n (Nat.le_refl _)]
  by_cases hk : (k + 1).toNat ≤ n
  · have h1 := firstB_to (p := q) (n := n) (k + 1).toNat hk (fun i hi => by
      rw [hq i (by omega)]
      have : ¬ k < (i : Int) := by omega
      simp [this])
    rw [Nat.sub_zero] at h1
    rw [h1]
    refine firstB_same fun i h2 h3 => ?_
    rw [hq i (by omega)]
    have : k < (i : Int) := by omega
    simp [this]
  · rw [show n - (k + 1).toNat = 0 by omega]
    show _ = n
    refine firstB_none fun i h2 h3 => ?_
    rw [hq i (by omega)]
    have : ¬ k < (i : Int) := by omega
    simp [this]
theorem lastB_same {p q : Nat → Bool} : ∀ {n : Nat}, (∀ i, i < n → p i = q i) → lastB p n = lastB q n
  | 0, _ => rfl
  | n + 1, h => by
    rw [lastB, lastB, h n (by omega), lastB_same fun i hi => h i (by omega)]
theorem lastB_cut {p q : Nat → Bool} {k : Int} : ∀ {n : Nat}, k ≤ n → (∀ i, i < n → q i = (decide ((i : Int) < k) && p i)) → lastB q n = lastB p k.toNat
  | 0, hk, h => by rw [show k.toNat = 0 by omega]; rfl
  | n + 1, hk, h => by
    by_cases hn : k ≤ n
    · rw [lastB, h n (by omega)]
      have : ¬ (n : Int) < k := by omega
      rw [if_neg (by simp [this])]
      exact lastB_cut hn fun i hi => h i (by omega)
    · rw [show k.toNat = n + 1 by omega]
      refine lastB_same fun i hi => ?_
      rw [h i hi]
      have : (i : Int) < k := by omega
      simp [this]

/-! ### what FnSteps meets -/
def stInto (t : PTr) (k : Int) (i : Nat) : Bool := decide (k < (i : Int)) && intoQ t k i
def stOver (t : PTr) (k : Int) (i : Nat) : Bool := decide (k < (i : Int)) && overQ t k i
def stOut (t : PTr) (k : Int) (i : Nat) : Bool := decide (k < (i : Int)) && outQ t k i
def stBef (t : PTr) (k : Int) (i : Nat) : Bool := decide ((i : Int) < k) && intoQ t k i
theorem into_acc {t : PTr} (hs : Sound t) {k : Int} (h0 : -1 ≤ k) (h1 : k ≤ t.moms.length) : intoP t k = accF (stInto t k) t.moms.length t.moms.length := by
  unfold intoP seekP
  rw [if_pos (good_of hs h0 h1), accF_seek (p := intoQ t k) (q := stInto t k) h0 fun i _ => rfl]
theorem over_acc {t : PTr} (hs : Sound t) {k : Int} (h0 : -1 ≤ k) (h1 : k ≤ t.moms.length) : overP t k = accF (stOver t k) t.moms.length t.moms.length := by
  unfold overP seekP
  rw [if_pos (good_of hs h0 h1), accF_seek (p := overQ t k) (q := stOver t k) h0 fun i _ => rfl]
theorem out_acc {t : PTr} (hs : Sound t) {k : Int} (h0 : -1 ≤ k) (h1 : k ≤ t.moms.length) : outP t k = accF (stOut t k) t.moms.length t.moms.length := by
  unfold outP seekP
  rw [if_pos (good_of hs h0 h1), accF_seek (p := outQ t k) (q := stOut t k) h0 fun i _ => rfl]
theorem bef_acc {t : PTr} (hs : Sound t) {k : Int} (h0 : -1 ≤ k) (h1 : k ≤ t.moms.length) : beforeP t k = lastB (stBef t k) t.moms.length := by
  unfold beforeP
  rw [if_pos (good_of hs h0 h1), lastB_cut (p := intoQ t k) (q := stBef t k) h1 fun i _ => rfl]

/-! ### what FnStops meets -/
theorem hitsN_split (ms : List PMom) (s : PStop) (i : Nat) : ∀ d, ∃ r, hitsN ms s (i + d) = hitsN ms s i ++ r ∧ ∀ x ∈ r, (i : Int) ≤ x
  | 0 => ⟨[], by simp, fun x hx => absurd hx (by simp)⟩
  | d + 1 => by
    obtain ⟨r, h1, h2⟩ := hitsN_split ms s i d
    rw [← Nat.add_assoc, show hitsN ms s (i + d + 1) = if holdsP ms s (i + d) = true then hitsN ms s (i + d) ++ [((i + d : Nat) : Int)] else hitsN ms s (i + d) from rfl]
    split
    · exact ⟨r ++ [((i + d : Nat) : Int)], by rw [h1, List.append_assoc], fun x hx => by
        rcases List.mem_append.1 hx with hx | hx
        · exact h2 x hx
        · simp at hx; omega⟩
    · exact ⟨r, h1, h2⟩
/-- The hit that is next says whether the stop holds here. -/
theorem hit_at (ms : List PMom) (s : PStop) {i n : Nat} (h : i < n) : ((hitsN ms s i).length < (hitsN ms s n).length ∧ elt (hitsN ms s n) (hitsN ms s i).length = (i : Int)) ↔ holdsP ms s i = true := by
  obtain ⟨r, h1, h2⟩ := hitsN_split ms s (i + 1) (n - (i + 1))
  rw [show i + 1 + (n - (i + 1)) = n by omega] at h1
  have e : hitsN ms s (i + 1) = if holdsP ms s i = true then hitsN ms s i ++ [(i : Int)] else hitsN ms s i := rfl
  by_cases hp : holdsP ms s i = true
  · rw [if_pos hp] at e
    rw [e] at h1
    constructor
    · intro _; exact hp
    · intro _
      rw [h1]
      refine ⟨by simp, ?_⟩
      rw [elt_eq (by simp)]
      simp
  · rw [if_neg hp] at e
    rw [e] at h1
    constructor
    · rintro ⟨h3, h4⟩
      rw [h1] at h3 h4
      rw [elt_eq h3, List.getElem_append_right (Nat.le_refl _)] at h4
      have := h2 _ (List.getElem_mem (l := r) (n := (hitsN ms s i).length - (hitsN ms s i).length) (by simp at h3 ⊢; omega))
      omega
    · intro hh; exact absurd hh hp
theorem hitsN_step (ms : List PMom) (s : PStop) (i : Nat) : (hitsN ms s (i + 1)).length = (hitsN ms s i).length + if holdsP ms s i = true then 1 else 0 := by
  show (if holdsP ms s i = true then hitsN ms s i ++ [(i : Int)] else hitsN ms s i).length = _
  split <;> simp
def spNext (t : PTr) (s : PStop) (k : Int) (i : Nat) : Bool := decide (k < (i : Int)) && holdsP t.moms s i
def spLast (t : PTr) (s : PStop) (k : Int) (i : Nat) : Bool := decide ((i : Int) < k) && holdsP t.moms s i
theorem any_one (ms : List PMom) (s : PStop) (i : Nat) : anyP ms [s] i = holdsP ms s i := by simp [anyP]
theorem good_one {t : PTr} (hs : Sound t) {s : PStop} (ho : stopOk s = true) {k : Int} (h0 : -1 ≤ k) (h1 : k ≤ t.moms.length) : stopsGood t [s] k = true := by
  unfold stopsGood placeOk
  rw [hs.is]
  simp [inB, ho]
  omega
theorem next_acc {t : PTr} (hs : Sound t) {s : PStop} (ho : stopOk s = true) {k : Int} (h0 : -1 ≤ k) (h1 : k ≤ t.moms.length) : nextP t [s] k = accF (spNext t s k) t.moms.length t.moms.length := by
  unfold nextP
  rw [if_pos (good_one hs ho h0 h1), accF_seek (p := anyP t.moms [s]) (q := spNext t s k) h0 fun i _ => by unfold spNext; rw [any_one]]
theorem last_acc {t : PTr} (hs : Sound t) {s : PStop} (ho : stopOk s = true) {k : Int} (h0 : -1 ≤ k) (h1 : k ≤ t.moms.length) : lastP t [s] k = lastB (spLast t s k) t.moms.length := by
  unfold lastP
  rw [if_pos (good_one hs ho h0 h1), lastB_cut (p := anyP t.moms [s]) (q := spLast t s k) h1 fun i _ => by unfold spLast; rw [any_one]]
/-- A drawn stop. -/
def stopP (code : List Nat) (c : Cu) : PStop × Cu :=
  if (pickP code 6 c).1 ≤ 1 then (⟨1, (pickP code 4 (pickP code 6 c).2).1, 1 + (pickP code 4 (pickP code 4 (pickP code 6 c).2).2).1, eT⟩, (pickP code 4 (pickP code 4 (pickP code 6 c).2).2).2)
  else if (pickP code 6 c).1 = 2 then (⟨2, (pickP code 4 (pickP code 6 c).2).1, 0, eT⟩, (pickP code 4 (pickP code 6 c).2).2)
  else if (pickP code 6 c).1 ≤ 4 then (⟨3, (pickP code 4 (pickP code 6 c).2).1, 0, chr1 (97 + (pickP code 3 (pickP code 4 (pickP code 6 c).2).2).1)⟩, (pickP code 3 (pickP code 4 (pickP code 6 c).2).2).2)
  else (⟨4, 0, 0, eT⟩, (pickP code 6 c).2)
theorem stopP_ok (code : List Nat) (c : Cu) : stopOk (stopP code c).1 = true := by
  have p4 := pickP_lt code (pickP code 6 c).2 (n := 4) (by omega)
  have p5 := pickP_lt code (pickP code 4 (pickP code 6 c).2).2 (n := 4) (by omega)
  have e0 : noS eT = true := by unfold noS; rw [ba_list]; rfl
  have e1 : ∀ n, (chr1 n).size = 1 := fun n => rfl
  unfold stopP
  split
  · unfold stopOk inB
    dsimp only
    rw [if_pos rfl, e0]
    simp
    omega
  · split
    · unfold stopOk inB
      dsimp only
      rw [if_neg (by omega), if_pos rfl, e0]
      simp
      omega
    · split
      · unfold stopOk inB
        dsimp only
        rw [if_neg (by omega), if_neg (by omega), if_pos rfl, e1]
        simp
        omega
      · unfold stopOk inB
        dsimp only
        rw [if_neg (by omega), if_neg (by omega), if_neg (by omega), if_pos rfl, e0]
        simp
end Go.Proofs.Lens
