/- The plain side: the open calls of all tasks, moment by moment; the first fault of a trace. -/
import Derived.Test.YtcklnjjbhngbcaaGreatDoorP0
namespace Go.Proofs.Lens

/-- The running task, and of each task the open calls, the innermost first. -/
structure PS where
  cur : Int
  stk : Int → List PFr
def PS.top (s : PS) : List PFr := s.stk s.cur
def PS.put (s : PS) (l : List PFr) : PS := ⟨s.cur, fun i => if i = s.cur then l else s.stk i⟩
def ps0 : PS := ⟨0, fun i => if i = 0 then [⟨0, 0, -1⟩] else []⟩
/-- What is wrong with a moment: 3, 4, 5, or 0. -/
def checkP (s : PS) (m : PMom) : Int :=
  if m.kind = 7 then 0 else if m.task ≠ s.cur then 3 else if m.kind = 2 then (if s.top.length = 200 then 5 else 0)
  else match s.top with
    | [] => if m.fn ≠ 0 ∨ m.kind = 1 ∨ m.kind = 3 then 4 else 0
    | f :: _ => if m.fn ≠ f.fn ∨ (m.kind = 3 ∧ f.frm = -1) then 4 else 0
/-- What stands behind a moment. -/
def stepP (s : PS) (m : PMom) (k : Nat) : PS :=
  if m.kind = 7 then ⟨m.task, s.stk⟩
  else if m.kind = 2 then s.put (⟨m.fn, 0, k⟩ :: s.top)
  else if m.kind = 3 then s.put s.top.tail
  else if m.kind = 1 then s.put (match s.top with | [] => [] | f :: r => ⟨f.fn, m.line, f.frm⟩ :: r)
  else s
/-- The call that a moment has closed, with those around it. -/
def closedP (s : PS) (m : PMom) : List PFr := if m.kind = 3 then s.top else []
/-- What stands behind the first n moments. -/
def stN (ms : List PMom) : Nat → PS
  | 0 => ps0
  | n + 1 => stepP (stN ms n) (elt ms n) n
/-- The first place from k on, d places on at most, at which f is not nought: f there, and the place. -/
def firstNZ (f : Nat → Int) : Nat → Nat → Int × Int
  | 0, _ => (0, 0)
  | d + 1, k => if f k = 0 then firstNZ f d (k + 1) else (f k, k)
theorem firstNZ_skip {f : Nat → Int} {n k : Nat} (hk : k < n) (h : f k = 0) : firstNZ f (n - k) k = firstNZ f (n - (k + 1)) (k + 1) := by
  rw [show n - k = (n - (k + 1)) + 1 by omega, firstNZ, if_pos h]
theorem firstNZ_hit {f : Nat → Int} {n k : Nat} (hk : k < n) (h : f k ≠ 0) : firstNZ f (n - k) k = (f k, (k : Int)) := by
  rw [show n - k = (n - (k + 1)) + 1 by omega, firstNZ, if_neg h]
theorem firstNZ_end {f : Nat → Int} {n : Nat} : firstNZ f (n - n) n = (0, 0) := by rw [Nat.sub_self]; rfl
theorem firstNZ_zero {f : Nat → Int} : ∀ {d k : Nat}, (firstNZ f d k).1 = 0 → ∀ j, k ≤ j → j < k + d → f j = 0
  | 0, _, _, _, _, h => absurd h (by omega)
  | d + 1, k, h, j, h1, h2 => by
    unfold firstNZ at h
    by_cases hf : f k = 0
    · rw [if_pos hf] at h
      by_cases hj : j = k
      · rw [hj]; exact hf
      · exact firstNZ_zero h j (by omega) (by omega)
    · rw [if_neg hf] at h; exact absurd h hf

def varOk (v : PVar) : Bool := inB v.nm.size 1 40 && decide (v.tx.size ≤ 4000)
def varsOk (xs : List PVar) : Bool := xs.all varOk
def momHd (nf : Nat) (m : PMom) : Bool :=
  inB m.kind 1 7 && inB m.task 0 100 && inB m.fn 0 (nf - 1) && inB m.line 0 100000 && (decide (0 < m.line) || decide (m.kind ≠ 1)) && decide (m.text.size ≤ 4000) && decide (m.vars.length ≤ 200)
def momOk (nf : Nat) (m : PMom) : Bool := momHd nf m && varsOk m.vars
def fnsOk (xs : List ByteArray) : Bool := xs.all fun s => decide (s.size ≤ 40)
def sizesOk (t : PTr) : Bool := decide (t.fns.length ≠ 0) && decide (t.fns.length ≤ 300) && decide (t.moms.length ≤ 3000) && fnsOk t.fns
def momCode (t : PTr) (k : Nat) : Int := if momOk t.fns.length (elt t.moms k) = true then 0 else 2
def moveCode (t : PTr) (k : Nat) : Int := checkP (stN t.moms k) (elt t.moms k)
def faultP (t : PTr) : Int × Int :=
  if sizesOk t = false then (1, 0)
  else if (firstNZ (momCode t) (t.moms.length - 0) 0).1 ≠ 0 then firstNZ (momCode t) (t.moms.length - 0) 0
  else firstNZ (moveCode t) (t.moms.length - 0) 0
def soundP (t : PTr) : Bool := decide ((faultP t).1 = 0)

/-- What a sound trace has. -/
structure Sound (t : PTr) : Prop where
  sizes : sizesOk t = true
  moms : ∀ k, k < t.moms.length → momOk t.fns.length (elt t.moms k) = true
  moves : ∀ k, k < t.moms.length → checkP (stN t.moms k) (elt t.moms k) = 0
theorem sound_iff {t : PTr} : soundP t = true → Sound t := by
  intro h
  have h : (faultP t).1 = 0 := by simpa [soundP] using h
  unfold faultP at h
  by_cases h1 : sizesOk t = false
  · rw [if_pos h1] at h; cases h
  rw [if_neg h1] at h
  by_cases h2 : (firstNZ (momCode t) (t.moms.length - 0) 0).1 ≠ 0
  · rw [if_pos h2] at h; exact absurd h h2
  rw [if_neg h2] at h
  refine ⟨by simpa using h1, fun k hk => ?_, fun k hk => firstNZ_zero h k (by omega) (by omega)⟩
  have h3 := firstNZ_zero (Decidable.not_not.1 h2) k (by omega) (by omega)
  unfold momCode at h3
  by_cases h4 : momOk t.fns.length (elt t.moms k) = true
  · exact h4
  · rw [if_neg h4] at h3; cases h3
theorem firstNZ_of_zero {f : Nat → Int} : ∀ {d k : Nat}, (firstNZ f d k).1 = 0 → firstNZ f d k = (0, 0)
  | 0, _, _ => rfl
  | d + 1, k, h => by
    unfold firstNZ at h ⊢
    by_cases hf : f k = 0
    · rw [if_pos hf] at h ⊢; exact firstNZ_of_zero h
    · rw [if_neg hf] at h; exact absurd h hf
theorem fault_of_sound {t : PTr} (h : soundP t = true) : faultP t = (0, 0) := by
  have h' : (faultP t).1 = 0 := by simpa [soundP] using h
  unfold faultP at h' ⊢
  by_cases h1 : sizesOk t = false
  · rw [if_pos h1] at h'; cases h'
  rw [if_neg h1] at h' ⊢
  by_cases h2 : (firstNZ (momCode t) (t.moms.length - 0) 0).1 ≠ 0
  · rw [if_pos h2] at h'; exact absurd h' h2
  rw [if_neg h2] at h' ⊢
  exact firstNZ_of_zero h'

/-! ### what holds all along -/
/-- The running task is one of the 101, the numbers of moments are small, no more than 200 calls are open. -/
structure Inv (s : PS) (n : Nat) : Prop where
  lo : 0 ≤ s.cur
  hi : s.cur ≤ 100
  deep : ∀ i, (s.stk i).length ≤ 200
  frm : ∀ i f, f ∈ s.stk i → -1 ≤ f.frm ∧ f.frm < n
theorem inv0 : Inv ps0 0 := by
  refine ⟨by simp [ps0], by simp [ps0], fun i => ?_, fun i f hf => ?_⟩
  · simp only [ps0]; split <;> simp
  · simp only [ps0] at hf
    split at hf
    · simp at hf; subst hf; simp
    · cases hf
theorem inv_step {s : PS} {n nf : Nat} {m : PMom} (h : Inv s n) (hm : momOk nf m = true) (hc : checkP s m = 0) : Inv (stepP s m n) (n + 1) := by
  obtain ⟨h1, h2, h3, h4⟩ := h
  have ht : 0 ≤ m.task ∧ m.task ≤ 100 := by
    simp only [momOk, momHd, Bool.and_eq_true] at hm
    exact inB_true.1 hm.1.1.1.1.1.1.2
  have hput : ∀ l : List PFr, l.length ≤ 200 → (∀ f ∈ l, -1 ≤ f.frm ∧ f.frm < n + 1) → Inv (s.put l) (n + 1) := by
    intro l hl hf
    refine ⟨h1, h2, fun i => ?_, fun i f hi => ?_⟩
    · simp only [PS.put]; split
      · exact hl
      · exact h3 i
    · simp only [PS.put] at hi; split at hi
      · have := hf f hi; omega
      · have := h4 i f hi; omega
  unfold stepP
  unfold checkP at hc
  by_cases k7 : m.kind = 7
  · rw [if_pos k7]; exact ⟨ht.1, ht.2, h3, fun i f hi => by have := h4 i f hi; omega⟩
  rw [if_neg k7] at hc ⊢
  by_cases hct : m.task ≠ s.cur
  · rw [if_pos hct] at hc; cases hc
  rw [if_neg hct] at hc
  by_cases k2 : m.kind = 2
  · rw [if_pos k2] at hc ⊢
    have hd := h3 s.cur
    by_cases h200 : s.top.length = 200
    · rw [if_pos h200] at hc; cases hc
    · refine hput _ ?_ ?_
      · simp only [List.length_cons]; unfold PS.top at h200 ⊢; omega
      · intro f hf
        rcases List.mem_cons.1 hf with rfl | hf
        · dsimp only; omega
        · have := h4 _ f hf; omega
  rw [if_neg k2] at hc ⊢
  by_cases k3 : m.kind = 3
  · rw [if_pos k3]
    refine hput _ ?_ ?_
    · rw [List.length_tail]; have := h3 s.cur; unfold PS.top; omega
    · intro f hf; have := h4 _ f (List.mem_of_mem_tail hf); omega
  rw [if_neg k3]
  by_cases k1 : m.kind = 1
  · rw [if_pos k1]
    have hd := h3 s.cur
    refine hput _ ?_ ?_
    · unfold PS.top; cases hs : s.stk s.cur with
      | nil => simp
      | cons f r => rw [hs] at hd; simpa using hd
    · intro f hf
      unfold PS.top at hf
      cases hs : s.stk s.cur with
      | nil => rw [hs] at hf; cases hf
      | cons g r =>
        rw [hs] at hf
        rcases List.mem_cons.1 hf with rfl | hf
        · have := h4 s.cur g (by rw [hs]; simp); dsimp only; omega
        · have := h4 s.cur f (by rw [hs]; simp [hf]); omega
  rw [if_neg k1]
  exact ⟨h1, h2, h3, fun i f hi => by have := h4 i f hi; omega⟩
theorem inv_stN {t : PTr} : ∀ n, n ≤ t.moms.length → (∀ k, k < n → momOk t.fns.length (elt t.moms k) = true) → (∀ k, k < n → checkP (stN t.moms k) (elt t.moms k) = 0) → Inv (stN t.moms n) n
  | 0, _, _, _ => inv0
  | n + 1, hn, hm, hc => inv_step (inv_stN n (by omega) (fun k hk => hm k (by omega)) (fun k hk => hc k (by omega))) (hm n (by omega)) (hc n (by omega))
theorem Sound.inv {t : PTr} (h : Sound t) (n : Nat) (hn : n ≤ t.moms.length) : Inv (stN t.moms n) n :=
  inv_stN n hn (fun k hk => h.moms k (by omega)) (fun k hk => h.moves k (by omega))
end Go.Proofs.Lens
