/- The plain side of counts by fn and of the tree of calls. -/
import Derived.Test.YtcklnjjbhngbcaaGreatDoorP2
namespace Go.Proofs.Lens

/-! ### counts by fn -/
structure FC where
  cal : Nat → Int
  slf : Nat → Int
  tot : Nat → Int
def bump (f : Nat → Int) (i : Int) (j : Nat) : Int := if (j : Int) = i then f j + 1 else f j
/-- fn j is among the open calls. -/
def openIn (l : List PFr) (j : Nat) : Bool := l.any fun f => decide (f.fn = (j : Int))
def bumpAll (f : Nat → Int) (l : List PFr) (j : Nat) : Int := if openIn l j = true then f j + 1 else f j
def fcStep (c : FC) (m : PMom) (top : List PFr) : FC :=
  if m.kind = 2 then ⟨bump c.cal m.fn, c.slf, c.tot⟩ else if m.kind = 1 then ⟨c.cal, bump c.slf m.fn, bumpAll c.tot top⟩ else c
def fc0 : FC := ⟨fun j => if j = 0 then 1 else 0, fun _ => 0, fun _ => 0⟩
def fcN (ms : List PMom) : Nat → FC
  | 0 => fc0
  | n + 1 => fcStep (fcN ms n) (elt ms n) (stN ms (n + 1)).top
theorem bump_bd {f : Nat → Int} {i n : Int} {j : Nat} (h : 0 ≤ f j ∧ f j ≤ n) : 0 ≤ bump f i j ∧ bump f i j ≤ n + 1 := by
  unfold bump; split <;> omega
theorem bumpAll_bd {f : Nat → Int} {l : List PFr} {n : Int} {j : Nat} (h : 0 ≤ f j ∧ f j ≤ n) : 0 ≤ bumpAll f l j ∧ bumpAll f l j ≤ n + 1 := by
  unfold bumpAll; split <;> omega
theorem fcN_bd (ms : List PMom) (n j : Nat) : (0 ≤ (fcN ms n).cal j ∧ (fcN ms n).cal j ≤ n + 1) ∧ (0 ≤ (fcN ms n).slf j ∧ (fcN ms n).slf j ≤ n + 1) ∧ (0 ≤ (fcN ms n).tot j ∧ (fcN ms n).tot j ≤ n + 1) := by
  induction n with
  | zero => simp only [fcN, fc0]; refine ⟨?_, by omega, by omega⟩; split <;> omega
  | succ n ih =>
    obtain ⟨h1, h2, h3⟩ := ih
    simp only [fcN, fcStep]
    have e : ((n + 1 : Nat) : Int) + 1 = ((n : Int) + 1) + 1 := by omega
    rw [e]
    split
    · exact ⟨bump_bd h1, by dsimp only; omega, by dsimp only; omega⟩
    · split
      · exact ⟨by dsimp only; omega, bump_bd h2, bumpAll_bd h3⟩
      · exact ⟨by omega, by omega, by omega⟩
theorem openIn_nil (j : Nat) : openIn [] j = false := rfl
theorem openIn_snoc (l : List PFr) (f : PFr) (j : Nat) : openIn (l ++ [f]) j = (openIn l j || decide (f.fn = (j : Int))) := by simp [openIn]
theorem openIn_rev (l : List PFr) (j : Nat) : openIn l.reverse j = openIn l j := by simp [openIn]
theorem bumpAll_nil (f : Nat → Int) (j : Nat) : bumpAll f [] j = f j := by simp [bumpAll, openIn_nil]
theorem bumpAll_rev (f : Nat → Int) (l : List PFr) (j : Nat) : bumpAll f l.reverse j = bumpAll f l j := by unfold bumpAll; rw [openIn_rev]
/-- One more open call, of a fn met before, and of one met first. -/
theorem bumpAll_old {f : Nat → Int} {l : List PFr} {g : PFr} {i : Nat} (hg : g.fn = (i : Int)) (h : openIn l i = true) (j : Nat) : bumpAll f (l ++ [g]) j = bumpAll f l j := by
  unfold bumpAll
  rw [openIn_snoc]
  by_cases hj : g.fn = (j : Int)
  · obtain rfl : i = j := by omega
    rw [h]; simp
  · simp [hj]
theorem bumpAll_new {f : Nat → Int} {l : List PFr} {g : PFr} {i : Nat} (hg : g.fn = (i : Int)) (h : openIn l i = false) (j : Nat) : bumpAll f (l ++ [g]) j = bump (bumpAll f l) i j := by
  unfold bump bumpAll
  rw [openIn_snoc]
  by_cases hj : g.fn = (j : Int)
  · obtain rfl : i = j := by omega
    rw [h]; simp [hg]
  · have : ¬ ((j : Int) = (i : Int)) := by omega
    simp [hj, this]
/-- The counts as the cells of a slice. -/
def fcC (c : FC) (i j : Nat) : Value := match j with | 0 => .int .i64 i | 1 => .int .i64 (c.cal i) | 2 => .int .i64 (c.slf i) | _ => .int .i64 (c.tot i)
structure PFc where
  fn : Int
  cal : Int
  slf : Int
  tot : Int
instance : Inhabited PFc := ⟨⟨0, 0, 0, 0⟩⟩
def fcRow (xs : List PFc) (i j : Nat) : Value := match j with | 0 => .int .i64 (elt xs i).fn | 1 => .int .i64 (elt xs i).cal | 2 => .int .i64 (elt xs i).slf | _ => .int .i64 (elt xs i).tot
def fcList (c : FC) (n : Nat) : List PFc := (List.range n).map fun (i : Nat) => ⟨(i : Int), c.cal i, c.slf i, c.tot i⟩
theorem fcList_len (c : FC) (n : Nat) : (fcList c n).length = n := by simp [fcList]
theorem fcList_elt (c : FC) {n i : Nat} (h : i < n) : elt (fcList c n) i = ⟨i, c.cal i, c.slf i, c.tot i⟩ := by
  rw [elt_eq (by rw [fcList_len]; exact h)]; simp [fcList]
theorem fcList_row (c : FC) {n i j : Nat} (h : i < n) : fcRow (fcList c n) i j = fcC c i j := by
  unfold fcRow fcC
  rw [fcList_elt c h]
def fcP (t : PTr) : List PFc := if soundP t = true then fcList (fcN t.moms t.moms.length) t.fns.length else []
/-- What a sound trace's open calls are of: fns that there are. -/
def fnsIn (s : PS) (nf : Nat) : Prop := ∀ i f, f ∈ s.stk i → 0 ≤ f.fn ∧ f.fn < nf
theorem fnsIn0 {nf : Nat} (h : 0 < nf) : fnsIn ps0 nf := by
  intro i f hf
  simp only [ps0] at hf
  split at hf
  · simp at hf; subst hf; simp; omega
  · cases hf
theorem fnsIn_step {s : PS} {nf n : Nat} {m : PMom} (h : fnsIn s nf) (hm : 0 ≤ m.fn ∧ m.fn < nf) : fnsIn (stepP s m n) nf := by
  have hput : ∀ l : List PFr, (∀ f ∈ l, 0 ≤ f.fn ∧ f.fn < nf) → fnsIn (s.put l) nf := by
    intro l hl i f hf
    simp only [PS.put] at hf
    split at hf
    · exact hl f hf
    · exact h i f hf
  unfold stepP
  split
  · exact h
  · split
    · refine hput _ fun f hf => ?_
      rcases List.mem_cons.1 hf with rfl | hf
      · exact hm
      · exact h _ f hf
    · split
      · exact hput _ fun f hf => h _ f (List.mem_of_mem_tail hf)
      · split
        · refine hput _ fun f hf => ?_
          unfold PS.top at hf
          cases hs : s.stk s.cur with
          | nil => rw [hs] at hf; cases hf
          | cons g r =>
            rw [hs] at hf
            rcases List.mem_cons.1 hf with rfl | hf
            · exact h s.cur g (by rw [hs]; simp)
            · exact h s.cur f (by rw [hs]; simp [hf])
        · exact h
theorem mom_fn {nf : Nat} {m : PMom} (h : momOk nf m = true) : 0 ≤ m.fn ∧ m.fn < nf := by
  simp only [momOk, momHd, Bool.and_eq_true] at h
  have := inB_true.1 h.1.1.1.1.1.2
  omega
theorem Sound.fnsIn {t : PTr} (h : Sound t) (n : Nat) (hn : n ≤ t.moms.length) : fnsIn (stN t.moms n) t.fns.length := by
  induction n with
  | zero =>
    refine fnsIn0 ?_
    have := h.sizes
    simp only [sizesOk, Bool.and_eq_true, decide_eq_true_eq] at this
    omega
  | succ n ih => exact fnsIn_step (ih (by omega)) (mom_fn (h.moms n (by omega)))
end Go.Proofs.Lens
