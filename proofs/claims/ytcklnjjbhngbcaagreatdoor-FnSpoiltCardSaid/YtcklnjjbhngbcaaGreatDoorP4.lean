/- The plain side of the tree of calls. -/
import Derived.Test.YtcklnjjbhngbcaaGreatDoorP3
namespace Go.Proofs.Lens

structure PBr where
  fn : Int
  par : Int
  cal : Int
  slf : Int
instance : Inhabited PBr := ⟨⟨0, 0, 0, 0⟩⟩
def brC (xs : List PBr) (i j : Nat) : Value := match j with | 0 => .int .i64 (elt xs i).fn | 1 => .int .i64 (elt xs i).par | 2 => .int .i64 (elt xs i).cal | _ => .int .i64 (elt xs i).slf
def brIs (p fn : Int) (b : PBr) : Bool := decide (b.par = p) && decide (b.fn = fn)
def brAt (br : List PBr) (p fn : Int) : Nat := br.findIdx (brIs p fn)
/-- The branch is there, or comes behind the others. -/
def brAdd (br : List PBr) (p fn : Int) : List PBr := if brAt br p fn < br.length then br else br ++ [⟨fn, p, 0, 0⟩]
def brCal (br : List PBr) (i : Nat) : List PBr := br.modify i fun b => ⟨b.fn, b.par, b.cal + 1, b.slf⟩
def brSlf (br : List PBr) (i : Nat) : List PBr := br.modify i fun b => ⟨b.fn, b.par, b.cal, b.slf + 1⟩
theorem elt_modify {α : Type} [Inhabited α] (xs : List α) (i j : Nat) (f : α → α) (h : j < xs.length) : elt (xs.modify i f) j = if j = i then f (elt xs j) else elt xs j := by
  rw [elt_eq (by simpa using h), elt_eq h, List.getElem_modify]
  by_cases hij : i = j
  · rw [if_pos hij, if_pos hij.symm]
  · rw [if_neg hij, if_neg (Ne.symm hij)]
theorem brCal_len (br : List PBr) (i : Nat) : (brCal br i).length = br.length := by simp [brCal]
theorem brSlf_len (br : List PBr) (i : Nat) : (brSlf br i).length = br.length := by simp [brSlf]
theorem brAt_le (br : List PBr) (p fn : Int) : brAt br p fn ≤ br.length := List.findIdx_le_length
theorem brAt_lt_add (br : List PBr) (p fn : Int) : brAt br p fn < (brAdd br p fn).length := by
  unfold brAdd
  have := brAt_le br p fn
  split
  · assumption
  · simp; omega
theorem brAdd_len (br : List PBr) (p fn : Int) : br.length ≤ (brAdd br p fn).length ∧ (brAdd br p fn).length ≤ br.length + 1 := by
  unfold brAdd; split <;> simp
structure CT where
  br : List PBr
  stk : Int → List Nat
def CT.put (c : CT) (cur : Int) (l : List Nat) : Int → List Nat := fun i => if i = cur then l else c.stk i
def ctPar (l : List Nat) : Int := match l with | [] => -1 | i :: _ => i
def ctStep (c : CT) (m : PMom) (cur : Int) : CT :=
  if m.kind = 2 then ⟨brCal (brAdd c.br (ctPar (c.stk cur)) m.fn) (brAt c.br (ctPar (c.stk cur)) m.fn), c.put cur (brAt c.br (ctPar (c.stk cur)) m.fn :: c.stk cur)⟩
  else if m.kind = 3 then ⟨c.br, c.put cur (c.stk cur).tail⟩
  else if m.kind = 1 then ⟨brSlf c.br ((c.stk cur).headD 0), c.stk⟩
  else c
def ct0 : CT := ⟨[⟨0, -1, 1, 0⟩], fun i => if i = 0 then [0] else []⟩
def ctN (ms : List PMom) : Nat → CT
  | 0 => ct0
  | n + 1 => ctStep (ctN ms n) (elt ms n) (stN ms n).cur
def ctP (t : PTr) : List PBr := if soundP t = true then (ctN t.moms t.moms.length).br else []
/-- What holds all along. -/
structure CtInv (c : CT) (s : PS) (n : Nat) : Prop where
  len : ∀ i, (c.stk i).length = (s.stk i).length
  idx : ∀ i x, x ∈ c.stk i → x < c.br.length
  max : c.br.length ≤ n + 1
  pos : 0 < c.br.length
  bd : ∀ i, i < c.br.length → (0 ≤ (elt c.br i).cal ∧ (elt c.br i).cal ≤ n + 1) ∧ (0 ≤ (elt c.br i).slf ∧ (elt c.br i).slf ≤ n + 1)
theorem ctInv0 : CtInv ct0 ps0 0 := by
  refine ⟨fun i => ?_, fun i x hx => ?_, by simp [ct0], by simp [ct0], fun i hi => ?_⟩
  · simp only [ct0, ps0]; split <;> simp
  · simp only [ct0] at hx ⊢
    split at hx
    · simp at hx; subst hx; simp
    · cases hx
  · obtain rfl : i = 0 := by simp [ct0] at hi; omega
    simp [ct0, elt]
theorem brAdd_elt (br : List PBr) (p fn : Int) {i : Nat} (h : i < br.length) : elt (brAdd br p fn) i = elt br i := by
  unfold brAdd
  split
  · rfl
  · rw [elt_eq (by simp; omega), elt_eq h, List.getElem_append_left h]
theorem brAdd_bd {br : List PBr} {p fn : Int} {n : Int} (hn : 0 ≤ n) (h : ∀ i, i < br.length → (0 ≤ (elt br i).cal ∧ (elt br i).cal ≤ n) ∧ (0 ≤ (elt br i).slf ∧ (elt br i).slf ≤ n)) :
    ∀ i, i < (brAdd br p fn).length → (0 ≤ (elt (brAdd br p fn) i).cal ∧ (elt (brAdd br p fn) i).cal ≤ n) ∧ (0 ≤ (elt (brAdd br p fn) i).slf ∧ (elt (brAdd br p fn) i).slf ≤ n) := by
  intro i hi
  by_cases h1 : i < br.length
  · rw [brAdd_elt _ _ _ h1]; exact h i h1
  · unfold brAdd at hi ⊢
    split at hi
    · exact absurd hi h1
    · rename_i h2
      obtain rfl : i = br.length := by simp at hi; omega
      rw [if_neg h2, elt_eq (by simp)]
      simp [hn]
theorem ctInv_step {c : CT} {s : PS} {n : Nat} {m : PMom} (h : CtInv c s n) (hc : checkP s m = 0) : CtInv (ctStep c m s.cur) (stepP s m n) (n + 1) := by
  obtain ⟨h1, h2, h3, h4, h5⟩ := h
  have e1 : ((n + 1 : Nat) : Int) + 1 = ((n : Int) + 1) + 1 := by omega
  unfold ctStep stepP
  unfold checkP at hc
  by_cases k7 : m.kind = 7
  · rw [if_neg (by omega), if_neg (by omega), if_neg (by omega), if_pos k7]
    exact ⟨h1, h2, by omega, h4, fun i hi => by have := h5 i hi; rw [e1]; omega⟩
  rw [if_neg k7] at hc ⊢
  by_cases hct : m.task ≠ s.cur
  · rw [if_pos hct] at hc; cases hc
  rw [if_neg hct] at hc
  by_cases k2 : m.kind = 2
  · rw [if_pos k2, if_pos k2]
    have hl := brAdd_len c.br (ctPar (c.stk s.cur)) m.fn
    refine ⟨fun i => ?_, fun i x hx => ?_, ?_, ?_, fun i hi => ?_⟩
    · simp only [CT.put, PS.put]
      split
      · simp only [List.length_cons]; rw [h1]; rfl
      · exact h1 i
    · dsimp only
      rw [brCal_len]
      simp only [CT.put] at hx
      split at hx
      · rcases List.mem_cons.1 hx with rfl | hx
        · exact brAt_lt_add _ _ _
        · have := h2 _ x hx; omega
      · have := h2 _ x hx; omega
    · dsimp only; rw [brCal_len]; omega
    · dsimp only; rw [brCal_len]; omega
    · dsimp only at hi ⊢
      rw [brCal_len] at hi
      have hb := brAdd_bd (p := ctPar (c.stk s.cur)) (fn := m.fn) (n := n + 1) (by omega) h5 i hi
      unfold brCal
      rw [elt_modify _ _ _ _ hi, e1]
      split
      · dsimp only; omega
      · omega
  rw [if_neg k2, if_neg k2]
  rw [if_neg k2] at hc
  by_cases k3 : m.kind = 3
  · rw [if_pos k3, if_pos k3]
    refine ⟨fun i => ?_, fun i x hx => ?_, by dsimp only; omega, h4, fun i hi => by have := h5 i hi; rw [e1]; dsimp only; omega⟩
    · simp only [CT.put, PS.put]
      split
      · rw [List.length_tail, List.length_tail, h1]; rfl
      · exact h1 i
    · simp only [CT.put] at hx
      split at hx
      · exact h2 _ x (List.mem_of_mem_tail hx)
      · exact h2 _ x hx
  rw [if_neg k3, if_neg k3]
  by_cases k1 : m.kind = 1
  · rw [if_pos k1, if_pos k1]
    refine ⟨fun i => ?_, fun i x hx => ?_, by dsimp only; rw [brSlf_len]; omega, by dsimp only; rw [brSlf_len]; exact h4, fun i hi => ?_⟩
    · simp only [PS.put]
      split
      · rename_i hi
        subst hi
        rw [h1]
        unfold PS.top
        cases s.stk s.cur <;> rfl
      · exact h1 i
    · dsimp only; rw [brSlf_len]; exact h2 i x hx
    · dsimp only at hi ⊢
      rw [brSlf_len] at hi
      have hb := h5 i hi
      unfold brSlf
      rw [elt_modify _ _ _ _ hi, e1]
      split
      · dsimp only; omega
      · omega
  rw [if_neg k1, if_neg k1]
  exact ⟨h1, h2, by omega, h4, fun i hi => by have := h5 i hi; rw [e1]; omega⟩
theorem Sound.ctInv {t : PTr} (h : Sound t) : ∀ n, n ≤ t.moms.length → CtInv (ctN t.moms n) (stN t.moms n) n
  | 0, _ => ctInv0
  | n + 1, hn => ctInv_step (h.ctInv n (by omega)) (h.moves n (by omega))
/-- The program's map from the moments at which calls were opened: what it must give. -/
def BoOk (bo : Int → Int) (c : CT) (s : PS) : Prop := ∀ i, (c.stk i).map (fun (x : Nat) => (x : Int)) = (s.stk i).map fun f => bo f.frm
theorem boOk0 {bo : Int → Int} (h : bo (-1) = 0) : BoOk bo ct0 ps0 := by
  intro i
  simp only [ct0, ps0]
  split
  · simp [h]
  · rfl
/-- The innermost open call's branch. -/
theorem BoOk.top {bo : Int → Int} {c : CT} {s : PS} (h : BoOk bo c s) {f : PFr} {r : List PFr} (hs : s.top = f :: r) : ∃ x l, c.stk s.cur = x :: l ∧ bo f.frm = (x : Int) := by
  have h1 := h s.cur
  unfold PS.top at hs
  rw [hs] at h1
  cases hc : c.stk s.cur with
  | nil => rw [hc] at h1; cases h1
  | cons x l => rw [hc] at h1; simp at h1; exact ⟨x, l, rfl, h1.1.symm⟩
theorem BoOk.top_nil {bo : Int → Int} {c : CT} {s : PS} (h : BoOk bo c s) (hs : s.top = []) : c.stk s.cur = [] := by
  have h1 := h s.cur
  unfold PS.top at hs
  rw [hs] at h1
  simpa using h1
theorem boOk_step {bo bo' : Int → Int} {c : CT} {s : PS} {n : Nat} {m : PMom} (h : BoOk bo c s) (hi : Inv s n)
    (hb : ∀ x : Int, x < n → bo' x = bo x) (hn : m.kind = 2 → bo' n = (brAt c.br (ctPar (c.stk s.cur)) m.fn : Nat)) : BoOk bo' (ctStep c m s.cur) (stepP s m n) := by
  have hold : ∀ i, (c.stk i).map (fun (x : Nat) => (x : Int)) = (s.stk i).map fun f => bo' f.frm := by
    intro i
    rw [h i]
    refine List.map_congr_left fun f hf => ?_
    rw [hb _ (hi.frm i f hf).2]
  intro i
  unfold ctStep stepP
  by_cases k7 : m.kind = 7
  · rw [if_neg (by omega), if_neg (by omega), if_neg (by omega), if_pos k7]; exact hold i
  rw [if_neg k7]
  by_cases k2 : m.kind = 2
  · rw [if_pos k2, if_pos k2]
    simp only [CT.put, PS.put]
    split
    · simp only [List.map_cons]
      rw [hn k2, hold]; rfl
    · exact hold i
  rw [if_neg k2, if_neg k2]
  by_cases k3 : m.kind = 3
  · rw [if_pos k3, if_pos k3]
    simp only [CT.put, PS.put]
    split
    · rw [List.map_tail, List.map_tail, hold]; rfl
    · exact hold i
  rw [if_neg k3, if_neg k3]
  by_cases k1 : m.kind = 1
  · rw [if_pos k1, if_pos k1]
    simp only [PS.put]
    split
    · rename_i hi'
      subst hi'
      rw [hold]
      unfold PS.top
      cases s.stk s.cur <;> rfl
    · exact hold i
  rw [if_neg k1, if_neg k1]
  exact hold i
end Go.Proofs.Lens
