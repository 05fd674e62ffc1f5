/- The plain side of counts by line; that the counts add up. -/
import Derived.Test.YtcklnjjbhngbcaaP4
namespace Go.Proofs.Lens

structure PLc where
  fn : Int
  line : Int
  cnt : Int
instance : Inhabited PLc := ⟨⟨0, 0, 0⟩⟩
def lcC (xs : List PLc) (i j : Nat) : Value := match j with | 0 => .int .i64 (elt xs i).fn | 1 => .int .i64 (elt xs i).line | _ => .int .i64 (elt xs i).cnt
/-- a stands ahead of b. -/
def lcLt (a b : PLc) : Bool := decide (a.fn < b.fn) || (decide (a.fn = b.fn) && decide (a.line < b.line))
theorem lcLt_iff {a b : PLc} : lcLt a b = true ↔ a.fn < b.fn ∨ (a.fn = b.fn ∧ a.line < b.line) := by simp [lcLt]
theorem lcLt_not {a b : PLc} : lcLt a b = false ↔ ¬ (a.fn < b.fn ∨ (a.fn = b.fn ∧ a.line < b.line)) := by rw [← Bool.not_eq_true, lcLt_iff]
theorem lcLt_trans {a b c : PLc} (h1 : lcLt a b = true) (h2 : lcLt b c = true) : lcLt a c = true := by rw [lcLt_iff] at *; omega
def lcIs (fn line : Int) (x : PLc) : Bool := decide (x.fn = fn) && decide (x.line = line)
theorem lcIs_iff {fn line : Int} {x : PLc} : lcIs fn line x = true ↔ x.fn = fn ∧ x.line = line := by simp [lcIs]
def lcUp1 (fn line : Int) (x : PLc) : PLc := if lcIs fn line x = true then ⟨x.fn, x.line, x.cnt + 1⟩ else x
def lcUp (l : List PLc) (fn line : Int) : List PLc := l.map (lcUp1 fn line)
def lcMet (l : List PLc) (fn line : Int) : Bool := l.any (lcIs fn line)
def lcIns (x : PLc) : List PLc → List PLc
  | [] => [x]
  | a :: r => if lcLt a x = true then a :: lcIns x r else x :: a :: r
def lcStep (l : List PLc) (m : PMom) : List PLc :=
  if m.kind ≠ 1 then l else if lcMet l m.fn m.line = true then lcUp l m.fn m.line else lcIns ⟨m.fn, m.line, 1⟩ l
def lcN (ms : List PMom) : Nat → List PLc
  | 0 => []
  | n + 1 => lcStep (lcN ms n) (elt ms n)
def lcP (t : PTr) : List PLc := if soundP t = true then lcN t.moms t.moms.length else []
def LcSorted (l : List PLc) : Prop := l.Pairwise fun a b => lcLt a b = true
theorem lcUp1_fn (fn line : Int) (x : PLc) : (lcUp1 fn line x).fn = x.fn := by unfold lcUp1; split <;> rfl
theorem lcUp1_line (fn line : Int) (x : PLc) : (lcUp1 fn line x).line = x.line := by unfold lcUp1; split <;> rfl
theorem lcUp1_lt (fn line : Int) (a b : PLc) : lcLt (lcUp1 fn line a) (lcUp1 fn line b) = lcLt a b := by
  unfold lcLt; rw [lcUp1_fn, lcUp1_fn, lcUp1_line, lcUp1_line]
theorem lcUp_sorted {l : List PLc} (h : LcSorted l) (fn line : Int) : LcSorted (lcUp l fn line) := by
  unfold LcSorted lcUp
  rw [List.pairwise_map]
  exact h.imp fun hab => by rw [lcUp1_lt]; exact hab
theorem lcIns_mem {x y : PLc} : ∀ {l : List PLc}, y ∈ lcIns x l ↔ y = x ∨ y ∈ l
  | [] => by simp [lcIns]
  | a :: r => by
    unfold lcIns
    split
    · rw [List.mem_cons, lcIns_mem, List.mem_cons]
      constructor
      · rintro (h | h | h)
        · exact .inr (.inl h)
        · exact .inl h
        · exact .inr (.inr h)
      · rintro (h | h | h)
        · exact .inr (.inl h)
        · exact .inl h
        · exact .inr (.inr h)
    · simp [List.mem_cons]
theorem lcIns_len (x : PLc) : ∀ l : List PLc, (lcIns x l).length = l.length + 1
  | [] => rfl
  | a :: r => by unfold lcIns; split <;> simp [lcIns_len x r]
theorem lcIns_sorted {x : PLc} : ∀ {l : List PLc}, LcSorted l → (∀ y ∈ l, ¬ (y.fn = x.fn ∧ y.line = x.line)) → LcSorted (lcIns x l)
  | [], _, _ => by simp [lcIns, LcSorted]
  | a :: r, h, hn => by
    obtain ⟨h1, h2⟩ := List.pairwise_cons.1 h
    unfold lcIns
    split
    · rename_i hax
      refine List.pairwise_cons.2 ⟨fun y hy => ?_, lcIns_sorted h2 fun y hy => hn y (List.mem_cons_of_mem _ hy)⟩
      rcases lcIns_mem.1 hy with rfl | hy
      · exact hax
      · exact h1 y hy
    · rename_i hax
      have hxa : lcLt x a = true := by
        have := hn a (List.mem_cons_self ..)
        rw [lcLt_iff] at hax ⊢
        omega
      refine List.pairwise_cons.2 ⟨fun y hy => ?_, h⟩
      rcases List.mem_cons.1 hy with rfl | hy
      · exact hxa
      · exact lcLt_trans hxa (h1 y hy)
theorem lcMet_false {l : List PLc} {fn line : Int} (h : lcMet l fn line = false) : ∀ y ∈ l, ¬ (y.fn = fn ∧ y.line = line) := by
  intro y hy hh
  unfold lcMet at h
  rw [List.any_eq_false] at h
  exact h y hy (lcIs_iff.2 hh)
theorem lcStep_sorted {l : List PLc} (h : LcSorted l) (m : PMom) : LcSorted (lcStep l m) := by
  unfold lcStep
  split
  · exact h
  · split
    · exact lcUp_sorted h _ _
    · rename_i hm
      exact lcIns_sorted h (lcMet_false (by simpa using hm))
theorem lcN_sorted (ms : List PMom) : ∀ n, LcSorted (lcN ms n)
  | 0 => List.Pairwise.nil
  | n + 1 => lcStep_sorted (lcN_sorted ms n) _
theorem lcN_len (ms : List PMom) : ∀ n, (lcN ms n).length ≤ n
  | 0 => by simp [lcN]
  | n + 1 => by
    have ih := lcN_len ms n
    show (lcStep (lcN ms n) (elt ms n)).length ≤ n + 1
    unfold lcStep
    split
    · omega
    · split
      · unfold lcUp; rw [List.length_map]; omega
      · rw [lcIns_len]; omega
/-- How often a line of a fn was begun. -/
def lcK (ms : List PMom) (fn line : Int) : Nat → Int
  | 0 => 0
  | n + 1 => if (elt ms n).kind = 1 ∧ (elt ms n).fn = fn ∧ (elt ms n).line = line then lcK ms fn line n + 1 else lcK ms fn line n
theorem lcK_bd (ms : List PMom) (fn line : Int) : ∀ n, 0 ≤ lcK ms fn line n ∧ lcK ms fn line n ≤ n
  | 0 => by simp [lcK]
  | n + 1 => by have := lcK_bd ms fn line n; unfold lcK; split <;> omega
/-- What the list holds: of each line that was begun, how often. -/
theorem lcN_mem (ms : List PMom) : ∀ n x, x ∈ lcN ms n ↔ (x.cnt = lcK ms x.fn x.line n ∧ 0 < x.cnt)
  | 0, x => by
    simp only [lcN, lcK, List.not_mem_nil, false_iff]
    omega
  | n + 1, x => by
    have ih := lcN_mem ms n
    have hk := lcK_bd ms x.fn x.line n
    show x ∈ lcStep (lcN ms n) (elt ms n) ↔ _
    generalize hm : elt ms n = m
    unfold lcStep
    simp only [lcK]
    rw [hm]
    by_cases k1 : m.kind ≠ 1
    · rw [if_pos k1, if_neg (fun hh => k1 hh.1)]; exact ih x
    have k1 : m.kind = 1 := Decidable.not_not.1 k1
    rw [if_neg (by rw [k1]; simp)]
    by_cases hmet : lcMet (lcN ms n) m.fn m.line = true
    · rw [if_pos hmet]
      unfold lcUp
      rw [List.mem_map]
      by_cases hx : m.fn = x.fn ∧ m.line = x.line
      · rw [if_pos ⟨k1, hx⟩]
        constructor
        · rintro ⟨y, hy, rfl⟩
          rw [lcUp1_fn, lcUp1_line] at hx
          have hy' := (ih y).1 hy
          rw [lcUp1_fn, lcUp1_line]
          unfold lcUp1
          rw [if_pos (lcIs_iff.2 ⟨hx.1.symm, hx.2.symm⟩)]
          dsimp only
          omega
        · rintro ⟨e1, e2⟩
          refine ⟨⟨x.fn, x.line, x.cnt - 1⟩, (ih _).2 ⟨by dsimp only; omega, ?_⟩, ?_⟩
          · dsimp only
            obtain ⟨y, hy, hy2⟩ := List.any_eq_true.1 hmet
            have h3 := (ih y).1 hy
            have h4 := lcIs_iff.1 hy2
            rw [show y.fn = x.fn by omega, show y.line = x.line by omega] at h3
            omega
          · have hi : lcIs m.fn m.line ⟨x.fn, x.line, x.cnt - 1⟩ = true := lcIs_iff.2 ⟨hx.1.symm, hx.2.symm⟩
            unfold lcUp1
            rw [if_pos hi]
            obtain ⟨a, b, c⟩ := x
            dsimp only
            congr 1
            omega
      · rw [if_neg (fun hh => hx hh.2)]
        constructor
        · rintro ⟨y, hy, rfl⟩
          rw [lcUp1_fn, lcUp1_line] at hx
          have : lcUp1 m.fn m.line y = y := by
            unfold lcUp1
            rw [if_neg (fun hh => hx ⟨(lcIs_iff.1 hh).1.symm, (lcIs_iff.1 hh).2.symm⟩)]
          rw [this]
          exact (ih y).1 hy
        · intro hh
          refine ⟨x, (ih x).2 hh, ?_⟩
          unfold lcUp1
          rw [if_neg (fun hh => hx ⟨(lcIs_iff.1 hh).1.symm, (lcIs_iff.1 hh).2.symm⟩)]
    · rw [if_neg hmet, lcIns_mem]
      have hno := lcMet_false (by simpa using hmet : lcMet (lcN ms n) m.fn m.line = false)
      have h0 : lcK ms m.fn m.line n = 0 := by
        by_cases hz : lcK ms m.fn m.line n = 0
        · exact hz
        · exfalso
          have hb := lcK_bd ms m.fn m.line n
          exact hno _ ((ih ⟨m.fn, m.line, lcK ms m.fn m.line n⟩).2 ⟨rfl, by dsimp only; omega⟩) ⟨rfl, rfl⟩
      by_cases hx : m.fn = x.fn ∧ m.line = x.line
      · rw [if_pos ⟨k1, hx⟩]
        constructor
        · rintro (rfl | hh)
          · dsimp only; omega
          · exact absurd ⟨hx.1.symm, hx.2.symm⟩ (hno x hh)
        · rintro ⟨e1, e2⟩
          left
          rw [hx.1, hx.2] at h0
          obtain ⟨a, b, c⟩ := x
          dsimp only at e1 hx h0 ⊢
          rw [hx.1, hx.2]
          congr 1
          omega
      · rw [if_neg (fun hh => hx hh.2), ← ih x]
        constructor
        · rintro (rfl | hh)
          · exact absurd ⟨rfl, rfl⟩ hx
          · exact hh
        · exact .inr
/-- There is one strictly ascending list of what is given. -/
theorem lcSorted_one : ∀ {l r : List PLc}, LcSorted l → LcSorted r → (∀ x, x ∈ l ↔ x ∈ r) → l = r
  | [], [], _, _, _ => rfl
  | [], b :: r, _, _, h => absurd ((h b).2 (List.mem_cons_self ..)) (by simp)
  | a :: l, [], _, _, h => absurd ((h a).1 (List.mem_cons_self ..)) (by simp)
  | a :: l, b :: r, h1, h2, h => by
    obtain ⟨a1, a2⟩ := List.pairwise_cons.1 h1
    obtain ⟨b1, b2⟩ := List.pairwise_cons.1 h2
    have hirr : ∀ x y : PLc, lcLt x y = true → lcLt y x = true → False := fun x y p q => by rw [lcLt_iff] at p q; omega
    have hab : a = b := by
      rcases List.mem_cons.1 ((h a).1 (List.mem_cons_self ..)) with e | ha
      · exact e
      · rcases List.mem_cons.1 ((h b).2 (List.mem_cons_self ..)) with e | hb
        · exact e.symm
        · exact (hirr _ _ (a1 b hb) (b1 a ha)).elim
    subst hab
    have hne : ∀ {q : List PLc}, (∀ y ∈ q, lcLt a y = true) → a ∉ q := fun hq hh => hirr a a (hq a hh) (hq a hh)
    congr 1
    refine lcSorted_one a2 b2 fun x => ?_
    constructor
    · intro hx
      rcases List.mem_cons.1 ((h x).1 (List.mem_cons_of_mem _ hx)) with rfl | hh
      · exact absurd hx (hne a1)
      · exact hh
    · intro hx
      rcases List.mem_cons.1 ((h x).2 (List.mem_cons_of_mem _ hx)) with rfl | hh
      · exact absurd hx (hne b1)
      · exact hh
/-- The way from the end: where an element comes to stand. -/
theorem lcIns_at {x : PLc} : ∀ {l : List PLc} {k : Nat}, k ≤ l.length → (∀ y ∈ l.take k, lcLt y x = true) → (∀ y ∈ (l.drop k).head?, lcLt y x = false) → lcIns x l = l.take k ++ x :: l.drop k
  | [], k, h, _, _ => by simp [lcIns]
  | a :: r, 0, _, _, h2 => by
    have := h2 a (by simp)
    unfold lcIns
    rw [if_neg (by rw [this]; simp)]; simp
  | a :: r, k + 1, h, h1, h2 => by
    unfold lcIns
    rw [if_pos (h1 a (by simp))]
    rw [lcIns_at (l := r) (k := k) (by simpa using h) (fun y hy => h1 y (by simp [hy])) (by simpa using h2)]
    simp

/-! ### sums -/
def sumI {α : Type} (f : α → Int) (l : List α) : Int := (l.map f).sum
theorem sumI_nil {α : Type} (f : α → Int) : sumI f [] = 0 := rfl
theorem sumI_cons {α : Type} (f : α → Int) (a : α) (l : List α) : sumI f (a :: l) = f a + sumI f l := by simp [sumI]
theorem sumI_app {α : Type} (f : α → Int) (a b : List α) : sumI f (a ++ b) = sumI f a + sumI f b := by
  induction a with
  | nil => simp [sumI]
  | cons x r ih => rw [List.cons_append, sumI_cons, sumI_cons, ih]; omega
def lnN (ms : List PMom) : Nat → Int
  | 0 => 0
  | n + 1 => if (elt ms n).kind = 1 then lnN ms n + 1 else lnN ms n
def clN (ms : List PMom) : Nat → Int
  | 0 => 1
  | n + 1 => if (elt ms n).kind = 2 then clN ms n + 1 else clN ms n
theorem lnN_bd (ms : List PMom) : ∀ n, 0 ≤ lnN ms n ∧ lnN ms n ≤ n
  | 0 => by simp [lnN]
  | n + 1 => by have := lnN_bd ms n; unfold lnN; split <;> omega
theorem clN_bd (ms : List PMom) : ∀ n, 1 ≤ clN ms n ∧ clN ms n ≤ n + 1
  | 0 => by simp [clN]
  | n + 1 => by have := clN_bd ms n; unfold clN; split <;> omega
theorem lcUp_none {l : List PLc} {fn line : Int} (h : ∀ y ∈ l, ¬ (y.fn = fn ∧ y.line = line)) : lcUp l fn line = l := by
  unfold lcUp
  refine (List.map_congr_left fun y hy => ?_).trans (List.map_id l)
  unfold lcUp1
  rw [if_neg (fun hh => h y hy (lcIs_iff.1 hh))]; rfl
theorem lcUp_sum {fn line : Int} : ∀ {l : List PLc}, LcSorted l → lcMet l fn line = true → sumI PLc.cnt (lcUp l fn line) = sumI PLc.cnt l + 1
  | [], _, h => by simp [lcMet] at h
  | a :: r, hs, h => by
    obtain ⟨a1, a2⟩ := List.pairwise_cons.1 hs
    show sumI PLc.cnt (lcUp1 fn line a :: lcUp r fn line) = _
    rw [sumI_cons, sumI_cons]
    by_cases ha : lcIs fn line a = true
    · have hr : lcUp r fn line = r := lcUp_none fun y hy hh => by
        have h1 := a1 y hy
        have h2 := lcIs_iff.1 ha
        rw [lcLt_iff] at h1
        omega
      rw [hr]
      unfold lcUp1
      rw [if_pos ha]
      dsimp only
      omega
    · have hm : lcMet r fn line = true := by
        unfold lcMet at h ⊢
        simpa [ha] using h
      rw [lcUp_sum a2 hm]
      unfold lcUp1
      rw [if_neg ha]
      omega
theorem lcIns_sum (x : PLc) : ∀ l : List PLc, sumI PLc.cnt (lcIns x l) = x.cnt + sumI PLc.cnt l
  | [] => by simp [lcIns, sumI]
  | a :: r => by
    unfold lcIns
    split
    · rw [sumI_cons, sumI_cons, lcIns_sum x r]; omega
    · rw [sumI_cons]
theorem lcN_sum (ms : List PMom) : ∀ n, sumI PLc.cnt (lcN ms n) = lnN ms n
  | 0 => rfl
  | n + 1 => by
    have ih := lcN_sum ms n
    show sumI PLc.cnt (lcStep (lcN ms n) (elt ms n)) = _
    unfold lcStep lnN
    by_cases k1 : (elt ms n).kind = 1
    · rw [if_neg (by rw [k1]; simp), if_pos k1]
      split
      · rename_i h; rw [lcUp_sum (lcN_sorted ms n) h, ih]
      · rw [lcIns_sum, ih]; dsimp only; omega
    · rw [if_pos k1, if_neg k1]; exact ih
/-- Sums over the fns. -/
def sumF (f : Nat → Int) : Nat → Int
  | 0 => 0
  | n + 1 => sumF f n + f n
theorem sumF_bump (f : Nat → Int) (i : Int) : ∀ n, 0 ≤ i → sumF (bump f i) n = sumF f n + if i < n then 1 else 0
  | 0, h => by rw [if_neg (by omega)]; rfl
  | n + 1, h => by
    rw [sumF, sumF, sumF_bump f i n h]
    unfold bump
    by_cases h1 : (n : Int) = i
    · rw [if_pos h1, if_neg (by omega), if_pos (by omega)]; omega
    · rw [if_neg h1]
      by_cases h2 : i < n
      · rw [if_pos h2, if_pos (by omega)]; omega
      · rw [if_neg h2, if_neg (by omega)]; omega
theorem mom_fn' {nf : Nat} {m : PMom} (h : momOk nf m = true) : 0 ≤ m.fn ∧ m.fn ≤ (nf : Int) - 1 := by
  simp only [momOk, momHd, Bool.and_eq_true] at h
  exact inB_true.1 h.1.1.1.1.1.2
theorem fc_sums {t : PTr} (h : Sound t) (hf : 0 < t.fns.length) : ∀ n, n ≤ t.moms.length → sumF (fcN t.moms n).slf t.fns.length = lnN t.moms n ∧ sumF (fcN t.moms n).cal t.fns.length = clN t.moms n
  | 0, _ => by
    have h0 : ∀ k, sumF (fun _ => (0 : Int)) k = 0 := fun k => by induction k with | zero => rfl | succ k ih => rw [sumF, ih]; rfl
    have h1 : ∀ k, sumF (fun j => if j = 0 then (1 : Int) else 0) (k + 1) = 1 := fun k => by
      induction k with
      | zero => rfl
      | succ k ih => rw [sumF, ih]; simp
    refine ⟨h0 _, ?_⟩
    obtain ⟨k, hk⟩ : ∃ k, t.fns.length = k + 1 := ⟨t.fns.length - 1, by omega⟩
    rw [hk]
    exact h1 k
  | n + 1, hn => by
    obtain ⟨i1, i2⟩ := fc_sums h hf n (by omega)
    have hm := mom_fn' (h.moms n (by omega))
    simp only [fcN, fcStep, lnN, clN]
    by_cases k2 : (elt t.moms n).kind = 2
    · rw [if_pos k2, if_pos k2, if_neg (by omega)]
      refine ⟨i1, ?_⟩
      dsimp only
      rw [sumF_bump _ _ _ hm.1, i2, if_pos (by omega)]
    · rw [if_neg k2, if_neg k2]
      by_cases k1 : (elt t.moms n).kind = 1
      · rw [if_pos k1, if_pos k1]
        refine ⟨?_, i2⟩
        dsimp only
        rw [sumF_bump _ _ _ hm.1, i1, if_pos (by omega)]
      · rw [if_neg k1, if_neg k1]; exact ⟨i1, i2⟩
/-- A line is begun in a fn that is open. -/
theorem line_open {s : PS} {m : PMom} {n : Nat} (hc : checkP s m = 0) (hk : m.kind = 1) (j : Nat) (hj : m.fn = (j : Int)) : openIn (stepP s m n).top j = true := by
  unfold checkP at hc
  rw [if_neg (by omega)] at hc
  by_cases ht : m.task ≠ s.cur
  · rw [if_pos ht] at hc; cases hc
  rw [if_neg ht, if_neg (by omega)] at hc
  unfold stepP
  rw [if_neg (by omega), if_neg (by omega), if_neg (by omega), if_pos hk]
  cases hs : s.top with
  | nil =>
    rw [hs] at hc
    dsimp only at hc
    rw [if_pos (by omega)] at hc
    cases hc
  | cons f r =>
    rw [hs] at hc
    dsimp only at hc ⊢
    by_cases hf : m.fn ≠ f.fn ∨ (m.kind = 3 ∧ f.frm = -1)
    · rw [if_pos hf] at hc; cases hc
    · have : f.fn = (j : Int) := by omega
      simp [PS.top, PS.put, openIn, this]
theorem fc_tot {t : PTr} (h : Sound t) (j : Nat) : ∀ n, n ≤ t.moms.length → (fcN t.moms n).slf j ≤ (fcN t.moms n).tot j ∧ (fcN t.moms n).tot j ≤ lnN t.moms n
  | 0, _ => by simp [fcN, fc0, lnN]
  | n + 1, hn => by
    obtain ⟨i1, i2⟩ := fc_tot h j n (by omega)
    simp only [fcN, fcStep, lnN]
    by_cases k2 : (elt t.moms n).kind = 2
    · rw [if_pos k2, if_neg (by omega)]; exact ⟨i1, i2⟩
    · rw [if_neg k2]
      by_cases k1 : (elt t.moms n).kind = 1
      · rw [if_pos k1, if_pos k1]
        dsimp only
        unfold bump bumpAll
        by_cases hj : (j : Int) = (elt t.moms n).fn
        · have ho : openIn (stN t.moms (n + 1)).top j = true := line_open (h.moves n (by omega)) k1 j hj.symm
          rw [if_pos hj, if_pos ho]; omega
        · rw [if_neg hj]
          split <;> omega
      · rw [if_neg k1, if_neg k1]; exact ⟨i1, i2⟩
/-- The tree. -/
theorem sum_modify {α : Type} (f : α → Int) (g : α → α) (hg : ∀ x, f (g x) = f x + 1) : ∀ (l : List α) (i : Nat), i < l.length → sumI f (l.modify i g) = sumI f l + 1
  | [], i, h => by simp at h
  | a :: r, 0, _ => by
    show sumI f (g a :: r) = _
    rw [sumI_cons, sumI_cons, hg]; omega
  | a :: r, i + 1, h => by
    show sumI f (a :: r.modify i g) = _
    rw [sumI_cons, sumI_cons, sum_modify f g hg r i (by simpa using h)]; omega
theorem sum_modify0 {α : Type} (f : α → Int) (g : α → α) (hg : ∀ x, f (g x) = f x) : ∀ (l : List α) (i : Nat), sumI f (l.modify i g) = sumI f l
  | [], i => by simp
  | a :: r, 0 => by
    show sumI f (g a :: r) = _
    rw [sumI_cons, sumI_cons, hg]
  | a :: r, i + 1 => by
    show sumI f (a :: r.modify i g) = _
    rw [sumI_cons, sumI_cons, sum_modify0 f g hg r i]
theorem brAdd_cal (br : List PBr) (p fn : Int) : sumI PBr.cal (brAdd br p fn) = sumI PBr.cal br ∧ sumI PBr.slf (brAdd br p fn) = sumI PBr.slf br := by
  unfold brAdd
  split
  · exact ⟨rfl, rfl⟩
  · rw [sumI_app, sumI_app]; simp [sumI]
/-- What FnCounts reads of the tree. -/
structure CtOk (br : List PBr) : Prop where
  par : ∀ i, i < br.length → (elt br i).par < i
  cal : ∀ i, i < br.length → 1 ≤ (elt br i).cal
theorem ct_sums {t : PTr} (h : Sound t) : ∀ n, n ≤ t.moms.length → sumI PBr.slf (ctN t.moms n).br = lnN t.moms n ∧ sumI PBr.cal (ctN t.moms n).br = clN t.moms n ∧ CtOk (ctN t.moms n).br
  | 0, _ => by
    refine ⟨rfl, rfl, fun i hi => ?_, fun i hi => ?_⟩
    · obtain rfl : i = 0 := by simp [ctN, ct0] at hi; omega
      simp [ctN, ct0, elt]
    · obtain rfl : i = 0 := by simp [ctN, ct0] at hi; omega
      simp [ctN, ct0, elt]
  | n + 1, hn => by
    obtain ⟨i1, i2, i3, i4⟩ := ct_sums h n (by omega)
    have hinv := h.ctInv n (by omega)
    have hmv := h.moves n (by omega)
    generalize hc : ctN t.moms n = c at i1 i2 i3 i4 hinv
    show sumI PBr.slf (ctStep (ctN t.moms n) (elt t.moms n) (stN t.moms n).cur).br = _ ∧ sumI PBr.cal (ctStep (ctN t.moms n) (elt t.moms n) (stN t.moms n).cur).br = _ ∧ CtOk (ctStep (ctN t.moms n) (elt t.moms n) (stN t.moms n).cur).br
    rw [hc]
    generalize hm : elt t.moms n = m at hmv
    generalize hs : stN t.moms n = s at hinv hmv
    unfold ctStep
    simp only [lnN, clN]
    rw [hm]
    by_cases k2 : m.kind = 2
    · rw [if_pos k2, if_pos k2, if_neg (by omega)]
      dsimp only
      have hlt := brAt_lt_add c.br (ctPar (c.stk s.cur)) m.fn
      obtain ⟨b1, b2⟩ := brAdd_cal c.br (ctPar (c.stk s.cur)) m.fn
      refine ⟨?_, ?_, fun i hi => ?_, fun i hi => ?_⟩
      · unfold brCal
        rw [sum_modify0 PBr.slf (fun b => ⟨b.fn, b.par, b.cal + 1, b.slf⟩) (fun x => rfl), b2, i1]
      · unfold brCal
        rw [sum_modify PBr.cal (fun b => ⟨b.fn, b.par, b.cal + 1, b.slf⟩) (fun x => rfl) _ _ hlt, b1, i2]
      · rw [brCal_len] at hi
        have hpar : ctPar (c.stk s.cur) < c.br.length := by
          unfold ctPar
          cases hstk : c.stk s.cur with
          | nil => have := hinv.pos; dsimp only; omega
          | cons x r => have := hinv.idx s.cur x (by rw [hstk]; simp); dsimp only; omega
        have e : (elt (brCal (brAdd c.br (ctPar (c.stk s.cur)) m.fn) (brAt c.br (ctPar (c.stk s.cur)) m.fn)) i).par = (elt (brAdd c.br (ctPar (c.stk s.cur)) m.fn) i).par := by
          unfold brCal
          rw [elt_modify _ _ _ _ hi]
          split <;> rfl
        rw [e]
        by_cases h1 : i < c.br.length
        · rw [brAdd_elt _ _ _ h1]; exact i3 i h1
        · unfold brAdd at hi ⊢
          split at hi
          · exact absurd hi h1
          · rename_i h2
            obtain rfl : i = c.br.length := by simp at hi; omega
            rw [if_neg h2, elt_eq (by simp)]
            simp; omega
      · rw [brCal_len] at hi
        unfold brCal
        rw [elt_modify _ _ _ _ hi]
        by_cases h1 : i < c.br.length
        · rw [brAdd_elt _ _ _ h1]
          have := i4 i h1
          split
          · dsimp only; omega
          · omega
        · unfold brAdd at hi ⊢
          split at hi
          · exact absurd hi h1
          · rename_i h2
            have hle := brAt_le c.br (ctPar (c.stk s.cur)) m.fn
            obtain rfl : i = c.br.length := by simp at hi; omega
            rw [if_neg h2, if_pos (by omega), elt_eq (by simp)]
            simp
    · rw [if_neg k2, if_neg k2]
      by_cases k3 : m.kind = 3
      · rw [if_pos k3, if_neg (by omega)]; exact ⟨i1, i2, i3, i4⟩
      · rw [if_neg k3]
        by_cases k1 : m.kind = 1
        · rw [if_pos k1, if_pos k1]
          dsimp only
          have hidx : (c.stk s.cur).headD 0 < c.br.length := by
            cases hstk : c.stk s.cur with
            | nil => exact hinv.pos
            | cons x r => exact hinv.idx s.cur x (by rw [hstk]; simp)
          refine ⟨?_, ?_, fun i hi => ?_, fun i hi => ?_⟩
          · unfold brSlf
            rw [sum_modify PBr.slf (fun b => ⟨b.fn, b.par, b.cal, b.slf + 1⟩) (fun x => rfl) _ _ hidx, i1]
          · unfold brSlf
            rw [sum_modify0 PBr.cal (fun b => ⟨b.fn, b.par, b.cal, b.slf + 1⟩) (fun x => rfl), i2]
          · rw [brSlf_len] at hi
            unfold brSlf
            rw [elt_modify _ _ _ _ hi]
            have := i3 i hi
            split <;> exact this
          · rw [brSlf_len] at hi
            unfold brSlf
            rw [elt_modify _ _ _ _ hi]
            have := i4 i hi
            split <;> exact this
        · rw [if_neg k1, if_neg k1]; exact ⟨i1, i2, i3, i4⟩
/-- Sums as the law's loops make them. -/
theorem sumI_take {α : Type} [Inhabited α] (f : α → Int) (l : List α) {i : Nat} (h : i < l.length) : sumI f (l.take (i + 1)) = sumI f (l.take i) + f (elt l i) := by
  rw [take_snoc h, sumI_app, sumI_cons, sumI_nil]; omega
theorem sumI_range (f : Nat → Int) (g : Nat → PFc) (h : PFc → Int) (hg : ∀ i, h (g i) = f i) : ∀ n, sumI h ((List.range n).map g) = sumF f n
  | 0 => rfl
  | n + 1 => by
    rw [List.range_succ, List.map_append, sumI_app, sumI_range f g h hg n]
    simp [sumI, sumF, hg]
end Go.Proofs.Lens
