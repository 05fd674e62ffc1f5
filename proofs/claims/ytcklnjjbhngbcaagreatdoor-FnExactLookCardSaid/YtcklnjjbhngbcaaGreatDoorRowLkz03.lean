/- Lemmas and contracts of functions that the theorem of this claim leans on (texts P5, P3, P4, P6, P7, P8, P9, P15). -/
import Derived.Test.YtcklnjjbhngbcaaGreatDoorRowLkz02
namespace Go.Proofs.Lens

/-- The text of the last variable of a name. -/
def valP (vars : List PVar) (nm : ByteArray) : Option ByteArray :=
  match vars with
  | [] => none
  | v :: r => match valP r nm with | some x => some x | none => if v.nm = nm then some v.tx else none
theorem valP_snoc (l : List PVar) (v : PVar) (nm : ByteArray) : valP (l ++ [v]) nm = if v.nm = nm then some v.tx else valP l nm := by
  induction l with
  | nil => simp [valP]
  | cons u r ih =>
    simp only [List.cons_append, valP, ih]
    by_cases h : v.nm = nm
    · rw [if_pos h, if_pos h]
    · rw [if_neg h, if_neg h]
/-- The open call that a moment shows, and its task. -/
def shownS (ms : List PMom) (k : Nat) : PS := if (elt ms k).kind = 3 then stN ms k else stN ms (k + 1)
def shownP (ms : List PMom) (k : Nat) : Option (Int × PFr) := match (shownS ms k).top with | [] => none | f :: _ => some ((shownS ms k).cur, f)
def watStep (L : Int → Option ByteArray) (sh : Option (Int × PFr)) (v : Option ByteArray) (fn : Int) (i : Int) : Option ByteArray :=
  match sh, v with
  | some (_, f), some tx => if f.fn = fn ∧ i = f.frm then some tx else L i
  | _, _ => L i
def watHit (L : Int → Option ByteArray) (sh : Option (Int × PFr)) (v : Option ByteArray) (fn : Int) : Bool :=
  match sh, v with
  | some (_, f), some tx => decide (f.fn = fn) && decide (L f.frm ≠ some tx)
  | _, _ => false
def watN (ms : List PMom) (nm : ByteArray) (fn : Int) : Nat → Int → Option ByteArray
  | 0 => fun _ => none
  | n + 1 => fun i => watStep (watN ms nm fn n) (shownP ms n) (valP (elt ms n).vars nm) fn i
def holdsP (ms : List PMom) (s : PStop) (k : Nat) : Bool :=
  if s.kind = 1 then decide ((elt ms k).kind = 1) && decide ((elt ms k).fn = s.fn) && decide ((elt ms k).line = s.line)
  else if s.kind = 2 then decide ((elt ms k).kind = 2) && decide ((elt ms k).fn = s.fn)
  else if s.kind = 3 then watHit (watN ms s.nm s.fn k) (shownP ms k) (valP (elt ms k).vars s.nm) s.fn
  else decide ((elt ms k).kind = 4)
/-- The reference's search back, from i - 1 down. -/
def chgP (ms : List PMom) (nm : ByteArray) (tk frm : Int) (now : ByteArray) : Nat → Bool
  | 0 => true
  | i + 1 => if (i : Int) < frm then true else
    match shownP ms i with
    | none => chgP ms nm tk frm now i
    | some (tk', g) => if tk' = tk ∧ g.frm = frm then (match valP (elt ms i).vars nm with | some u => decide (u ≠ now) | none => chgP ms nm tk frm now i) else chgP ms nm tk frm now i
/-- Where an open call comes from says its task and its fn. -/
def Org (ms : List PMom) (s : PS) (n : Nat) : Prop :=
  ∀ i f, f ∈ s.stk i → (f.frm = -1 ∧ i = 0 ∧ f.fn = 0) ∨ ∃ j : Nat, f.frm = (j : Int) ∧ j < n ∧ i = (elt ms j).task ∧ f.fn = (elt ms j).fn
theorem org0 (ms : List PMom) : Org ms ps0 0 := by
  intro i f hf
  simp only [ps0] at hf
  split at hf
  · rename_i h0
    simp at hf; subst hf; exact .inl ⟨rfl, h0, rfl⟩
  · cases hf
theorem org_step {ms : List PMom} {s : PS} {n : Nat} (h : Org ms s n) (hc : checkP s (elt ms n) = 0) : Org ms (stepP s (elt ms n) n) (n + 1) := by
  have hold : Org ms s (n + 1) := fun i f hf => by
    rcases h i f hf with h | ⟨j, h1, h2, h3⟩
    · exact .inl h
    · exact .inr ⟨j, h1, by omega, h3⟩
  have hput : ∀ l : List PFr, (∀ f ∈ l, (f.frm = -1 ∧ s.cur = 0 ∧ f.fn = 0) ∨ ∃ j : Nat, f.frm = (j : Int) ∧ j < n + 1 ∧ s.cur = (elt ms j).task ∧ f.fn = (elt ms j).fn) → Org ms (s.put l) (n + 1) := by
    intro l hl i f hf
    simp only [PS.put] at hf
    split at hf
    · rename_i hi
      subst hi
      exact hl f hf
    · exact hold i f hf
  unfold stepP
  unfold checkP at hc
  by_cases k7 : (elt ms n).kind = 7
  · rw [if_pos k7]; exact hold
  rw [if_neg k7] at hc ⊢
  by_cases hct : (elt ms n).task ≠ s.cur
  · rw [if_pos hct] at hc; cases hc
  split
  · refine hput _ fun f hf => ?_
    rcases List.mem_cons.1 hf with rfl | hf
    · exact .inr ⟨n, rfl, by omega, (Decidable.not_not.1 hct).symm, rfl⟩
    · exact hold s.cur f hf
  · split
    · exact hput _ fun f hf => hold s.cur f (List.mem_of_mem_tail hf)
    · split
      · refine hput _ fun f hf => ?_
        unfold PS.top at hf
        cases hs : s.stk s.cur with
        | nil => rw [hs] at hf; cases hf
        | cons g r =>
          rw [hs] at hf
          rcases List.mem_cons.1 hf with rfl | hf
          · exact hold s.cur g (by rw [hs]; simp)
          · exact hold s.cur f (by rw [hs]; simp [hf])
      · exact hold
theorem Sound.org {t : PTr} (h : Sound t) : ∀ n, n ≤ t.moms.length → Org t.moms (stN t.moms n) n
  | 0, _ => org0 _
  | n + 1, hn => org_step (h.org n (by omega)) (h.moves n (by omega))
theorem Sound.shown {t : PTr} (h : Sound t) {k : Nat} (hk : k < t.moms.length) {tk : Int} {f : PFr} (hs : shownP t.moms k = some (tk, f)) :
    (f.frm = -1 ∧ tk = 0 ∧ f.fn = 0) ∨ ∃ j : Nat, f.frm = (j : Int) ∧ j ≤ k ∧ tk = (elt t.moms j).task ∧ f.fn = (elt t.moms j).fn := by
  have ho : Org t.moms (shownS t.moms k) (k + 1) := by
    unfold shownS
    split
    · intro i f hf
      rcases h.org k (by omega) i f hf with h | ⟨j, h1, h2, h3⟩
      · exact .inl h
      · exact .inr ⟨j, h1, by omega, h3⟩
    · exact h.org (k + 1) (by omega)
  unfold shownP at hs
  cases ht : (shownS t.moms k).top with
  | nil => rw [ht] at hs; cases hs
  | cons g r =>
    rw [ht] at hs
    simp only [Option.some.injEq, Prod.mk.injEq] at hs
    obtain ⟨rfl, rfl⟩ := hs
    unfold PS.top at ht
    rcases ho _ g (by rw [ht]; simp) with h | ⟨j, h1, h2, h3⟩
    · exact .inl h
    · exact .inr ⟨j, h1, by omega, h3⟩
theorem Sound.same {t : PTr} (h : Sound t) {i k : Nat} (hi : i < t.moms.length) (hk : k < t.moms.length) {tk tk' : Int} {f g : PFr} (hs : shownP t.moms k = some (tk, f)) (hg : shownP t.moms i = some (tk', g)) (hf : g.frm = f.frm) :
    tk' = tk ∧ g.fn = f.fn := by
  rcases h.shown hk hs with ⟨a1, a2, a3⟩ | ⟨j, a1, a2, a3, a4⟩ <;> rcases h.shown hi hg with ⟨b1, b2, b3⟩ | ⟨j', b1, b2, b3, b4⟩
  · omega
  · omega
  · omega
  · obtain rfl : j = j' := by omega
    exact ⟨by rw [a3, b3], by rw [a4, b4]⟩
theorem watN_far {t : PTr} (h : Sound t) (nm : ByteArray) (fn : Int) : ∀ (n : Nat), n ≤ t.moms.length → ∀ x : Int, (n : Int) ≤ x → watN t.moms nm fn n x = none
  | 0, _, _, _ => rfl
  | n + 1, hn, x, hx => by
    have ih := watN_far h nm fn n (by omega) x (by omega)
    simp only [watN]
    unfold watStep
    split
    · rename_i tk f tx hs hv
      split
      · rename_i he
        rcases h.shown (by omega) hs with ⟨a1, _⟩ | ⟨j, a1, a2, _⟩ <;> omega
      · exact ih
    · exact ih
theorem chg_wat {t : PTr} (h : Sound t) (nm : ByteArray) (fn : Int) {k : Nat} (hk : k < t.moms.length) {tk : Int} {f : PFr} (hs : shownP t.moms k = some (tk, f)) (hf : f.fn = fn) (now : ByteArray) :
    ∀ i, i ≤ k → chgP t.moms nm tk f.frm now i = decide (watN t.moms nm fn i f.frm ≠ some now)
  | 0, _ => by simp [chgP, watN]
  | i + 1, hi => by
    have ih := chg_wat h nm fn hk hs hf now i (by omega)
    unfold chgP
    split
    · rename_i hlt
      rw [watN_far h nm fn (i + 1) (by omega) _ (by omega)]
      simp
    · rename_i hlt
      cases hg : shownP t.moms i with
      | none =>
        simp only [watN, watStep, hg]
        exact ih
      | some p =>
        obtain ⟨tk', g⟩ := p
        simp only [watN, watStep, hg]
        by_cases hm : g.frm = f.frm
        · obtain ⟨e1, e2⟩ := h.same (by omega) hk hs hg hm
          rw [if_pos ⟨e1, hm⟩]
          cases hv : valP (elt t.moms i).vars nm with
          | none => exact ih
          | some u =>
            dsimp only
            have : g.fn = fn ∧ f.frm = g.frm := ⟨by omega, hm.symm⟩
            simp [this]
        · rw [if_neg (fun hh => hm hh.2)]
          cases hv : valP (elt t.moms i).vars nm with
          | none => exact ih
          | some u =>
            have : ¬ (g.fn = fn ∧ f.frm = g.frm) := fun hh => hm hh.2.symm
            dsimp only
            rw [ih]
            simp [this]
/-- What the reference asks at moment k. -/
def chgAt (ms : List PMom) (s : PStop) (k : Nat) : Bool :=
  match shownP ms k, valP (elt ms k).vars s.nm with
  | some (tk, f), some now => if f.fn = s.fn then chgP ms s.nm tk f.frm now k else false
  | _, _ => false
theorem chgAt_eq {t : PTr} (h : Sound t) (s : PStop) {k : Nat} (hk : k < t.moms.length) : chgAt t.moms s k = watHit (watN t.moms s.nm s.fn k) (shownP t.moms k) (valP (elt t.moms k).vars s.nm) s.fn := by
  unfold chgAt watHit
  cases hs : shownP t.moms k with
  | none => rfl
  | some p =>
    obtain ⟨tk, f⟩ := p
    cases hv : valP (elt t.moms k).vars s.nm with
    | none => rfl
    | some now =>
      dsimp only
      by_cases hf : f.fn = s.fn
      · rw [if_pos hf, chg_wat h s.nm s.fn hk hs hf now k (by omega)]; simp [hf]
      · rw [if_neg hf]; simp [hf]
def anyP (ms : List PMom) (ss : List PStop) (i : Nat) : Bool := ss.any fun s => holdsP ms s i
def stopsGood (t : PTr) (ss : List PStop) (k : Int) : Bool := soundP t && placeOk t k && decide (ss.length ≤ 50) && ss.all stopOk
def nextP (t : PTr) (ss : List PStop) (k : Int) : Int := if stopsGood t ss k = true then (firstB (anyP t.moms ss) t.moms.length (t.moms.length - (k + 1).toNat) (k + 1).toNat : Nat) else -2
def lastP (t : PTr) (ss : List PStop) (k : Int) : Int := if stopsGood t ss k = true then lastB (anyP t.moms ss) k.toNat else -2
theorem ba_loop (s : ByteArray) : ∀ (n i : Nat) (r : List UInt8), s.size - i = n → ByteArray.toList.loop s i r = r.reverse ++ s.data.toList.drop i
  | 0, i, r, h => by
    unfold ByteArray.toList.loop
    rw [if_neg (by omega), List.drop_eq_nil_of_le]
    · simp
    · show s.data.size ≤ i
      have : s.size = s.data.size := rfl
      omega
  | n + 1, i, r, h => by
    unfold ByteArray.toList.loop
    have hi : i < s.data.size := by have : s.size = s.data.size := rfl; omega
    rw [if_pos (by omega), ba_loop s n (i + 1) _ (by omega)]
    have hd : s.data.toList.drop i = s.data[i] :: s.data.toList.drop (i + 1) := by
      rw [List.drop_eq_getElem_cons (by simpa using hi)]; rfl
    rw [hd, show s.get! i = s.data[i] from by unfold ByteArray.get!; exact getElem!_pos s.data i hi]
    simp
theorem ba_list (s : ByteArray) : s.toList = s.data.toList := by
  unfold ByteArray.toList
  rw [ba_loop s _ 0 [] rfl]; simp
theorem ba_eq {a b : ByteArray} (h : a.toList = b.toList) : a = b := by
  rw [ba_list, ba_list] at h
  cases a; cases b; congr 1; exact Array.toList_inj.1 h
theorem ba_beq (a b : ByteArray) : (a.toList == b.toList) = decide (a = b) := by
  by_cases h : a = b
  · simp [h]
  · simp [h]; exact fun hh => h (ba_eq hh)
theorem chk_ne {s : PS} {m : PMom} (hc : checkP s m = 0) (hk : m.kind = 1 ∨ m.kind = 3) : s.top ≠ [] := by
  intro h2
  unfold checkP at hc
  rw [if_neg (by omega), h2] at hc
  by_cases ht : m.task ≠ s.cur
  · rw [if_pos ht] at hc; cases hc
  · rw [if_neg ht, if_neg (by omega)] at hc
    simp only at hc
    rw [if_pos (by omega)] at hc
    cases hc
end Go.Proofs.Lens

namespace Go.Proofs.Lens

/-! ### counts by fn -/
structure PFc where
  fn : Int
  cal : Int
  slf : Int
  tot : Int
instance : Inhabited PFc := ⟨⟨0, 0, 0, 0⟩⟩
end Go.Proofs.Lens

namespace Go.Proofs.Lens

structure PBr where
  fn : Int
  par : Int
  cal : Int
  slf : Int
instance : Inhabited PBr := ⟨⟨0, 0, 0, 0⟩⟩
end Go.Proofs.Lens

namespace Go.Proofs.Lens

theorem firstNZ_all {f : Nat → Int} : ∀ {d k : Nat}, (∀ j, k ≤ j → j < k + d → f j = 0) → firstNZ f d k = (0, 0)
  | 0, _, _ => rfl
  | d + 1, k, h => by
    unfold firstNZ
    rw [if_pos (h k (Nat.le_refl _) (by omega))]
    exact firstNZ_all fun j h1 h2 => h j (by omega) (by omega)
theorem Sound.is {t : PTr} (h : Sound t) : soundP t = true := by
  obtain ⟨h1, h2, h3⟩ := h
  have e2 : firstNZ (momCode t) (t.moms.length - 0) 0 = (0, 0) := firstNZ_all fun j _ hj => by
    unfold momCode; rw [if_pos (h2 j (by omega))]
  have e3 : firstNZ (moveCode t) (t.moms.length - 0) 0 = (0, 0) := firstNZ_all fun j _ hj => h3 j (by omega)
  unfold soundP faultP
  rw [if_neg (by rw [h1]; simp), e2, e3]
  simp
def one (l : List PFr) : PS := ⟨0, fun t => if t = 0 then l else []⟩
end Go.Proofs.Lens

namespace Go.Proofs.Lens

theorem elt_app {α : Type} [Inhabited α] (a b : List α) {i : Nat} (h : i < a.length) : elt (a ++ b) i = elt a i := by
  rw [elt_eq (by simp; omega), elt_eq h, List.getElem_append_left h]
theorem elt_last {α : Type} [Inhabited α] (a : List α) (x : α) : elt (a ++ [x]) a.length = x := by
  rw [elt_eq (by simp)]; simp
def wb (code : List Nat) (i : Nat) : Nat := if code.length = 0 then 0 else elt code (i % code.length)
end Go.Proofs.Lens

namespace Go.Proofs.Lens

/-! ### the choices -/
/-! ### a moment -/
/-! ### that it is sound -/
/-! ### that it ends -/
end Go.Proofs.Lens

namespace Go.Proofs.Lens

/-! ### open calls, place by place -/
/-! ### the first and the last, met on one way through -/
/-! ### what FnSteps meets -/
/-! ### what FnStops meets -/
end Go.Proofs.Lens

namespace Go.Proofs.Lens

structure PTold where
  place : Int
  code : Int
  num : Int
  text : ByteArray
  stack : List PFr
  vars : List PVar
instance : Inhabited PTold := ⟨⟨0, 0, 0, ⟨#[]⟩, [], []⟩⟩
structure Lk where
  place : Int
  ss : List PStop
  past : List Int
def td0 : PTold := ⟨0, 0, 0, ⟨#[]⟩, [], []⟩
def lk0 : Lk := ⟨-1, [], []⟩
def noStop (s : PStop) : Bool := decide (s.kind = 0) && decide (s.fn = 0) && decide (s.line = 0) && noS s.nm
def askOk (a : PAsk) : Bool :=
  if a.op = 1 then decide (a.n = 0) && noS a.nm && stopOk a.stop
  else if a.op = 2 ∨ a.op = 13 then inB a.n 0 49 && noS a.nm && noStop a.stop
  else if a.op = 9 then inB a.n (-1) 3000 && noS a.nm && noStop a.stop
  else if a.op = 10 then inB a.n 0 100 && noS a.nm && noStop a.stop
  else if a.op = 12 then decide (a.n = 0) && inB a.nm.size 1 40 && noStop a.stop
  else inB a.op 1 13 && decide (a.n = 0) && noS a.nm && noStop a.stop
def varsAt (t : PTr) (k : Int) : List PVar := if inB k 0 ((t.moms.length : Int) - 1) = true then (elt t.moms k.toNat).vars else []
def Lk.move (L : Lk) (k : Int) : Lk := ⟨k, L.ss, L.past ++ [L.place]⟩
/-- How many of the first n places, up to k, a stop holds at. -/
def cntN (ms : List PMom) (s : PStop) (k : Int) : Nat → Int
  | 0 => 0
  | n + 1 => cntN ms s k n + (if (decide ((n : Int) ≤ k) && holdsP ms s n) = true then 1 else 0)
def doStop (L : Lk) (a : PAsk) : PTold × Lk × Int := if L.ss.length = 50 then (td0, L, 2) else (⟨0, 0, L.ss.length, ⟨#[]⟩, [], []⟩, ⟨L.place, L.ss ++ [a.stop], L.past⟩, 0)
def doClear (L : Lk) (a : PAsk) : PTold × Lk × Int := if (L.ss.length : Int) ≤ a.n then (td0, L, 2) else (td0, ⟨L.place, L.ss.eraseIdx a.n.toNat, L.past⟩, 0)
def doMove (L : Lk) (k : Int) : PTold × Lk × Int := (td0, L.move k, 0)
def doUndo (L : Lk) : PTold × Lk × Int := if L.past.length = 0 then (td0, L, 4) else (td0, ⟨elt L.past (L.past.length - 1), L.ss, L.past.take (L.past.length - 1)⟩, 0)
def doTo (t : PTr) (L : Lk) (a : PAsk) : PTold × Lk × Int := if (t.moms.length : Int) < a.n then (td0, L, 4) else (td0, L.move a.n, 0)
def doWhere (t : PTr) (L : Lk) (a : PAsk) : PTold × Lk × Int := (⟨0, 0, runP t L.place, ⟨#[]⟩, stackP t L.place a.n, []⟩, L, 0)
def doVars (t : PTr) (L : Lk) : PTold × Lk × Int := (⟨0, 0, 0, ⟨#[]⟩, [], varsAt t L.place⟩, L, 0)
def doValue (t : PTr) (L : Lk) (a : PAsk) : PTold × Lk × Int := match valP (varsAt t L.place) a.nm with | none => (td0, L, 3) | some x => (⟨0, 0, 0, x, [], []⟩, L, 0)
def doCount (t : PTr) (L : Lk) (a : PAsk) : PTold × Lk × Int := if (L.ss.length : Int) ≤ a.n then (td0, L, 2) else (⟨0, 0, cntN t.moms (elt L.ss a.n.toNat) L.place t.moms.length, ⟨#[]⟩, [], []⟩, L, 0)
/-- What an ask that is one does: what is told, the new state, and a code. -/
def doP (t : PTr) (L : Lk) (a : PAsk) : PTold × Lk × Int :=
  if a.op = 1 then doStop L a
  else if a.op = 2 then doClear L a
  else if a.op = 3 then doMove L (nextP t L.ss L.place)
  else if a.op = 4 then doMove L (lastP t L.ss L.place)
  else if a.op = 5 then doMove L (intoP t L.place)
  else if a.op = 6 then doMove L (overP t L.place)
  else if a.op = 7 then doMove L (outP t L.place)
  else if a.op = 8 then doUndo L
  else if a.op = 9 then doTo t L a
  else if a.op = 10 then doWhere t L a
  else if a.op = 11 then doVars t L
  else if a.op = 12 then doValue t L a
  else doCount t L a
theorem doP_elim {t : PTr} {L : Lk} {a : PAsk} {Q : PTold × Lk × Int → Prop} (h1 : a.op = 1 → Q (doStop L a)) (h2 : a.op = 2 → Q (doClear L a)) (h3 : a.op = 3 → Q (doMove L (nextP t L.ss L.place))) (h4 : a.op = 4 → Q (doMove L (lastP t L.ss L.place)))
    (h5 : a.op = 5 → Q (doMove L (intoP t L.place))) (h6 : a.op = 6 → Q (doMove L (overP t L.place))) (h7 : a.op = 7 → Q (doMove L (outP t L.place))) (h8 : a.op = 8 → Q (doUndo L)) (h9 : a.op = 9 → Q (doTo t L a)) (h10 : a.op = 10 → Q (doWhere t L a))
    (h11 : a.op = 11 → Q (doVars t L)) (h12 : a.op = 12 → Q (doValue t L a)) (h13 : Q (doCount t L a)) : Q (doP t L a) := by
  unfold doP
  by_cases e : a.op = 1
  · rw [if_pos e]; exact h1 e
  rw [if_neg e]; clear e h1
  by_cases e : a.op = 2
  · rw [if_pos e]; exact h2 e
  rw [if_neg e]; clear e h2
  by_cases e : a.op = 3
  · rw [if_pos e]; exact h3 e
  rw [if_neg e]; clear e h3
  by_cases e : a.op = 4
  · rw [if_pos e]; exact h4 e
  rw [if_neg e]; clear e h4
  by_cases e : a.op = 5
  · rw [if_pos e]; exact h5 e
  rw [if_neg e]; clear e h5
  by_cases e : a.op = 6
  · rw [if_pos e]; exact h6 e
  rw [if_neg e]; clear e h6
  by_cases e : a.op = 7
  · rw [if_pos e]; exact h7 e
  rw [if_neg e]; clear e h7
  by_cases e : a.op = 8
  · rw [if_pos e]; exact h8 e
  rw [if_neg e]; clear e h8
  by_cases e : a.op = 9
  · rw [if_pos e]; exact h9 e
  rw [if_neg e]; clear e h9
  by_cases e : a.op = 10
  · rw [if_pos e]; exact h10 e
  rw [if_neg e]; clear e h10
  by_cases e : a.op = 11
  · rw [if_pos e]; exact h11 e
  rw [if_neg e]; clear e h11
  by_cases e : a.op = 12
  · rw [if_pos e]; exact h12 e
  rw [if_neg e]; exact h13
def askP (t : PTr) (L : Lk) (a : PAsk) : PTold × Lk :=
  if askOk a = true then
    (if (doP t L a).2.2 = 0 then ({ (doP t L a).1 with place := (doP t L a).2.1.place }, (doP t L a).2.1) else ({ td0 with code := (doP t L a).2.2, place := (doP t L a).2.1.place }, (doP t L a).2.1))
  else ({ td0 with code := 1, place := L.place }, L)
/-- Behind the first k asks: what was told, and the state. -/
def lkN (t : PTr) (asks : List PAsk) : Nat → List PTold × Lk
  | 0 => ([], lk0)
  | k + 1 => ((lkN t asks k).1 ++ [(askP t (lkN t asks k).2 (elt asks k)).1], (askP t (lkN t asks k).2 (elt asks k)).2)
theorem lkN_len (t : PTr) (asks : List PAsk) : ∀ k, (lkN t asks k).1.length = k
  | 0 => rfl
  | k + 1 => by simp [lkN, lkN_len t asks k]
def lookP (t : PTr) (asks : List PAsk) : List PTold := if (soundP t && decide (asks.length ≤ 500)) = true then (lkN t asks asks.length).1 else []

/-! ### what holds all along -/
structure LkOk (t : PTr) (L : Lk) : Prop where
  lo : -1 ≤ L.place
  hi : L.place ≤ t.moms.length
  ln : L.ss.length ≤ 50
  ok : L.ss.all stopOk = true
  pa : ∀ i, i < L.past.length → -1 ≤ elt L.past i ∧ elt L.past i ≤ t.moms.length
theorem lk0_ok (t : PTr) : LkOk t lk0 := ⟨by simp [lk0], by show (-1 : Int) ≤ _; omega, by simp [lk0], rfl, fun i hi => absurd hi (by simp [lk0])⟩
theorem LkOk.place {t : PTr} {L : Lk} (h : LkOk t L) : placeOk t L.place = true := inB_true.2 ⟨h.lo, h.hi⟩
theorem LkOk.good {t : PTr} {L : Lk} (h : LkOk t L) (hs : soundP t = true) : goodP t L.place = true := by unfold goodP; rw [hs, h.place]; rfl
theorem LkOk.stops {t : PTr} {L : Lk} (h : LkOk t L) (hs : soundP t = true) : stopsGood t L.ss L.place = true := by
  unfold stopsGood; rw [hs, h.place, h.ok]; simp [h.ln]
theorem LkOk.move {t : PTr} {L : Lk} (h : LkOk t L) {k : Int} (h1 : -1 ≤ k) (h2 : k ≤ t.moms.length) : LkOk t (L.move k) := by
  refine ⟨h1, h2, h.ln, h.ok, fun i hi => ?_⟩
  have hl : (L.past ++ [L.place]).length = L.past.length + 1 := by simp
  have hi : i < (L.past ++ [L.place]).length := hi
  show -1 ≤ elt (L.past ++ [L.place]) i ∧ elt (L.past ++ [L.place]) i ≤ _
  by_cases hc : i < L.past.length
  · rw [elt_app _ _ hc]; exact h.pa i hc
  · have : i = L.past.length := by omega
    subst this
    rw [elt_last]; exact ⟨h.lo, h.hi⟩
theorem firstB_le (p : Nat → Bool) (n : Nat) : ∀ d k, k + d ≤ n → firstB p n d k ≤ n
  | 0, _, _ => Nat.le_refl _
  | d + 1, k, h => by
    unfold firstB
    split
    · omega
    · exact firstB_le p n d (k + 1) (by omega)
theorem lastB_rng (p : Nat → Bool) : ∀ n, -1 ≤ lastB p n ∧ lastB p n < n
  | 0 => by simp [lastB]
  | n + 1 => by
    have := lastB_rng p n
    unfold lastB
    split <;> omega
theorem seek_rng {t : PTr} {k : Int} (hg : goodP t k = true) (q : Nat → Bool) : -1 ≤ seekP t k q ∧ seekP t k q ≤ t.moms.length := by
  unfold seekP
  rw [if_pos hg]
  by_cases hle : (k + 1).toNat ≤ t.moms.length
  · have := firstB_le q t.moms.length (t.moms.length - (k + 1).toNat) (k + 1).toNat (by omega)
    omega
  · rw [show t.moms.length - (k + 1).toNat = 0 by omega]
    show -1 ≤ ((t.moms.length : Nat) : Int) ∧ _
    unfold firstB
    omega
theorem next_rng {t : PTr} {L : Lk} (h : LkOk t L) (hs : soundP t = true) : -1 ≤ nextP t L.ss L.place ∧ nextP t L.ss L.place ≤ t.moms.length := by
  unfold nextP
  rw [if_pos (h.stops hs)]
  by_cases hle : (L.place + 1).toNat ≤ t.moms.length
  · have := firstB_le (anyP t.moms L.ss) t.moms.length (t.moms.length - (L.place + 1).toNat) (L.place + 1).toNat (by omega)
    omega
  · rw [show t.moms.length - (L.place + 1).toNat = 0 by omega]
    unfold firstB
    omega
theorem last_rng {t : PTr} {L : Lk} (h : LkOk t L) (hs : soundP t = true) : -1 ≤ lastP t L.ss L.place ∧ lastP t L.ss L.place ≤ t.moms.length := by
  unfold lastP
  rw [if_pos (h.stops hs)]
  have h1 := lastB_rng (anyP t.moms L.ss) L.place.toNat
  have := h.hi
  omega
theorem all_app {ss : List PStop} {s : PStop} (h : ss.all stopOk = true) (hs : stopOk s = true) : (ss ++ [s]).all stopOk = true := by simp [List.all_append] at *; exact ⟨h, hs⟩
theorem all_erase {ss : List PStop} (h : ss.all stopOk = true) (n : Nat) : (ss.eraseIdx n).all stopOk = true := by
  rw [List.all_eq_true] at *
  intro x hx
  exact h x (List.mem_of_mem_eraseIdx hx)
theorem askOk_stop {a : PAsk} (h : askOk a = true) (h1 : a.op = 1) : stopOk a.stop = true := by
  unfold askOk at h
  rw [if_pos h1] at h
  simp only [Bool.and_eq_true] at h
  exact h.2
theorem askOk_n {a : PAsk} (h : askOk a = true) : -1 ≤ a.n := by
  unfold askOk at h
  split at h
  · simp only [Bool.and_eq_true, decide_eq_true_eq] at h; omega
  split at h
  · simp only [Bool.and_eq_true, inB_true] at h; omega
  split at h
  · simp only [Bool.and_eq_true, inB_true] at h; omega
  split at h
  · simp only [Bool.and_eq_true, inB_true] at h; omega
  split at h
  · simp only [Bool.and_eq_true, decide_eq_true_eq] at h; omega
  · simp only [Bool.and_eq_true, decide_eq_true_eq] at h; omega
theorem doP_ok {t : PTr} {L : Lk} {a : PAsk} (h : LkOk t L) (hs : soundP t = true) (ha : askOk a = true) : LkOk t (doP t L a).2.1 := by
  have hg := h.good hs
  refine doP_elim (Q := fun r => LkOk t r.2.1) (fun h1 => ?_) (fun _ => ?_) (fun _ => h.move (next_rng h hs).1 (next_rng h hs).2) (fun _ => h.move (last_rng h hs).1 (last_rng h hs).2) (fun _ => h.move (seek_rng hg _).1 (seek_rng hg _).2)
    (fun _ => h.move (seek_rng hg _).1 (seek_rng hg _).2) (fun _ => h.move (seek_rng hg _).1 (seek_rng hg _).2) (fun _ => ?_) (fun _ => ?_) (fun _ => h) (fun _ => h) (fun _ => ?_) ?_
  · unfold doStop
    split
    · exact h
    · refine ⟨h.lo, h.hi, ?_, all_app h.ok (askOk_stop ha h1), h.pa⟩
      have := h.ln
      show (L.ss ++ [a.stop]).length ≤ 50
      simp; omega
  · unfold doClear
    split
    · exact h
    · refine ⟨h.lo, h.hi, ?_, all_erase h.ok _, h.pa⟩
      have := h.ln
      show (L.ss.eraseIdx a.n.toNat).length ≤ 50
      have := List.length_eraseIdx_le L.ss a.n.toNat
      omega
  · unfold doUndo
    split
    · exact h
    · rename_i h0
      have h1 := h.pa (L.past.length - 1) (by omega)
      refine ⟨h1.1, h1.2, h.ln, h.ok, fun i hi => ?_⟩
      have hi : i < (L.past.take (L.past.length - 1)).length := hi
      rw [List.length_take] at hi
      show -1 ≤ elt (L.past.take (L.past.length - 1)) i ∧ elt (L.past.take (L.past.length - 1)) i ≤ _
      have e : elt (L.past.take (L.past.length - 1)) i = elt L.past i := by
        rw [elt_eq (by rw [List.length_take]; omega), List.getElem_take, elt_eq (by omega)]
      rw [e]
      exact h.pa i (by omega)
  · unfold doTo
    split
    · exact h
    · exact h.move (askOk_n ha) (by omega)
  · unfold doValue
    split
    · exact h
    · exact h
  · unfold doCount
    split
    · exact h
    · exact h
theorem askP_ok {t : PTr} {L : Lk} (a : PAsk) (h : LkOk t L) (hs : soundP t = true) : LkOk t (askP t L a).2 := by
  unfold askP
  split
  · rename_i ha
    split
    · exact doP_ok h hs ha
    · exact doP_ok h hs ha
  · exact h
theorem lkN_ok {t : PTr} (asks : List PAsk) (hs : soundP t = true) : ∀ k, LkOk t (lkN t asks k).2
  | 0 => lk0_ok t
  | k + 1 => askP_ok _ (lkN_ok asks hs k) hs
theorem doP_past {t : PTr} {L : Lk} {a : PAsk} : (doP t L a).2.1.past.length ≤ L.past.length + 1 := by
  have hm : ∀ k, (L.move k).past.length ≤ L.past.length + 1 := fun k => by
    show (L.past ++ [L.place]).length ≤ _
    simp
  have h0 : L.past.length ≤ L.past.length + 1 := Nat.le_succ _
  refine doP_elim (Q := fun r => r.2.1.past.length ≤ L.past.length + 1) (fun _ => ?_) (fun _ => ?_) (fun _ => hm _) (fun _ => hm _) (fun _ => hm _) (fun _ => hm _) (fun _ => hm _) (fun _ => ?_) (fun _ => ?_) (fun _ => h0) (fun _ => h0) (fun _ => ?_) ?_
  · unfold doStop
    split
    · exact h0
    · exact h0
  · unfold doClear
    split
    · exact h0
    · exact h0
  · unfold doUndo
    split
    · exact h0
    · show (L.past.take (L.past.length - 1)).length ≤ _
      rw [List.length_take]; omega
  · unfold doTo
    split
    · exact h0
    · exact hm _
  · unfold doValue
    split
    · exact h0
    · exact h0
  · unfold doCount
    split
    · exact h0
    · exact h0
theorem askP_past {t : PTr} {L : Lk} {a : PAsk} : (askP t L a).2.past.length ≤ L.past.length + 1 := by
  unfold askP
  split
  · split
    · exact doP_past
    · exact doP_past
  · exact Nat.le_succ _
theorem lkN_past (t : PTr) (asks : List PAsk) : ∀ k, (lkN t asks k).2.past.length ≤ k
  | 0 => Nat.le_refl _
  | k + 1 => Nat.le_trans askP_past (Nat.succ_le_succ (lkN_past t asks k))
end Go.Proofs.Lens
