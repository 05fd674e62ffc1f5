/- The plain side of stops: where they hold, by the program's maps and by the reference's search back. -/
import Derived.Test.YtcklnjjbhngbcaaGreatDoorP2
namespace Go.Proofs.Lens

/-- The text of the last variable of a name. -/
def valP (vars : List PVar) (nm : ByteArray) : Option ByteArray :=
  match vars with
  | [] => none
  | v :: r => match valP r nm with | some x => some x | none => if v.nm = nm then some v.tx else none
theorem valP_snoc (l : List PVar) (v : PVar) (nm : ByteArray) : valP (l ++ [v]) nm = if v.nm = nm then some v.tx else valP l nm := by
  induction l with
  | nil => simp [valP]
  | cons u r ih =>
    simp only [List.cons_append, valP, ih]
    by_cases h : v.nm = nm
    · rw [if_pos h, if_pos h]
    · rw [if_neg h, if_neg h]
/-- The open call that a moment shows, and its task. -/
def shownS (ms : List PMom) (k : Nat) : PS := if (elt ms k).kind = 3 then stN ms k else stN ms (k + 1)
def shownP (ms : List PMom) (k : Nat) : Option (Int × PFr) := match (shownS ms k).top with | [] => none | f :: _ => some ((shownS ms k).cur, f)
def watStep (L : Int → Option ByteArray) (sh : Option (Int × PFr)) (v : Option ByteArray) (fn : Int) (i : Int) : Option ByteArray :=
  match sh, v with
  | some (_, f), some tx => if f.fn = fn ∧ i = f.frm then some tx else L i
  | _, _ => L i
def watHit (L : Int → Option ByteArray) (sh : Option (Int × PFr)) (v : Option ByteArray) (fn : Int) : Bool :=
  match sh, v with
  | some (_, f), some tx => decide (f.fn = fn) && decide (L f.frm ≠ some tx)
  | _, _ => false
def watN (ms : List PMom) (nm : ByteArray) (fn : Int) : Nat → Int → Option ByteArray
  | 0 => fun _ => none
  | n + 1 => fun i => watStep (watN ms nm fn n) (shownP ms n) (valP (elt ms n).vars nm) fn i
def holdsP (ms : List PMom) (s : PStop) (k : Nat) : Bool :=
  if s.kind = 1 then decide ((elt ms k).kind = 1) && decide ((elt ms k).fn = s.fn) && decide ((elt ms k).line = s.line)
  else if s.kind = 2 then decide ((elt ms k).kind = 2) && decide ((elt ms k).fn = s.fn)
  else if s.kind = 3 then watHit (watN ms s.nm s.fn k) (shownP ms k) (valP (elt ms k).vars s.nm) s.fn
  else decide ((elt ms k).kind = 4)
/-- The reference's search back, from i - 1 down. -/
def chgP (ms : List PMom) (nm : ByteArray) (tk frm : Int) (now : ByteArray) : Nat → Bool
  | 0 => true
  | i + 1 => if (i : Int) < frm then true else
    match shownP ms i with
    | none => chgP ms nm tk frm now i
    | some (tk', g) => if tk' = tk ∧ g.frm = frm then (match valP (elt ms i).vars nm with | some u => decide (u ≠ now) | none => chgP ms nm tk frm now i) else chgP ms nm tk frm now i
/-- Where an open call comes from says its task and its fn. -/
def Org (ms : List PMom) (s : PS) (n : Nat) : Prop :=
  ∀ i f, f ∈ s.stk i → (f.frm = -1 ∧ i = 0 ∧ f.fn = 0) ∨ ∃ j : Nat, f.frm = (j : Int) ∧ j < n ∧ i = (elt ms j).task ∧ f.fn = (elt ms j).fn
theorem org0 (ms : List PMom) : Org ms ps0 0 := by
  intro i f hf
  simp only [ps0] at hf
  split at hf
  · rename_i h0
    simp at hf; subst hf; exact .inl ⟨rfl, h0, rfl⟩
  · cases hf
theorem org_step {ms : List PMom} {s : PS} {n : Nat} (h : Org ms s n) (hc : checkP s (elt ms n) = 0) : Org ms (stepP s (elt ms n) n) (n + 1) := by
  have hold : Org ms s (n + 1) := fun i f hf => by
    rcases h i f hf with h | ⟨j, h1, h2, h3⟩
    · exact .inl h
    · exact .inr ⟨j, h1, by omega, h3⟩
  have hput : ∀ l : List PFr, (∀ f ∈ l, (f.frm = -1 ∧ s.cur = 0 ∧ f.fn = 0) ∨ ∃ j : Nat, f.frm = (j : Int) ∧ j < n + 1 ∧ s.cur = (elt ms j).task ∧ f.fn = (elt ms j).fn) → Org ms (s.put l) (n + 1) := by
    intro l hl i f hf
    simp only [PS.put] at hf
    split at hf
    · rename_i hi
      subst hi
      exact hl f hf
    · exact hold i f hf
  unfold stepP
  unfold checkP at hc
  by_cases k7 : (elt ms n).kind = 7
  · rw [if_pos k7]; exact hold
  rw [if_neg k7] at hc ⊢
  by_cases hct : (elt ms n).task ≠ s.cur
  · rw [if_pos hct] at hc; cases hc
  split
  · refine hput _ fun f hf => ?_
    rcases List.mem_cons.1 hf with rfl | hf
    · exact .inr ⟨n, rfl, by omega, (Decidable.not_not.1 hct).symm, rfl⟩
    · exact hold s.cur f hf
  · split
    · exact hput _ fun f hf => hold s.cur f (List.mem_of_mem_tail hf)
    · split
      · refine hput _ fun f hf => ?_
        unfold PS.top at hf
        cases hs : s.stk s.cur with
        | nil => rw [hs] at hf; cases hf
        | cons g r =>
          rw [hs] at hf
          rcases List.mem_cons.1 hf with rfl | hf
          · exact hold s.cur g (by rw [hs]; simp)
          · exact hold s.cur f (by rw [hs]; simp [hf])
      · exact hold
theorem Sound.org {t : PTr} (h : Sound t) : ∀ n, n ≤ t.moms.length → Org t.moms (stN t.moms n) n
  | 0, _ => org0 _
  | n + 1, hn => org_step (h.org n (by omega)) (h.moves n (by omega))
theorem Sound.shown {t : PTr} (h : Sound t) {k : Nat} (hk : k < t.moms.length) {tk : Int} {f : PFr} (hs : shownP t.moms k = some (tk, f)) :
    (f.frm = -1 ∧ tk = 0 ∧ f.fn = 0) ∨ ∃ j : Nat, f.frm = (j : Int) ∧ j ≤ k ∧ tk = (elt t.moms j).task ∧ f.fn = (elt t.moms j).fn := by
  have ho : Org t.moms (shownS t.moms k) (k + 1) := by
    unfold shownS
    split
    · intro i f hf
      rcases h.org k (by omega) i f hf with h | ⟨j, h1, h2, h3⟩
      · exact .inl h
      · exact .inr ⟨j, h1, by omega, h3⟩
    · exact h.org (k + 1) (by omega)
  unfold shownP at hs
  cases ht : (shownS t.moms k).top with
  | nil => rw [ht] at hs; cases hs
  | cons g r =>
    rw [ht] at hs
    simp only [Option.some.injEq, Prod.mk.injEq] at hs
    obtain ⟨rfl, rfl⟩ := hs
    unfold PS.top at ht
    rcases ho _ g (by rw [ht]; simp) with h | ⟨j, h1, h2, h3⟩
    · exact .inl h
    · exact .inr ⟨j, h1, by omega, h3⟩
theorem Sound.same {t : PTr} (h : Sound t) {i k : Nat} (hi : i < t.moms.length) (hk : k < t.moms.length) {tk tk' : Int} {f g : PFr} (hs : shownP t.moms k = some (tk, f)) (hg : shownP t.moms i = some (tk', g)) (hf : g.frm = f.frm) :
    tk' = tk ∧ g.fn = f.fn := by
  rcases h.shown hk hs with ⟨a1, a2, a3⟩ | ⟨j, a1, a2, a3, a4⟩ <;> rcases h.shown hi hg with ⟨b1, b2, b3⟩ | ⟨j', b1, b2, b3, b4⟩
  · omega
  · omega
  · omega
  · obtain rfl : j = j' := by omega
    exact ⟨by rw [a3, b3], by rw [a4, b4]⟩
theorem watN_far {t : PTr} (h : Sound t) (nm : ByteArray) (fn : Int) : ∀ (n : Nat), n ≤ t.moms.length → ∀ x : Int, (n : Int) ≤ x → watN t.moms nm fn n x = none
  | 0, _, _, _ => rfl
  | n + 1, hn, x, hx => by
    have ih := watN_far h nm fn n (by omega) x (by omega)
    simp only [watN]
    unfold watStep
    split
    · rename_i tk f tx hs hv
      split
      · rename_i he
        rcases h.shown (by omega) hs with ⟨a1, _⟩ | ⟨j, a1, a2, _⟩ <;> omega
      · exact ih
    · exact ih
theorem chg_wat {t : PTr} (h : Sound t) (nm : ByteArray) (fn : Int) {k : Nat} (hk : k < t.moms.length) {tk : Int} {f : PFr} (hs : shownP t.moms k = some (tk, f)) (hf : f.fn = fn) (now : ByteArray) :
    ∀ i, i ≤ k → chgP t.moms nm tk f.frm now i = decide (watN t.moms nm fn i f.frm ≠ some now)
  | 0, _ => by simp [chgP, watN]
  | i + 1, hi => by
    have ih := chg_wat h nm fn hk hs hf now i (by omega)
    unfold chgP
    split
    · rename_i hlt
      rw [watN_far h nm fn (i + 1) (by omega) _ (by omega)]
      simp
    · rename_i hlt
      cases hg : shownP t.moms i with
      | none =>
        simp only [watN, watStep, hg]
        exact ih
      | some p =>
        obtain ⟨tk', g⟩ := p
        simp only [watN, watStep, hg]
        by_cases hm : g.frm = f.frm
        · obtain ⟨e1, e2⟩ := h.same (by omega) hk hs hg hm
          rw [if_pos ⟨e1, hm⟩]
          cases hv : valP (elt t.moms i).vars nm with
          | none => exact ih
          | some u =>
            dsimp only
            have : g.fn = fn ∧ f.frm = g.frm := ⟨by omega, hm.symm⟩
            simp [this]
        · rw [if_neg (fun hh => hm hh.2)]
          cases hv : valP (elt t.moms i).vars nm with
          | none => exact ih
          | some u =>
            have : ¬ (g.fn = fn ∧ f.frm = g.frm) := fun hh => hm hh.2.symm
            dsimp only
            rw [ih]
            simp [this]
/-- What the reference asks at moment k. -/
def chgAt (ms : List PMom) (s : PStop) (k : Nat) : Bool :=
  match shownP ms k, valP (elt ms k).vars s.nm with
  | some (tk, f), some now => if f.fn = s.fn then chgP ms s.nm tk f.frm now k else false
  | _, _ => false
theorem chgAt_eq {t : PTr} (h : Sound t) (s : PStop) {k : Nat} (hk : k < t.moms.length) : chgAt t.moms s k = watHit (watN t.moms s.nm s.fn k) (shownP t.moms k) (valP (elt t.moms k).vars s.nm) s.fn := by
  unfold chgAt watHit
  cases hs : shownP t.moms k with
  | none => rfl
  | some p =>
    obtain ⟨tk, f⟩ := p
    cases hv : valP (elt t.moms k).vars s.nm with
    | none => rfl
    | some now =>
      dsimp only
      by_cases hf : f.fn = s.fn
      · rw [if_pos hf, chg_wat h s.nm s.fn hk hs hf now k (by omega)]; simp [hf]
      · rw [if_neg hf]; simp [hf]
def stopsAtP (t : PTr) (s : PStop) (k : Int) : Bool := soundP t && stopOk s && inB k 0 ((t.moms.length : Int) - 1) && holdsP t.moms s k.toNat
def hitsN (ms : List PMom) (s : PStop) : Nat → List Int
  | 0 => []
  | n + 1 => if holdsP ms s n = true then hitsN ms s n ++ [(n : Int)] else hitsN ms s n
theorem hitsN_len (ms : List PMom) (s : PStop) : ∀ n, (hitsN ms s n).length ≤ n
  | 0 => by simp [hitsN]
  | n + 1 => by have := hitsN_len ms s n; unfold hitsN; split <;> simp <;> omega
def hitsP (t : PTr) (s : PStop) : List Int := if (soundP t && stopOk s) = true then hitsN t.moms s t.moms.length else []
def anyP (ms : List PMom) (ss : List PStop) (i : Nat) : Bool := ss.any fun s => holdsP ms s i
def stopsGood (t : PTr) (ss : List PStop) (k : Int) : Bool := soundP t && placeOk t k && decide (ss.length ≤ 50) && ss.all stopOk
def nextP (t : PTr) (ss : List PStop) (k : Int) : Int := if stopsGood t ss k = true then (firstB (anyP t.moms ss) t.moms.length (t.moms.length - (k + 1).toNat) (k + 1).toNat : Nat) else -2
def lastP (t : PTr) (ss : List PStop) (k : Int) : Int := if stopsGood t ss k = true then lastB (anyP t.moms ss) k.toNat else -2
theorem ba_loop (s : ByteArray) : ∀ (n i : Nat) (r : List UInt8), s.size - i = n → ByteArray.toList.loop s i r = r.reverse ++ s.data.toList.drop i
  | 0, i, r, h => by
    unfold ByteArray.toList.loop
    rw [if_neg (by omega), List.drop_eq_nil_of_le]
    · simp
    · show s.data.size ≤ i
      have : s.size = s.data.size := rfl
      omega
  | n + 1, i, r, h => by
    unfold ByteArray.toList.loop
    have hi : i < s.data.size := by have : s.size = s.data.size := rfl; omega
    rw [if_pos (by omega), ba_loop s n (i + 1) _ (by omega)]
    have hd : s.data.toList.drop i = s.data[i] :: s.data.toList.drop (i + 1) := by
      rw [List.drop_eq_getElem_cons (by simpa using hi)]; rfl
    rw [hd, show s.get! i = s.data[i] from by unfold ByteArray.get!; exact getElem!_pos s.data i hi]
    simp
theorem ba_list (s : ByteArray) : s.toList = s.data.toList := by
  unfold ByteArray.toList
  rw [ba_loop s _ 0 [] rfl]; simp
theorem ba_eq {a b : ByteArray} (h : a.toList = b.toList) : a = b := by
  rw [ba_list, ba_list] at h
  cases a; cases b; congr 1; exact Array.toList_inj.1 h
theorem ba_beq (a b : ByteArray) : (a.toList == b.toList) = decide (a = b) := by
  by_cases h : a = b
  · simp [h]
  · simp [h]; exact fun hh => h (ba_eq hh)
theorem chk_ne {s : PS} {m : PMom} (hc : checkP s m = 0) (hk : m.kind = 1 ∨ m.kind = 3) : s.top ≠ [] := by
  intro h2
  unfold checkP at hc
  rw [if_neg (by omega), h2] at hc
  by_cases ht : m.task ≠ s.cur
  · rw [if_pos ht] at hc; cases hc
  · rw [if_neg ht, if_neg (by omega)] at hc
    simp only at hc
    rw [if_pos (by omega)] at hc
    cases hc
theorem step_cur {s : PS} {m : PMom} {n : Nat} (h : m.kind ≠ 7) : (stepP s m n).cur = s.cur := by
  unfold stepP
  rw [if_neg h]
  split
  · rfl
  · split
    · rfl
    · split <;> rfl
end Go.Proofs.Lens
