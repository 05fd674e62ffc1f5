/- Lemmas and contracts of functions that the theorem of this claim leans on (texts P9, P15). -/
import Derived.Test.YtcklnjjbhngbcaaGreatDoorRowUnz03
namespace Go.Proofs.Lens

/-! ### open calls, place by place -/
/-! ### the first and the last, met on one way through -/
/-! ### what FnSteps meets -/
/-! ### what FnStops meets -/
end Go.Proofs.Lens

namespace Go.Proofs.Lens

structure PTold where
  place : Int
  code : Int
  num : Int
  text : ByteArray
  stack : List PFr
  vars : List PVar
instance : Inhabited PTold := ⟨⟨0, 0, 0, ⟨#[]⟩, [], []⟩⟩
structure Lk where
  place : Int
  ss : List PStop
  past : List Int
def td0 : PTold := ⟨0, 0, 0, ⟨#[]⟩, [], []⟩
def lk0 : Lk := ⟨-1, [], []⟩
def noStop (s : PStop) : Bool := decide (s.kind = 0) && decide (s.fn = 0) && decide (s.line = 0) && noS s.nm
def askOk (a : PAsk) : Bool :=
  if a.op = 1 then decide (a.n = 0) && noS a.nm && stopOk a.stop
  else if a.op = 2 ∨ a.op = 13 then inB a.n 0 49 && noS a.nm && noStop a.stop
  else if a.op = 9 then inB a.n (-1) 3000 && noS a.nm && noStop a.stop
  else if a.op = 10 then inB a.n 0 100 && noS a.nm && noStop a.stop
  else if a.op = 12 then decide (a.n = 0) && inB a.nm.size 1 40 && noStop a.stop
  else inB a.op 1 13 && decide (a.n = 0) && noS a.nm && noStop a.stop
def varsAt (t : PTr) (k : Int) : List PVar := if inB k 0 ((t.moms.length : Int) - 1) = true then (elt t.moms k.toNat).vars else []
def Lk.move (L : Lk) (k : Int) : Lk := ⟨k, L.ss, L.past ++ [L.place]⟩
/-- How many of the first n places, up to k, a stop holds at. -/
def cntN (ms : List PMom) (s : PStop) (k : Int) : Nat → Int
  | 0 => 0
  | n + 1 => cntN ms s k n + (if (decide ((n : Int) ≤ k) && holdsP ms s n) = true then 1 else 0)
def doStop (L : Lk) (a : PAsk) : PTold × Lk × Int := if L.ss.length = 50 then (td0, L, 2) else (⟨0, 0, L.ss.length, ⟨#[]⟩, [], []⟩, ⟨L.place, L.ss ++ [a.stop], L.past⟩, 0)
def doClear (L : Lk) (a : PAsk) : PTold × Lk × Int := if (L.ss.length : Int) ≤ a.n then (td0, L, 2) else (td0, ⟨L.place, L.ss.eraseIdx a.n.toNat, L.past⟩, 0)
def doMove (L : Lk) (k : Int) : PTold × Lk × Int := (td0, L.move k, 0)
def doUndo (L : Lk) : PTold × Lk × Int := if L.past.length = 0 then (td0, L, 4) else (td0, ⟨elt L.past (L.past.length - 1), L.ss, L.past.take (L.past.length - 1)⟩, 0)
def doTo (t : PTr) (L : Lk) (a : PAsk) : PTold × Lk × Int := if (t.moms.length : Int) < a.n then (td0, L, 4) else (td0, L.move a.n, 0)
def doWhere (t : PTr) (L : Lk) (a : PAsk) : PTold × Lk × Int := (⟨0, 0, runP t L.place, ⟨#[]⟩, stackP t L.place a.n, []⟩, L, 0)
def doVars (t : PTr) (L : Lk) : PTold × Lk × Int := (⟨0, 0, 0, ⟨#[]⟩, [], varsAt t L.place⟩, L, 0)
def doValue (t : PTr) (L : Lk) (a : PAsk) : PTold × Lk × Int := match valP (varsAt t L.place) a.nm with | none => (td0, L, 3) | some x => (⟨0, 0, 0, x, [], []⟩, L, 0)
def doCount (t : PTr) (L : Lk) (a : PAsk) : PTold × Lk × Int := if (L.ss.length : Int) ≤ a.n then (td0, L, 2) else (⟨0, 0, cntN t.moms (elt L.ss a.n.toNat) L.place t.moms.length, ⟨#[]⟩, [], []⟩, L, 0)
/-- What an ask that is one does: what is told, the new state, and a code. -/
def doP (t : PTr) (L : Lk) (a : PAsk) : PTold × Lk × Int :=
  if a.op = 1 then doStop L a
  else if a.op = 2 then doClear L a
  else if a.op = 3 then doMove L (nextP t L.ss L.place)
  else if a.op = 4 then doMove L (lastP t L.ss L.place)
  else if a.op = 5 then doMove L (intoP t L.place)
  else if a.op = 6 then doMove L (overP t L.place)
  else if a.op = 7 then doMove L (outP t L.place)
  else if a.op = 8 then doUndo L
  else if a.op = 9 then doTo t L a
  else if a.op = 10 then doWhere t L a
  else if a.op = 11 then doVars t L
  else if a.op = 12 then doValue t L a
  else doCount t L a
theorem doP_elim {t : PTr} {L : Lk} {a : PAsk} {Q : PTold × Lk × Int → Prop} (h1 : a.op = 1 → Q (doStop L a)) (h2 : a.op = 2 → Q (doClear L a)) (h3 : a.op = 3 → Q (doMove L (nextP t L.ss L.place))) (h4 : a.op = 4 → Q (doMove L (lastP t L.ss L.place)))
    (h5 : a.op = 5 → Q (doMove L (intoP t L.place))) (h6 : a.op = 6 → Q (doMove L (overP t L.place))) (h7 : a.op = 7 → Q (doMove L (outP t L.place))) (h8 : a.op = 8 → Q (doUndo L)) (h9 : a.op = 9 → Q (doTo t L a)) (h10 : a.op = 10 → Q (doWhere t L a))
    (h11 : a.op = 11 → Q (doVars t L)) (h12 : a.op = 12 → Q (doValue t L a)) (h13 : Q (doCount t L a)) : Q (doP t L a) := by
  unfold doP
  by_cases e : a.op = 1
  · rw [if_pos e]; exact h1 e
  rw [if_neg e]; clear e h1
  by_cases e : a.op = 2
  · rw [if_pos e]; exact h2 e
  rw [if_neg e]; clear e h2
  by_cases e : a.op = 3
  · rw [if_pos e]; exact h3 e
  rw [if_neg e]; clear e h3
  by_cases e : a.op = 4
  · rw [if_pos e]; exact h4 e
  rw [if_neg e]; clear e h4
  by_cases e : a.op = 5
  · rw [if_pos e]; exact h5 e
  rw [if_neg e]; clear e h5
  by_cases e : a.op = 6
  · rw [if_pos e]; exact h6 e
  rw [if_neg e]; clear e h6
  by_cases e : a.op = 7
  · rw [if_pos e]; exact h7 e
  rw [if_neg e]; clear e h7
  by_cases e : a.op = 8
  · rw [if_pos e]; exact h8 e
  rw [if_neg e]; clear e h8
  by_cases e : a.op = 9
  · rw [if_pos e]; exact h9 e
  rw [if_neg e]; clear e h9
  by_cases e : a.op = 10
  · rw [if_pos e]; exact h10 e
  rw [if_neg e]; clear e h10
  by_cases e : a.op = 11
  · rw [if_pos e]; exact h11 e
  rw [if_neg e]; clear e h11
  by_cases e : a.op = 12
  · rw [if_pos e]; exact h12 e
  rw [if_neg e]; exact h13
def askP (t : PTr) (L : Lk) (a : PAsk) : PTold × Lk :=
  if askOk a = true then
    (if (doP t L a).2.2 = 0 then ({ (doP t L a).1 with place := (doP t L a).2.1.place }, (doP t L a).2.1) else ({ td0 with code := (doP t L a).2.2, place := (doP t L a).2.1.place }, (doP t L a).2.1))
  else ({ td0 with code := 1, place := L.place }, L)
/-- Behind the first k asks: what was told, and the state. -/
def lkN (t : PTr) (asks : List PAsk) : Nat → List PTold × Lk
  | 0 => ([], lk0)
  | k + 1 => ((lkN t asks k).1 ++ [(askP t (lkN t asks k).2 (elt asks k)).1], (askP t (lkN t asks k).2 (elt asks k)).2)
theorem lkN_len (t : PTr) (asks : List PAsk) : ∀ k, (lkN t asks k).1.length = k
  | 0 => rfl
  | k + 1 => by simp [lkN, lkN_len t asks k]
def lookP (t : PTr) (asks : List PAsk) : List PTold := if (soundP t && decide (asks.length ≤ 500)) = true then (lkN t asks asks.length).1 else []

/-! ### what holds all along -/
structure LkOk (t : PTr) (L : Lk) : Prop where
  lo : -1 ≤ L.place
  hi : L.place ≤ t.moms.length
  ln : L.ss.length ≤ 50
  ok : L.ss.all stopOk = true
  pa : ∀ i, i < L.past.length → -1 ≤ elt L.past i ∧ elt L.past i ≤ t.moms.length
theorem lk0_ok (t : PTr) : LkOk t lk0 := ⟨by simp [lk0], by show (-1 : Int) ≤ _; omega, by simp [lk0], rfl, fun i hi => absurd hi (by simp [lk0])⟩
theorem LkOk.place {t : PTr} {L : Lk} (h : LkOk t L) : placeOk t L.place = true := inB_true.2 ⟨h.lo, h.hi⟩
theorem LkOk.good {t : PTr} {L : Lk} (h : LkOk t L) (hs : soundP t = true) : goodP t L.place = true := by unfold goodP; rw [hs, h.place]; rfl
theorem LkOk.stops {t : PTr} {L : Lk} (h : LkOk t L) (hs : soundP t = true) : stopsGood t L.ss L.place = true := by
  unfold stopsGood; rw [hs, h.place, h.ok]; simp [h.ln]
theorem LkOk.move {t : PTr} {L : Lk} (h : LkOk t L) {k : Int} (h1 : -1 ≤ k) (h2 : k ≤ t.moms.length) : LkOk t (L.move k) := by
  refine ⟨h1, h2, h.ln, h.ok, fun i hi => ?_⟩
  have hl : (L.past ++ [L.place]).length = L.past.length + 1 := by simp
  have hi : i < (L.past ++ [L.place]).length := hi
  show -1 ≤ elt (L.past ++ [L.place]) i ∧ elt (L.past ++ [L.place]) i ≤ _
  by_cases hc : i < L.past.length
  · rw [elt_app _ _ hc]; exact h.pa i hc
  · have : i = L.past.length := by omega
    subst this
    rw [elt_last]; exact ⟨h.lo, h.hi⟩
theorem firstB_le (p : Nat → Bool) (n : Nat) : ∀ d k, k + d ≤ n → firstB p n d k ≤ n
  | 0, _, _ => Nat.le_refl _
  | d + 1, k, h => by
    unfold firstB
    split
    · omega
    · exact firstB_le p n d (k + 1) (by omega)
theorem lastB_rng (p : Nat → Bool) : ∀ n, -1 ≤ lastB p n ∧ lastB p n < n
  | 0 => by simp [lastB]
  | n + 1 => by
    have := lastB_rng p n
    unfold lastB
    split <;> omega
theorem seek_rng {t : PTr} {k : Int} (hg : goodP t k = true) (q : Nat → Bool) : -1 ≤ seekP t k q ∧ seekP t k q ≤ t.moms.length := by
  unfold seekP
  rw [if_pos hg]
  by_cases hle : (k + 1).toNat ≤ t.moms.length
  · have := firstB_le q t.moms.length (t.moms.length - (k + 1).toNat) (k + 1).toNat (by omega)
    omega
  · rw [show t.moms.length - (k + 1).toNat = 0 by omega]
    show -1 ≤ ((t.moms.length : Nat) : Int) ∧ _
    unfold firstB
    omega
theorem next_rng {t : PTr} {L : Lk} (h : LkOk t L) (hs : soundP t = true) : -1 ≤ nextP t L.ss L.place ∧ nextP t L.ss L.place ≤ t.moms.length := by
  unfold nextP
  rw [if_pos (h.stops hs)]
  by_cases hle : (L.place + 1).toNat ≤ t.moms.length
  · have := firstB_le (anyP t.moms L.ss) t.moms.length (t.moms.length - (L.place + 1).toNat) (L.place + 1).toNat (by omega)
    omega
  · rw [show t.moms.length - (L.place + 1).toNat = 0 by omega]
    unfold firstB
    omega
theorem last_rng {t : PTr} {L : Lk} (h : LkOk t L) (hs : soundP t = true) : -1 ≤ lastP t L.ss L.place ∧ lastP t L.ss L.place ≤ t.moms.length := by
  unfold lastP
  rw [if_pos (h.stops hs)]
  have h1 := lastB_rng (anyP t.moms L.ss) L.place.toNat
  have := h.hi
  omega
theorem all_app {ss : List PStop} {s : PStop} (h : ss.all stopOk = true) (hs : stopOk s = true) : (ss ++ [s]).all stopOk = true := by simp [List.all_append] at *; exact ⟨h, hs⟩
theorem all_erase {ss : List PStop} (h : ss.all stopOk = true) (n : Nat) : (ss.eraseIdx n).all stopOk = true := by
  rw [List.all_eq_true] at *
  intro x hx
  exact h x (List.mem_of_mem_eraseIdx hx)
theorem askOk_stop {a : PAsk} (h : askOk a = true) (h1 : a.op = 1) : stopOk a.stop = true := by
  unfold askOk at h
  rw [if_pos h1] at h
  simp only [Bool.and_eq_true] at h
  exact h.2
theorem askOk_n {a : PAsk} (h : askOk a = true) : -1 ≤ a.n := by
  unfold askOk at h
  split at h
  · simp only [Bool.and_eq_true, decide_eq_true_eq] at h; omega
  split at h
  · simp only [Bool.and_eq_true, inB_true] at h; omega
  split at h
  · simp only [Bool.and_eq_true, inB_true] at h; omega
  split at h
  · simp only [Bool.and_eq_true, inB_true] at h; omega
  split at h
  · simp only [Bool.and_eq_true, decide_eq_true_eq] at h; omega
  · simp only [Bool.and_eq_true, decide_eq_true_eq] at h; omega
theorem doP_ok {t : PTr} {L : Lk} {a : PAsk} (h : LkOk t L) (hs : soundP t = true) (ha : askOk a = true) : LkOk t (doP t L a).2.1 := by
  have hg := h.good hs
  refine doP_elim (Q := fun r => LkOk t r.2.1) (fun h1 => ?_) (fun _ => ?_) (fun _ => h.move (next_rng h hs).1 (next_rng h hs).2) (fun _ => h.move (last_rng h hs).1 (last_rng h hs).2) (fun _ => h.move (seek_rng hg _).1 (seek_rng hg _).2)
    (fun _ => h.move (seek_rng hg _).1 (seek_rng hg _).2) (fun _ => h.move (seek_rng hg _).1 (seek_rng hg _).2) (fun _ => ?_) (fun _ => ?_) (fun _ => h) (fun _ => h) (fun _ => ?_) ?_
  · unfold doStop
    split
    · exact h
    · refine ⟨h.lo, h.hi, ?_, all_app h.ok (askOk_stop ha h1), h.pa⟩
      have := h.ln
      show (L.ss ++ [a.stop]).length ≤ 50
      simp; omega
  · unfold doClear
    split
    · exact h
    · refine ⟨h.lo, h.hi, ?_, all_erase h.ok _, h.pa⟩
      have := h.ln
      show (L.ss.eraseIdx a.n.toNat).length ≤ 50
      have := List.length_eraseIdx_le L.ss a.n.toNat
      omega
  · unfold doUndo
    split
    · exact h
    · rename_i h0
      have h1 := h.pa (L.past.length - 1) (by omega)
      refine ⟨h1.1, h1.2, h.ln, h.ok, fun i hi => ?_⟩
      have hi : i < (L.past.take (L.past.length - 1)).length := hi
      rw [List.length_take] at hi
      show -1 ≤ elt (L.past.take (L.past.length - 1)) i ∧ elt (L.past.take (L.past.length - 1)) i ≤ _
      have e : elt (L.past.take (L.past.length - 1)) i = elt L.past i := by
        rw [elt_eq (by rw [List.length_take]; omega), List.getElem_take, elt_eq (by omega)]
      rw [e]
      exact h.pa i (by omega)
  · unfold doTo
    split
    · exact h
    · exact h.move (askOk_n ha) (by omega)
  · unfold doValue
    split
    · exact h
    · exact h
  · unfold doCount
    split
    · exact h
    · exact h
theorem askP_ok {t : PTr} {L : Lk} (a : PAsk) (h : LkOk t L) (hs : soundP t = true) : LkOk t (askP t L a).2 := by
  unfold askP
  split
  · rename_i ha
    split
    · exact doP_ok h hs ha
    · exact doP_ok h hs ha
  · exact h
theorem lkN_ok {t : PTr} (asks : List PAsk) (hs : soundP t = true) : ∀ k, LkOk t (lkN t asks k).2
  | 0 => lk0_ok t
  | k + 1 => askP_ok _ (lkN_ok asks hs k) hs
theorem doP_past {t : PTr} {L : Lk} {a : PAsk} : (doP t L a).2.1.past.length ≤ L.past.length + 1 := by
  have hm : ∀ k, (L.move k).past.length ≤ L.past.length + 1 := fun k => by
    show (L.past ++ [L.place]).length ≤ _
    simp
  have h0 : L.past.length ≤ L.past.length + 1 := Nat.le_succ _
  refine doP_elim (Q := fun r => r.2.1.past.length ≤ L.past.length + 1) (fun _ => ?_) (fun _ => ?_) (fun _ => hm _) (fun _ => hm _) (fun _ => hm _) (fun _ => hm _) (fun _ => hm _) (fun _ => ?_) (fun _ => ?_) (fun _ => h0) (fun _ => h0) (fun _ => ?_) ?_
  · unfold doStop
    split
    · exact h0
    · exact h0
  · unfold doClear
    split
    · exact h0
    · exact h0
  · unfold doUndo
    split
    · exact h0
    · show (L.past.take (L.past.length - 1)).length ≤ _
      rw [List.length_take]; omega
  · unfold doTo
    split
    · exact h0
    · exact hm _
  · unfold doValue
    split
    · exact h0
    · exact h0
  · unfold doCount
    split
    · exact h0
    · exact h0
theorem askP_past {t : PTr} {L : Lk} {a : PAsk} : (askP t L a).2.past.length ≤ L.past.length + 1 := by
  unfold askP
  split
  · split
    · exact doP_past
    · exact doP_past
  · exact Nat.le_succ _
theorem lkN_past (t : PTr) (asks : List PAsk) : ∀ k, (lkN t asks k).2.past.length ≤ k
  | 0 => Nat.le_refl _
  | k + 1 => Nat.le_trans askP_past (Nat.succ_le_succ (lkN_past t asks k))
end Go.Proofs.Lens
