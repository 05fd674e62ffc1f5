/- Lemmas and contracts of functions that the theorem of this claim leans on (texts B19). -/
import Derived.Test.YtcklnjjbhngbcaaGreatDoorRowUnz06
namespace Go.Proofs.Lens
open Go Go.RowKit Lib

/-- From i on, each of the chain waits for the one ahead of it, and z for the last. -/
def chainOk (md : Region.Mode) (ops : Array Oper) (z : Nat) : Nat → List Nat → Bool
  | i, [] => Region.waitsFor md ops z i
  | i, c :: cs => Region.waitsFor md ops c i && chainOk md ops z c cs
section
variable {P : Program} {ops : Array Oper} {md : Region.Mode} {Q : Exit → Act → World → Prop} {S : World → Prop} {z : Nat}
theorem not_ready {listed : Array Bool} {i j : Nat} (hw : Region.waitsFor md ops j i = true) (hi : listed.getD i true = false) : j ∉ Region.ready md ops listed := by
  intro hj
  obtain ⟨hjun, oj, hoj, hall⟩ := mem_ready.1 hj
  obtain ⟨oz, hoz, e, he, hb, hon⟩ := Region.waitsFor_spec hw
  rw [hoj] at hoz
  cases hoz
  have h2 := hall e he hb
  rw [hon, getD_both hi] at h2
  cases h2
theorem chain_not {listed : Array Bool} : ∀ (C : List Nat) (i : Nat), chainOk md ops z i C = true → listed.getD i true = false → (∀ c ∈ C, listed.getD c true = false) → z ∉ Region.ready md ops listed ∧ ∀ c ∈ C, c ∉ Region.ready md ops listed
  | [], i, h, hi, _ => ⟨not_ready h hi, fun c hc => absurd hc (by simp)⟩
  | c :: cs, i, h, hi, hC => by
    unfold chainOk at h
    rw [Bool.and_eq_true] at h
    have hc := hC c (by simp)
    obtain ⟨h1, h2⟩ := chain_not cs c h.2 hc (fun d hd => hC d (by simp [hd]))
    refine ⟨h1, fun d hd => ?_⟩
    rcases List.mem_cons.1 hd with rfl | hd
    · exact not_ready h.1 hi
    · exact h2 d hd
theorem wpAnyF_firstC {i : Nat} {oi : Oper} {v : Value} (C : List Nat) (hi : ops[i]? = some oi) (hsel : ∀ (j : Nat) (o : Oper) cs b, ops[j]? = some o → o.op ≠ .select cs b)
    (hQ : ∀ c a w, Q (.panic c) (a.put oi.dst v) w → Q (.panic c) a w) (hz : chainOk md ops z i C = true) :
    ∀ (fuel : Nat) (listed : Array Bool) (a : Act) (w : World), (∀ c ∈ C, listed.getD c true = false) →
      (∀ j oj, ops[j]? = some oj → j ≠ i → listed.getD j true = false → (∀ e ∈ oj.after, Region.binds md e = true → e.on ≠ i) → oi.apart ops oj = true) →
      i ∈ Region.ready md ops listed → YieldsIf P ops S oi v a → S w →
      wpAnyF P md ops Q S z fuel (listed.setIfInBounds i true) (a.put oi.dst v) w → wpAnyF P md ops Q S z (fuel + 1) listed a w := by
  intro fuel
  induction fuel with
  | zero =>
    intro listed a w _ _ hr hy hS H
    refine ⟨fun h => (by rw [h] at hr; cases hr), fun j hj => ?_⟩
    by_cases hji : j = i
    · subst hji; exact hy.wpOp hi hS ⟨fun _ => hS, H⟩
    · have := ready_mono hj hji
      rw [H.1] at this
      cases this
  | succ fuel ih =>
    intro listed a w hCl hfree hr hy hS H
    refine ⟨fun h => (by rw [h] at hr; cases hr), fun j hj => ?_⟩
    by_cases hji : j = i
    · subst hji; exact hy.wpOp hi hS ⟨fun _ => hS, H⟩
    · have hun := (mem_ready.1 hr).1
      have h1 := H.2 j (ready_mono hj hji)
      obtain ⟨hjun, oj, hoj, hall⟩ := mem_ready.1 hj
      obtain ⟨hnz, hnC⟩ := chain_not C i hz hun hCl
      have hjz : j ≠ z := fun hh => hnz (hh ▸ hj)
      have hjC : ∀ c ∈ C, j ≠ c := fun c hc hh => hnC c hc (hh ▸ hj)
      have hnot : ∀ e ∈ oj.after, Region.binds md e = true → e.on ≠ i := fun e he hb heq => by
        have h1 := hall e he hb
        rw [heq, getD_both hun] at h1
        cases h1
      have h2 := wpOp_putIf hoj (hfree j oj hoj hji hjun hnot) (fun cs b => hsel i oi cs b hi) (fun cs b => hsel j oj cs b hoj) hQ hy h1
      have hfree' : ∀ k ok, ops[k]? = some ok → k ≠ i → (listed.setIfInBounds j true).getD k true = false →
          (∀ e ∈ ok.after, Region.binds md e = true → e.on ≠ i) → oi.apart ops ok = true := fun k ok hk hki hun hno => by
        refine hfree k ok hk hki ?_ hno
        by_cases hjk : j = k
        · subst hjk; exact hjun
        · rw [getD_set_ne true hjk] at hun; exact hun
      have hCl' : ∀ c ∈ C, (listed.setIfInBounds j true).getD c true = false := fun c hc => by rw [getD_set_ne true (hjC c hc)]; exact hCl c hc
      refine wpOp_mono (fun a' w' h3 => ⟨h3.2.1, ih (listed.setIfInBounds j true) a' w' hCl' hfree' (ready_mono hr (Ne.symm hji)) h3.1 (h3.2.1 hjz) ?_⟩) h2
      rw [Array.setIfInBounds_comm _ _ hji]
      exact h3.2.2
/-- Number i is taken first; z waits for it through the chain C. -/
theorem wpAnyF_takeC (i : Nat) (C : List Nat) {oi : Oper} {v : Value} {fuel : Nat} {listed : Array Bool} {a : Act} {w : World} (hi : ops[i]? = some oi)
    (hs : (Region.noSelect ops && chainOk md ops z i C && C.all (fun c => !listed.getD c true) && Region.free md ops listed i && (Region.ready md ops listed).contains i) = true)
    (hQ : ∀ c a w, Q (.panic c) (a.put oi.dst v) w → Q (.panic c) a w) (hS : S w) (hw : Region.wanted oi (yielded ops a.tmps) = true) (hy : ∀ w, S w → (execOp a.eval oi).run P w = .ok (.value v) w)
    (h : wpAnyF P md ops Q S z fuel (listed.setIfInBounds i true) (a.put oi.dst v) w) : wpAnyF P md ops Q S z (fuel + 1) listed a w := by
  simp only [Bool.and_eq_true] at hs
  exact wpAnyF_firstC C hi (Region.noSelect_spec hs.1.1.1.1) hQ hs.1.1.1.2 fuel listed a w (fun c hc => by simpa using List.all_eq_true.1 hs.1.1.2 c hc) (Region.free_spec hi hs.1.2) (by simpa using hs.2) (.inl ⟨hw, hy⟩) hS h
end
end Go.Proofs.Lens
