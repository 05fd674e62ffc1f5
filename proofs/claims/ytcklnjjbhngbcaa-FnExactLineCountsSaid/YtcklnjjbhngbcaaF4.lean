/- m[k]++ : the entry is made or found, and then stored into. -/
import Derived.Test.YtcklnjjbhngbcaaF3
import Derived.WideKeyEntry
namespace Go.Proofs.Lens
open Go Go.RowKit Go.MapKept Go.ChangeMaps
open Go.WideElems (Fit rd rg pl)

section
variable {α β : Type} {P : Program} {t kt et : TypeId} {kV : α → Value} {okK : α → Prop} {eV : β → Value} {eL : β → Lit} {okE : β → Prop} {z : β}
theorem OwM.at_block {w w' : World} {b n : Nat} {M : α → Option β} (h : OwM P kt et kV okK eL w b n M) (he : w'.heap[b]? = w.heap[b]?) : OwM P kt et kV okK eL w' b n M := by
  obtain ⟨D, ⟨es, c, h1, h2⟩, h3⟩ := h
  exact ⟨D, ⟨es, c, he.trans h1, h2⟩, h3⟩
/-- To make the entry, or to find it, is to store what a look-up gives. -/
theorem entry_is_update (K : WideMaps.KeyLaw P kt) (ht : P.underlying t = some (.map kt et)) {z0 : Value} (hz : ∀ u : World, (zeroValue et).run P u = .ok z0 u) {w : World} {b clock : Nat} {es : Array MapEntry} (hb : w.heap[b]? = some (.map es clock))
    (hks : ∀ e ∈ es.toList, ∃ l, keyOf P kt e.key = some l) {key : Value} {kl : Lit} (hkey : keyOf P kt key = some kl) :
    ∃ v0 st w1, (Instr.mapEntry t (.map (some b)) key).run P w = .ok (.tuple #[v0, goInt st]) w1 ∧ (Instr.mapUpdate t (.map (some b)) key v0).run P w = .ok () w1 ∧ (Instr.lookup t (.map (some b)) key false).run P w = .ok v0 w := by
  rcases K.find w hkey es.toList hks with ⟨h1, h2⟩ | ⟨j, e0, h1, h2, h3⟩
  · refine ⟨z0, clock, setBlock w b (.map (es.push ⟨key, z0, clock⟩) (clock + 1)), ?_, ?_, ?_⟩
    · simp [Instr.mapEntry, run_underlying ht, MapKept.run_getObj_map hb, K.check w false hkey, h1, hz, MapKept.run_setObj_map _ hb, Result.andThen, setBlock]
    · simp [Instr.mapUpdate, run_underlying ht, MapKept.run_getObj_map hb, K.check w false hkey, h1, MapKept.run_setObj_map _ hb, Result.andThen, setBlock]
    · simp [Instr.lookup, run_underlying ht, MapKept.run_getObj_map hb, K.check w _ hkey, h1, hz, Result.andThen]
  · have hj : es[j]? = some e0 := by simpa using h2
    refine ⟨e0.val, e0.born, setBlock w b (.map (es.modify j (fun e' => { e' with key := key, val := e0.val })) clock), ?_, ?_, ?_⟩
    · have hm : es.modify j (fun e => { e with key := key }) = es.modify j (fun e' => { e' with key := key, val := e0.val }) := by
        apply Array.ext'
        rw [Array.toList_modify, Array.toList_modify, modify_eq_set _ _ _ _ h2, modify_eq_set _ _ _ _ h2]
      simp [Instr.mapEntry, run_underlying ht, MapKept.run_getObj_map hb, K.check w false hkey, h1, hj, h3, K.stays w hkey, hm, MapKept.run_setObj_map _ hb, Result.andThen, setBlock]
    · simp [Instr.mapUpdate, run_underlying ht, MapKept.run_getObj_map hb, K.check w false hkey, h1, hj, h3, K.stays w hkey, MapKept.run_setObj_map _ hb, Result.andThen, setBlock]
    · simp [Instr.lookup, run_underlying ht, MapKept.run_getObj_map hb, K.check w _ hkey, h1, Result.andThen]
theorem OwM.entry (T : MTy P t kt et kV okK eV eL okE z) (K : WideMaps.KeyLaw P kt) {w : World} {b n : Nat} {M : α → Option β} (h : OwM P kt et kV okK eL w b n M) {x : α} (hx : okK x) (hok : okE ((M x).getD z)) (hn : n + 1 < maxLen) :
    ∃ v0 st w1, (Instr.mapEntry t (.map (some b)) (kV x)).run P w = .ok (.tuple #[v0, goInt st]) w1 ∧ w.grownBy w1 (some b) ∧ (Instr.lookup t (.map (some b)) (kV x) false).run P w1 = .ok (eV ((M x).getD z)) w1 ∧ b < w1.heap.size ∧
      ∀ w2 y, okE y → w2.heap[b]? = w1.heap[b]? → ∃ w3, (Instr.entryStore t (.map (some b)) (goInt st) (eV y)).run P w2 = .ok () w3 ∧ OwM P kt et kV okK eL w3 b (n + 1) (setM M x y) ∧ w2.grownBy w3 (some b) := by
  have H := h
  obtain ⟨l, hl⟩ := T.key x hx
  have hlk := OwM.look T h hx
  obtain ⟨D, ⟨es, clock, hb, F, hs, rfl⟩, h2⟩ := h
  obtain ⟨v0, st, es1, clock1, hrun, -, hst⟩ := WideElems.entry_then_store K T.und T.zero hb F hl
  obtain ⟨v0', st', w1, hrun', hup, hlk'⟩ := entry_is_update K T.und T.zero hb F.keys hl
  rw [hrun] at hrun'
  simp only [Result.ok.injEq, Value.tuple.injEq, Array.mk.injEq, List.cons.injEq, and_true] at hrun'
  obtain ⟨⟨rfl, -⟩, hw⟩ := hrun'
  rw [hlk] at hlk'
  have hv : eV ((M x).getD z) = v0 := by
    simp only [Result.ok.injEq, and_true] at hlk'
    exact hlk'
  subst hv
  obtain ⟨w1', hup', hO1, hg1⟩ := OwM.update T H hx hok (Nat.lt_of_succ_lt hn)
  rw [hup'] at hup
  simp only [Result.ok.injEq, true_and] at hup
  subst hup
  have hl1 := OwM.look T hO1 hx
  have hm : (setM M x ((M x).getD z) x).getD z = (M x).getD z := by simp [setM]
  rw [hm] at hl1
  have hblk : w1'.heap[b]? = some (.map es1 clock1) := by rw [← hw]; exact heap_setBlock_same hb _
  refine ⟨_, st, w1', by rw [hrun, hw], hg1, hl1, hO1.lt, fun w2 y hy hw2 => ?_⟩
  obtain ⟨es', clock', hs1, hs2⟩ := hst w2 (eV y) (hw2.trans hblk)
  obtain ⟨w3', hup3, hO3, -⟩ := OwM.update T H hx hy (Nat.lt_of_succ_lt hn)
  rw [hup3] at hs2
  simp only [Result.ok.injEq, true_and] at hs2
  have hw2b := hw2.trans hblk
  refine ⟨_, hs1, hO3.at_block ?_, ⟨rfl, rfl, rfl, by simp [setBlock], fun i _ hi => heap_setBlock_other hw2b _ (fun e => hi (by rw [e]))⟩⟩
  rw [hs2, heap_setBlock_same hw2b, heap_setBlock_same hb]
end
end Go.Proofs.Lens
namespace Go.Proofs.Ytcklnjjbhngbcaa
open Go.RowKit Go.Proofs.Lens
theorem k_spot : WideMaps.KeyLaw Try.prog 161 := deep_law_laid S0.laid (m := 2) (by omega) (of_decide_eq_true (by kernel_rfl)) (by kernel_rfl) (by kernel_rfl)
end Go.Proofs.Ytcklnjjbhngbcaa
