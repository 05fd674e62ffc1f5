/- markTrace: it writes into the trace's own blocks alone. -/
import Derived.Test.YtcklnjjbhngbcaaDoorL5a
import Derived.Test.YtcklnjjbhngbcaaDoorL2
namespace Go.Proofs.YtcklnjjbhngbcaaDoor
open Go.RowKit Go.Proofs.Lens

/-- From w to w' blocks of lo .. hi alone have turned; blocks of cells stay what they are, but for what their cells hold. -/
structure MkTr (lo hi : Nat) (w w' : World) : Prop where
  os : w'.os = w.os
  tape : w'.tape = w.tape
  output : w'.output = w.output
  size : w.heap.size ≤ w'.heap.size
  block : ∀ j, j < w.heap.size → (j < lo ∨ hi ≤ j) → w'.heap[j]? = w.heap[j]?
  shp : ∀ g e N f, Blk w g e N f → ∃ f', Blk w' g e N f'
section
variable {lo hi : Nat} {w w1 w2 : World}
theorem MkTr.refl (lo hi : Nat) (w : World) : MkTr lo hi w w := ⟨rfl, rfl, rfl, Nat.le_refl _, fun _ _ _ => rfl, fun _ _ _ f h => ⟨f, h⟩⟩
theorem MkTr.trans (h : MkTr lo hi w w1) (k : MkTr lo hi w1 w2) : MkTr lo hi w w2 :=
  ⟨k.os.trans h.os, k.tape.trans h.tape, k.output.trans h.output, Nat.le_trans h.size k.size, fun j hj hl => (k.block j (Nat.lt_of_lt_of_le hj h.size) hl).trans (h.block j hj hl),
    fun g e N f hB => by obtain ⟨f1, h1⟩ := h.shp g e N f hB; exact k.shp g e N f1 h1⟩
theorem MkTr.then (h : MkTr lo hi w w1) (k : Below w1.heap.size w1 w2) : MkTr lo hi w w2 :=
  h.trans ⟨k.os, k.tape, k.output, k.size, fun j hj _ => k.block j hj, fun _ _ _ f hB => ⟨f, hB.later k⟩⟩
theorem blk_set_any {W : World} {g e N : Nat} {f : Nat → Value} (hB : Blk W g e N f) (b j : Nat) (u : Value) : ∃ f', Blk (W.setCell ⟨b, j, none⟩ u) g e N f' := by
  by_cases hg : g = b
  · subst hg
    by_cases hj : j < N
    · exact ⟨_, hB.set hj u⟩
    · obtain ⟨cur, h1, h2, h3⟩ := hB
      refine ⟨f, cur, ?_, h2, h3⟩
      simp only [World.setCell, Array.getElem?_modify]
      rw [if_pos trivial, h1]
      simp only [Option.map_some]
      congr 2
      exact Array.setIfInBounds_eq_of_size_le (by omega)
  · exact ⟨f, hB.far hg u⟩
theorem MkTr.set (h : MkTr lo hi w w1) {b : Nat} (hl : lo ≤ b) (hh : b < hi) (j : Nat) (u : Value) : MkTr lo hi w (w1.setCell ⟨b, j, none⟩ u) :=
  h.trans ⟨rfl, rfl, rfl, by rw [World.size_setCell]; exact Nat.le_refl _, fun k _ hk => Below.heap_setCell _ _ _ _ (by dsimp only; omega), fun _ _ _ _ hB => blk_set_any hB b j u⟩
theorem MkTr.below (h : MkTr lo hi w w1) (hl : lo ≤ w.heap.size) : Below lo w w1 := ⟨h.os, h.tape, h.output, h.size, fun j hj => h.block j (by omega) (.inl hj)⟩
end

/-- A slice in a block of lo .. hi, of n elements of sz cells of type e. -/
def ShSl (w : World) (lo hi : Nat) (e : TypeId) (sz n : Nat) (v : Value) : Prop := ∃ g c, v = .slice (some ⟨g, 0, none⟩) n c ∧ lo ≤ g ∧ g < hi ∧ ∃ f, Blk w g e (n * sz) f
theorem ShSl.tr {w w' : World} {lo hi : Nat} {e : TypeId} {sz n : Nat} {v : Value} (h : ShSl w lo hi e sz n v) (k : MkTr lo hi w w') : ShSl w' lo hi e sz n v := by
  obtain ⟨g, c, h1, h2, h3, f, hB⟩ := h
  exact ⟨g, c, h1, h2, h3, k.shp _ _ _ _ hB⟩
theorem ShSl.later {w w' : World} {lo hi : Nat} {e : TypeId} {sz n : Nat} {v : Value} (h : ShSl w lo hi e sz n v) (k : Below w.heap.size w w') : ShSl w' lo hi e sz n v := by
  obtain ⟨g, c, h1, h2, h3, f, hB⟩ := h
  exact ⟨g, c, h1, h2, h3, f, hB.later k⟩
def ShVars (w : World) (lo hi : Nat) (v : Value) : Prop := ∃ n, n ≤ 1048576 ∧ ShSl w lo hi 114 2 n v
def ShMoms (w : World) (lo hi n : Nat) (v : Value) : Prop := ∃ g c, v = .slice (some ⟨g, 0, none⟩) n c ∧ lo ≤ g ∧ g < hi ∧ ∃ f, Blk w g 70 (n * 6) f ∧ ∀ i, i < n → ShVars w lo hi (f (i * 6 + 5))
theorem ShMoms.later {w w' : World} {lo hi n : Nat} {v : Value} (h : ShMoms w lo hi n v) (k : Below w.heap.size w w') : ShMoms w' lo hi n v := by
  obtain ⟨g, c, h1, h2, h3, f, hB, hv⟩ := h
  exact ⟨g, c, h1, h2, h3, f, hB.later k, fun i hi => by obtain ⟨m, a, b⟩ := hv i hi; exact ⟨m, a, b.later k⟩⟩
theorem OwStrs.sh {w : World} {lo : Nat} {v : Value} {xs : List ByteArray} (h : OwStrs w lo v xs) : ShSl w lo w.heap.size 9 1 xs.length v := by
  obtain ⟨g, c, f, h1, h2, h3, _⟩ := h
  exact ⟨g, c, h1, h2, h3.lt, f, by rw [Nat.mul_one]; exact h3⟩
theorem OwMoms.sh {w : World} {lo : Nat} {v : Value} {ms : List PMom} (h : OwMoms w lo v ms) (hs : smMoms ms) : ShMoms w lo w.heap.size ms.length v := by
  obtain ⟨g, c, f, h1, h2, h3, h4⟩ := h
  refine ⟨g, c, h1, h2, h3.lt, f, h3, fun i hi => ?_⟩
  obtain ⟨_, g', c', f', a1, a2, a3, _⟩ := h4 i hi
  exact ⟨_, (hs.2 i hi).2.1, g', c', a1, a2, a3.lt, f', a3⟩

/-- What the marks of a part of the trace leave. -/
def MtPost (w : World) (lo hi : Nat) (k : Int) (d : Nat) (e : Ending) (w' : World) : Prop := ∃ r : Int, e = .returned (.int .i64 r) ∧ k ≤ r ∧ r ≤ k + d ∧ MkTr lo hi w w'
/-- Blocks of cells of another type than e0 are as they were. -/
def KpT (e0 : TypeId) (w w' : World) : Prop := ∀ b e N f, Blk w b e N f → e ≠ e0 → Blk w' b e N f
theorem KpT.then {e0 : TypeId} {w w1 w2 : World} (h : KpT e0 w w1) (k : Below w1.heap.size w1 w2) : KpT e0 w w2 := fun b e N f hB he => (h b e N f hB he).later k
theorem KpT.set {e0 : TypeId} {w w1 : World} (h : KpT e0 w w1) {g N : Nat} {f : Nat → Value} (hB : Blk w1 g e0 N f) (j : Nat) (u : Value) : KpT e0 w (w1.setCell ⟨g, j, none⟩ u) := fun b e N' f' hb he =>
  (h b e N' f' hb he).far (fun hh => (h b e N' f' hb he).ne hB he hh) _
def MvPost (e0 : TypeId) (w : World) (lo hi : Nat) (k : Int) (d : Nat) (e : Ending) (w' : World) : Prop := ∃ r : Int, e = .returned (.int .i64 r) ∧ k ≤ r ∧ r ≤ k + d ∧ MkTr lo hi w w' ∧ KpT e0 w w'
end Go.Proofs.YtcklnjjbhngbcaaDoor
