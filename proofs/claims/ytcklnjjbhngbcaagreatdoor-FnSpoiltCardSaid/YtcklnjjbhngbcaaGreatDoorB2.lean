/- Blocks that a call has made: what their cells hold, one store on; make with a size that is a variable. -/
import Derived.Test.YtcklnjjbhngbcaaGreatDoorB0
namespace Go.Proofs.Lens
open Go.RowKit

/-- f, but v at j. -/
def upd (f : Nat → Value) (j : Nat) (v : Value) (i : Nat) : Value := if i = j then v else f i
theorem upd_same (f : Nat → Value) (j : Nat) (v : Value) : upd f j v j = v := by simp [upd]
theorem upd_ne (f : Nat → Value) {i j : Nat} (v : Value) (h : i ≠ j) : upd f j v i = f i := by simp [upd, h]

/-- Block g holds N cells of element type e, not frozen: cell j is f j. -/
def Blk (w : World) (g : Nat) (e : TypeId) (N : Nat) (f : Nat → Value) : Prop :=
  ∃ cur : Array Value, w.heap[g]? = some (.cells cur e (0, 0)) ∧ cur.size = N ∧ ∀ j, j < N → cur[j]? = some (f j)
section
variable {w w' : World} {g : Nat} {e : TypeId} {N : Nat} {f : Nat → Value}
theorem Blk.cell (h : Blk w g e N f) {j : Nat} (hj : j < N) : w.cell? ⟨g, j, none⟩ = some (f j) := by
  obtain ⟨cur, h1, h2, h3⟩ := h
  unfold World.cell?
  rw [h1]
  exact h3 j hj
theorem Blk.free (h : Blk w g e N f) (j : Nat) : w.frozen? ⟨g, j, none⟩ = false := by
  obtain ⟨cur, h1, _⟩ := h
  unfold World.frozen?
  rw [h1]
  simp
theorem Blk.lt (h : Blk w g e N f) : g < w.heap.size := by
  obtain ⟨cur, h1, _⟩ := h
  exact (Array.getElem?_eq_some_iff.1 h1).1
theorem Blk.keep (h : Blk w g e N f) (hk : w'.heap[g]? = w.heap[g]?) : Blk w' g e N f := by
  obtain ⟨cur, h1, h2⟩ := h
  exact ⟨cur, hk.trans h1, h2⟩
theorem Blk.later (h : Blk w g e N f) (hb : Below w.heap.size w w') : Blk w' g e N f := h.keep (hb.block g h.lt)
theorem Blk.alloc (h : Blk w g e N f) (o : Obj) : Blk (w.alloc o) g e N f := h.keep (Below.heap_alloc w o g h.lt)
theorem Blk.drew (h : Blk w g e N f) : Blk w.drew g e N f := h
theorem Blk.far (h : Blk w g e N f) {p : Addr} (hp : g ≠ p.block) (u : Value) : Blk (w.setCell p u) g e N f := h.keep (Below.heap_setCell w p u g hp)
theorem Blk.set (h : Blk w g e N f) {j : Nat} (hj : j < N) (v : Value) : Blk (w.setCell ⟨g, j, none⟩ v) g e N (upd f j v) := by
  obtain ⟨cur, h1, h2, h3⟩ := h
  refine ⟨cur.setIfInBounds j v, ?_, by simp [h2], fun i hi => ?_⟩
  · simp only [World.setCell, Array.getElem?_modify]
    rw [if_pos trivial, h1]
    rfl
  · rw [Array.getElem?_setIfInBounds]
    by_cases hij : j = i
    · subst hij
      rw [if_pos rfl, if_pos (by omega), upd_same]
    · rw [if_neg hij, upd_ne _ _ (by omega)]
      exact h3 i hi
theorem Blk.congr {f' : Nat → Value} (h : Blk w g e N f) (hf : ∀ j, j < N → f j = f' j) : Blk w g e N f' := by
  obtain ⟨cur, h1, h2, h3⟩ := h
  exact ⟨cur, h1, h2, fun j hj => by rw [h3 j hj, hf j hj]⟩
theorem Blk.new (w : World) (C : Array Value) (e : TypeId) (f : Nat → Value) (hC : ∀ j, j < C.size → C[j]? = some (f j)) : Blk (w.alloc (.cells C e)) w.heap.size e C.size f :=
  ⟨C, by show (w.heap.push _)[w.heap.size]? = _; simp, rfl, hC⟩
theorem Blk.ne {g' : Nat} {e' : TypeId} {N' : Nat} {f' : Nat → Value} (h : Blk w g e N f) (h' : Blk w g' e' N' f') (he : e ≠ e') : g ≠ g' := by
  rintro rfl
  obtain ⟨_, h1, _⟩ := h
  obtain ⟨_, h2, _⟩ := h'
  rw [h1] at h2
  injection h2 with h2
  injection h2 with _ h2
  exact he h2
theorem Blk.made (w : World) (C : Array Value) (e : TypeId) : Blk (w.alloc (.cells C e)) w.heap.size e C.size (fun j => C.getD j undef) := Blk.new w C e _ (fun j hj => by simp [hj])
/-- A block that is read as a slice from its head. -/
theorem Blk.rd (h : Blk w g e N f) {n sz c : Nat} (hn : n * sz ≤ N) (hm : n ≤ 9223372036854775807) : RdSl w sz n (fun i j => f (i * sz + j)) (.slice (some ⟨g, 0, none⟩) n c) := by
  refine ⟨_, c, rfl, hm, fun hp => ⟨g, 0, rfl, fun i hi j hj => ?_⟩⟩
  have : i * sz + j < N := by
    have h1 : (i + 1) * sz ≤ n * sz := Nat.mul_le_mul_right _ (by omega)
    rw [Nat.add_mul] at h1
    omega
  rw [Nat.zero_add]
  exact h.cell this
end
theorem mul_lt {i n sz j : Nat} (hi : i < n) (hj : j < sz) : i * sz + j < n * sz := by
  have h1 : (i + 1) * sz ≤ n * sz := Nat.mul_le_mul_right _ (by omega)
  rw [Nat.add_mul] at h1
  omega

/-- 'make([]T, n)' with n a variable: the run, its cells under a name. -/
theorem make_law {P : Program} (t e : TypeId) {zero : Value} {sz bytes : Nat} (ht : P.underlying t = some (.slice e)) (hinfo : (P.info? e).map (fun i => (i.zero, i.size, i.bytes)) = some (some zero, sz, bytes))
    (n : Nat) (hn : bytes * n ≤ 281474976710656) (hm : n ≤ 9223372036854775807) :
    ∃ C : Array Value, C.size = n * sz ∧ (∀ j, j < n * sz → C[j]? = some (zero.cells[j % zero.cells.size]!)) ∧
      ∀ w : World, (Instr.makeSlice t (.int .i64 n) (.int .i64 n)).run P w = .ok (.slice (some ⟨w.heap.size, 0, none⟩) n n) (w.alloc (.cells C e)) := by
  cases hi : P.info? e with
  | none => rw [hi] at hinfo; cases hinfo
  | some i =>
    rw [hi] at hinfo
    simp only [Option.map_some, Option.some.injEq, Prod.mk.injEq] at hinfo
    obtain ⟨hz, rfl, rfl⟩ := hinfo
    refine ⟨madeCells zero.cells (n * i.size), size_madeCells _ _, fun j hj => by simp [madeCells, hj], fun w => ?_⟩
    have := run_make (P := P) w t e i zero ht hi hz .i64 .i64 (n : Int) (n : Int) (by omega) (by omega) (by rw [← Int.natCast_mul]; omega) (by omega)
    simpa using this
end Go.Proofs.Lens
