/- Lemmas and contracts of functions that the theorem of this claim leans on (texts B2, B3, B5, B8, B6, B1, B9). -/
import Derived.Test.YtcklnjjbhngbcaaGreatDoorRowUnz02
import Derived.Deep.AppendLies
import Derived.OwnWalk
import Derived.Test.YtcklnjjbhngbcaaGreatDoorRowUnz01
namespace Go.Proofs.Lens
open Go.RowKit

/-- f, but v at j. -/
def upd (f : Nat → Value) (j : Nat) (v : Value) (i : Nat) : Value := if i = j then v else f i
theorem upd_same (f : Nat → Value) (j : Nat) (v : Value) : upd f j v j = v := by simp [upd]
theorem upd_ne (f : Nat → Value) {i j : Nat} (v : Value) (h : i ≠ j) : upd f j v i = f i := by simp [upd, h]

/-- Block g holds N cells of element type e, not frozen: cell j is f j. -/
def Blk (w : World) (g : Nat) (e : TypeId) (N : Nat) (f : Nat → Value) : Prop :=
  ∃ cur : Array Value, w.heap[g]? = some (.cells cur e (0, 0)) ∧ cur.size = N ∧ ∀ j, j < N → cur[j]? = some (f j)
section
variable {w w' : World} {g : Nat} {e : TypeId} {N : Nat} {f : Nat → Value}
theorem Blk.cell (h : Blk w g e N f) {j : Nat} (hj : j < N) : w.cell? ⟨g, j, none⟩ = some (f j) := by
  obtain ⟨cur, h1, h2, h3⟩ := h
  unfold World.cell?
  rw [h1]
  exact h3 j hj
theorem Blk.free (h : Blk w g e N f) (j : Nat) : w.frozen? ⟨g, j, none⟩ = false := by
  obtain ⟨cur, h1, _⟩ := h
  unfold World.frozen?
  rw [h1]
  simp
theorem Blk.lt (h : Blk w g e N f) : g < w.heap.size := by
  obtain ⟨cur, h1, _⟩ := h
  exact (Array.getElem?_eq_some_iff.1 h1).1
theorem Blk.keep (h : Blk w g e N f) (hk : w'.heap[g]? = w.heap[g]?) : Blk w' g e N f := by
  obtain ⟨cur, h1, h2⟩ := h
  exact ⟨cur, hk.trans h1, h2⟩
theorem Blk.later (h : Blk w g e N f) (hb : Below w.heap.size w w') : Blk w' g e N f := h.keep (hb.block g h.lt)
theorem Blk.alloc (h : Blk w g e N f) (o : Obj) : Blk (w.alloc o) g e N f := h.keep (Below.heap_alloc w o g h.lt)
theorem Blk.drew (h : Blk w g e N f) : Blk w.drew g e N f := h
theorem Blk.far (h : Blk w g e N f) {p : Addr} (hp : g ≠ p.block) (u : Value) : Blk (w.setCell p u) g e N f := h.keep (Below.heap_setCell w p u g hp)
theorem Blk.set (h : Blk w g e N f) {j : Nat} (hj : j < N) (v : Value) : Blk (w.setCell ⟨g, j, none⟩ v) g e N (upd f j v) := by
  obtain ⟨cur, h1, h2, h3⟩ := h
  refine ⟨cur.setIfInBounds j v, ?_, by simp [h2], fun i hi => ?_⟩
  · simp only [World.setCell, Array.getElem?_modify]
    rw [if_pos trivial, h1]
    rfl
  · rw [Array.getElem?_setIfInBounds]
    by_cases hij : j = i
    · subst hij
      rw [if_pos rfl, if_pos (by omega), upd_same]
    · rw [if_neg hij, upd_ne _ _ (by omega)]
      exact h3 i hi
theorem Blk.congr {f' : Nat → Value} (h : Blk w g e N f) (hf : ∀ j, j < N → f j = f' j) : Blk w g e N f' := by
  obtain ⟨cur, h1, h2, h3⟩ := h
  exact ⟨cur, h1, h2, fun j hj => by rw [h3 j hj, hf j hj]⟩
theorem Blk.new (w : World) (C : Array Value) (e : TypeId) (f : Nat → Value) (hC : ∀ j, j < C.size → C[j]? = some (f j)) : Blk (w.alloc (.cells C e)) w.heap.size e C.size f :=
  ⟨C, by show (w.heap.push _)[w.heap.size]? = _; simp, rfl, hC⟩
theorem Blk.ne {g' : Nat} {e' : TypeId} {N' : Nat} {f' : Nat → Value} (h : Blk w g e N f) (h' : Blk w g' e' N' f') (he : e ≠ e') : g ≠ g' := by
  rintro rfl
  obtain ⟨_, h1, _⟩ := h
  obtain ⟨_, h2, _⟩ := h'
  rw [h1] at h2
  injection h2 with h2
  injection h2 with _ h2
  exact he h2
theorem Blk.made (w : World) (C : Array Value) (e : TypeId) : Blk (w.alloc (.cells C e)) w.heap.size e C.size (fun j => C.getD j undef) := Blk.new w C e _ (fun j hj => by simp [hj])
/-- A block that is read as a slice from its head. -/
theorem Blk.rd (h : Blk w g e N f) {n sz c : Nat} (hn : n * sz ≤ N) (hm : n ≤ 9223372036854775807) : RdSl w sz n (fun i j => f (i * sz + j)) (.slice (some ⟨g, 0, none⟩) n c) := by
  refine ⟨_, c, rfl, hm, fun hp => ⟨g, 0, rfl, fun i hi j hj => ?_⟩⟩
  have : i * sz + j < N := by
    have h1 : (i + 1) * sz ≤ n * sz := Nat.mul_le_mul_right _ (by omega)
    rw [Nat.add_mul] at h1
    omega
  rw [Nat.zero_add]
  exact h.cell this
end
theorem mul_lt {i n sz j : Nat} (hi : i < n) (hj : j < sz) : i * sz + j < n * sz := by
  have h1 : (i + 1) * sz ≤ n * sz := Nat.mul_le_mul_right _ (by omega)
  rw [Nat.add_mul] at h1
  omega

/-- 'make([]T, n)' with n a variable: the run, its cells under a name. -/
theorem make_law {P : Program} (t e : TypeId) {zero : Value} {sz bytes : Nat} (ht : P.underlying t = some (.slice e)) (hinfo : (P.info? e).map (fun i => (i.zero, i.size, i.bytes)) = some (some zero, sz, bytes))
    (n : Nat) (hn : bytes * n ≤ 281474976710656) (hm : n ≤ 9223372036854775807) :
    ∃ C : Array Value, C.size = n * sz ∧ (∀ j, j < n * sz → C[j]? = some (zero.cells[j % zero.cells.size]!)) ∧
      ∀ w : World, (Instr.makeSlice t (.int .i64 n) (.int .i64 n)).run P w = .ok (.slice (some ⟨w.heap.size, 0, none⟩) n n) (w.alloc (.cells C e)) := by
  cases hi : P.info? e with
  | none => rw [hi] at hinfo; cases hinfo
  | some i =>
    rw [hi] at hinfo
    simp only [Option.map_some, Option.some.injEq, Prod.mk.injEq] at hinfo
    obtain ⟨hz, rfl, rfl⟩ := hinfo
    refine ⟨madeCells zero.cells (n * i.size), size_madeCells _ _, fun j hj => by simp [madeCells, hj], fun w => ?_⟩
    have := run_make (P := P) w t e i zero ht hi hz .i64 .i64 (n : Int) (n : Int) (by omega) (by omega) (by rw [← Int.natCast_mul]; omega) (by omega)
    simpa using this
end Go.Proofs.Lens

namespace Go.Proofs.Lens
open Go.RowKit

/-- n elements of sz cells each, in one list. -/
def cellsR (sz : Nat) (C : Nat → Nat → Value) (n : Nat) : List Value := (List.range (n * sz)).map fun p => C (p / sz) (p % sz)
theorem cellsR_length (sz : Nat) (C : Nat → Nat → Value) (n : Nat) : (cellsR sz C n).length = n * sz := by simp [cellsR]
theorem cellsR_at {sz : Nat} {C : Nat → Nat → Value} {n i j : Nat} (hi : i < n) (hj : j < sz) : (cellsR sz C n)[i * sz + j]? = some (C i j) := by
  have h := mul_lt hi hj
  have h1 : (i * sz + j) / sz = i := by rw [Nat.mul_comm, Nat.mul_add_div (by omega), Nat.div_eq_of_lt hj, Nat.add_zero]
  have h2 : (i * sz + j) % sz = j := by rw [Nat.mul_comm, Nat.mul_add_mod, Nat.mod_eq_of_lt hj]
  simp [cellsR, h, h1, h2]

/-- The slice value v has n elements of sz cells in a block of its own from lo on, or it is nil. -/
def OwR (w : World) (lo : Nat) (e : TypeId) (sz n : Nat) (C : Nat → Nat → Value) (v : Value) : Prop :=
  (v = .slice none 0 0 ∧ n = 0) ∨ ∃ b cap f, v = .slice (some ⟨b, 0, none⟩) n cap ∧ lo ≤ b ∧ n ≤ cap ∧ cap ≤ maxLen ∧ Blk w b e (cap * sz) f ∧ ∀ i, i < n → ∀ j, j < sz → f (i * sz + j) = C i j
section
variable {w w' : World} {lo lo' : Nat} {e : TypeId} {sz n : Nat} {C C' : Nat → Nat → Value} {v : Value}
theorem OwR.nil : OwR w lo e sz 0 C (.slice none 0 0) := .inl ⟨rfl, rfl⟩
theorem OwR.keep (h : OwR w lo e sz n C v) (hk : ∀ b N f, Blk w b e N f → v.ownBlock = some b → w'.heap[b]? = w.heap[b]?) : OwR w' lo e sz n C v := by
  rcases h with h | ⟨b, cap, f, h1, h2, h3, h4, h5, h6⟩
  · exact .inl h
  · exact .inr ⟨b, cap, f, h1, h2, h3, h4, h5.keep (hk b _ _ h5 (by rw [h1]; rfl)), h6⟩
theorem OwR.later (h : OwR w lo e sz n C v) (hb : Below w.heap.size w w') : OwR w' lo e sz n C v := h.keep fun b _ _ hB _ => hb.block b hB.lt
theorem OwR.lower (h : OwR w lo e sz n C v) (hl : lo' ≤ lo) : OwR w lo' e sz n C v := by
  rcases h with h | ⟨b, cap, f, h1, h2, h3⟩
  · exact .inl h
  · exact .inr ⟨b, cap, f, h1, Nat.le_trans hl h2, h3⟩
theorem OwR.far (h : OwR w lo e sz n C v) {p : Addr} (hp : v.ownBlock ≠ some p.block) (u : Value) : OwR (w.setCell p u) lo e sz n C v :=
  h.keep fun b _ _ _ hv => Below.heap_setCell _ _ _ _ (fun hh => hp (by rw [hv, hh]))
/-- A store into a block of another element type. -/
theorem OwR.other (h : OwR w lo e sz n C v) {g N : Nat} {e' : TypeId} {f : Nat → Value} (hB : Blk w g e' N f) (he : e ≠ e') (j : Nat) (u : Value) : OwR (w.setCell ⟨g, j, none⟩ u) lo e sz n C v :=
  h.keep fun _ _ _ hN _ => Below.heap_setCell _ _ _ _ (hN.ne hB he)
theorem OwR.grown (h : OwR w lo e sz n C v) {row : Option Nat} (hg : w.grownBy w' row) (hne : ∀ b, v.ownBlock = some b → row ≠ some b) : OwR w' lo e sz n C v :=
  h.keep fun b _ _ hN hv => hg.block b hN.lt (fun hh => hne b hv hh.symm)
theorem OwR.congr (h : OwR w lo e sz n C v) (hC : ∀ i, i < n → ∀ j, j < sz → C i j = C' i j) : OwR w lo e sz n C' v := by
  rcases h with h | ⟨b, cap, f, h1, h2, h3, h4, h5, h6⟩
  · exact .inl h
  · exact .inr ⟨b, cap, f, h1, h2, h3, h4, h5, fun i hi j hj => (h6 i hi j hj).trans (hC i hi j hj)⟩
theorem OwR.lt (h : OwR w lo e sz n C v) : ∀ b, v.ownBlock = some b → lo ≤ b ∧ b < w.heap.size := by
  intro b hb
  rcases h with ⟨rfl, _⟩ | ⟨b', cap, f, rfl, h2, h3, h4, h5, h6⟩
  · cases hb
  · cases hb; exact ⟨h2, h5.lt⟩
theorem OwR.rd (h : OwR w lo e sz n C v) : RdSl w sz n C v := by
  rcases h with ⟨rfl, rfl⟩ | ⟨b, cap, f, rfl, h2, h3, h4, h5, h6⟩
  · exact ⟨none, 0, rfl, by omega, fun h => absurd h (by omega)⟩
  · have hm : n ≤ 9223372036854775807 := by simp only [maxLen] at h4; omega
    exact RdSl.congr (h5.rd (n := n) (Nat.mul_le_mul_right _ h3) hm) h6
theorem OwR.row (h : OwR w lo e sz n C v) : w.ownsRow lo e sz v n (cellsR sz C n) := by
  refine ⟨cellsR_length _ _ _, ?_⟩
  rcases h with h | ⟨b, cap, f, h1, h2, h3, h4, ⟨cur, c1, c2, c3⟩, h6⟩
  · exact .inl h
  · refine .inr ⟨b, cap, cur, h1, h2, c1, h3, h4, c2, List.ext_getElem? fun p => ?_⟩
    by_cases hp : p < n * sz
    · have hsz : 0 < sz := Nat.pos_of_ne_zero fun h0 => by subst h0; omega
      have e1 : p = p / sz * sz + p % sz := by rw [Nat.mul_comm]; exact (Nat.div_add_mod p sz).symm
      have hi : p / sz < n := by rw [Nat.div_lt_iff_lt_mul hsz]; exact hp
      have hj : p % sz < sz := Nat.mod_lt _ hsz
      have hle : n * sz ≤ cap * sz := Nat.mul_le_mul_right _ h3
      rw [List.getElem?_take, if_pos hp, Array.getElem?_toList, c3 p (by omega), e1, cellsR_at hi hj, h6 _ hi _ hj]
    · rw [List.getElem?_take, if_neg hp, List.getElem?_eq_none (by rw [cellsR_length]; omega)]
theorem OwR.of_row {xs : List Value} (h : w.ownsRow lo e sz v n xs) (hx : ∀ i, i < n → ∀ j, j < sz → xs[i * sz + j]? = some (C i j)) : OwR w lo e sz n C v := by
  rcases h with ⟨hl, h | ⟨g, cap, cur, h1, h2, h3, h4, h5, h6, h7⟩⟩
  · exact .inl h
  · refine .inr ⟨g, cap, fun j => cur.getD j undef, h1, h2, h4, h5, ⟨cur, h3, h6, fun j hj => by simp [h6, hj]⟩, fun i hi j hj => ?_⟩
    have h8 := hx i hi j hj
    have hlt := mul_lt hi hj
    rw [← h7, List.getElem?_take, if_pos hlt, Array.getElem?_toList] at h8
    show cur.getD _ undef = _
    rw [Array.getD_eq_getD_getElem?, h8]; rfl
/-- What append leaves. -/
theorem OwR.of_append {m : Nat} {news : List Value} (h : w'.ownsRow lo e sz v (n + m) (cellsR sz C n ++ news)) (hC : ∀ i, i < n → ∀ j, j < sz → C i j = C' i j)
    (hn : ∀ i, i < m → ∀ j, j < sz → news[i * sz + j]? = some (C' (n + i) j)) : OwR w' lo e sz (n + m) C' v :=
  OwR.of_row h fun i hi j hj => by
    by_cases h1 : i < n
    · rw [List.getElem?_append_left (by rw [cellsR_length]; exact mul_lt h1 hj), cellsR_at h1 hj, hC i h1 j hj]
    · obtain ⟨k, rfl⟩ : ∃ k, i = n + k := ⟨i - n, by omega⟩
      rw [List.getElem?_append_right (by rw [cellsR_length, Nat.add_mul]; omega), cellsR_length, show (n + k) * sz + j - n * sz = k * sz + j by rw [Nat.add_mul]; omega]
      exact hn k (by omega) j hj
theorem OwR.take {b cap m : Nat} (h : OwR w lo e sz n C (.slice (some ⟨b, 0, none⟩) n cap)) (hm : m ≤ n) : OwR w lo e sz m C (.slice (some ⟨b, 0, none⟩) m cap) := by
  rcases h with ⟨h, _⟩ | ⟨b', cap', f, h1, h2, h3, h4, h5, h6⟩
  · cases h
  · cases h1
    exact .inr ⟨b, cap, f, rfl, h2, by omega, h4, h5, fun i hi j hj => h6 i (by omega) j hj⟩
/-- A store into a cell of its own. -/
theorem OwR.set {b cap i0 j0 : Nat} {u : Value} (h : OwR w lo e sz n C (.slice (some ⟨b, 0, none⟩) n cap)) (hi : i0 < n) (hj : j0 < sz) (hne : ∀ i j, i < n → j < sz → (i ≠ i0 ∨ j ≠ j0) → C' i j = C i j) (heq : C' i0 j0 = u) :
    OwR (w.setCell ⟨b, i0 * sz + j0, none⟩ u) lo e sz n C' (.slice (some ⟨b, 0, none⟩) n cap) := by
  rcases h with ⟨h, _⟩ | ⟨b', cap', f, h1, h2, h3, h4, h5, h6⟩
  · cases h
  · cases h1
    have hle : n * sz ≤ cap * sz := Nat.mul_le_mul_right _ h3
    have hlt := mul_lt hi hj
    refine .inr ⟨b, cap, _, rfl, h2, h3, h4, h5.set (by omega) u, fun i hi' j hj' => ?_⟩
    by_cases hc : i = i0 ∧ j = j0
    · obtain ⟨rfl, rfl⟩ := hc
      rw [upd_same, heq]
    · have : i ≠ i0 ∨ j ≠ j0 := by omega
      rw [hne i j hi' hj' this, ← h6 i hi' j hj']
      refine upd_ne _ _ fun hh => ?_
      have e1 : (i * sz + j) / sz = (i0 * sz + j0) / sz := by rw [hh]
      have e2 : (i * sz + j) % sz = (i0 * sz + j0) % sz := by rw [hh]
      rw [Nat.mul_comm, Nat.mul_comm i0, Nat.mul_add_div (by omega), Nat.mul_add_div (by omega), Nat.div_eq_of_lt hj, Nat.div_eq_of_lt hj', Nat.add_zero, Nat.add_zero] at e1
      rw [Nat.mul_comm, Nat.mul_comm i0, Nat.mul_add_mod, Nat.mul_add_mod, Nat.mod_eq_of_lt hj, Nat.mod_eq_of_lt hj'] at e2
      omega
theorem OwR.open' (h : OwR w lo e sz n C v) : ∃ A cap, v = .slice A n cap ∧ (0 < n → ∃ b, A = some ⟨b, 0, none⟩ ∧ lo ≤ b ∧ b < w.heap.size ∧ (∀ i, i < n → ∀ j, j < sz → w.cell? ⟨b, i * sz + j, none⟩ = some (C i j)) ∧ ∀ j, w.frozen? ⟨b, j, none⟩ = false) := by
  rcases h with ⟨rfl, rfl⟩ | ⟨b, cap, f, rfl, h2, h3, h4, h5, h6⟩
  · exact ⟨none, 0, rfl, fun h => absurd h (by omega)⟩
  · refine ⟨_, cap, rfl, fun _ => ⟨b, rfl, h2, h5.lt, fun i hi j hj => ?_, fun j => h5.free j⟩⟩
    have hle : n * sz ≤ cap * sz := Nat.mul_le_mul_right _ h3
    have hlt := mul_lt hi hj
    rw [h5.cell (by omega), h6 i hi j hj]
theorem OwR.cap (h : OwR w lo e sz n C v) : ∃ A cap, v = .slice A n cap ∧ n ≤ cap ∧ cap ≤ 9223372036854775807 := by
  rcases h with ⟨rfl, rfl⟩ | ⟨b, cap, f, rfl, h2, h3, h4, h5, h6⟩
  · exact ⟨none, 0, rfl, by omega, by omega⟩
  · exact ⟨_, cap, rfl, h3, by simp only [maxLen] at h4; omega⟩
theorem OwR.block (h : OwR w lo e sz n C v) {b : Nat} (hb : v.ownBlock = some b) : ∃ N f, Blk w b e N f := by
  rcases h with ⟨rfl, _⟩ | ⟨b', cap, f, rfl, _, _, _, hB, _⟩
  · cases hb
  · cases hb; exact ⟨_, _, hB⟩
end
/-- From w to w' blocks from lo on alone have turned, and of those that w had only such as hold cells of the types ts. -/
structure Mv (ts : List TypeId) (lo : Nat) (w w' : World) : Prop where
  bl : Below lo w w'
  kp : ∀ (b : Nat) (o : Obj), w.heap[b]? = some o → (∀ (cur : Array Value) (e : TypeId) (fr : Nat × Nat), o = Obj.cells cur e fr → e ∉ ts) → w'.heap[b]? = some o
section
variable {ts : List TypeId} {lo : Nat} {w W W' : World}
theorem Mv.refl (ts : List TypeId) (lo : Nat) (w : World) : Mv ts lo w w := ⟨Below.refl _ _, fun _ _ h _ => h⟩
theorem Mv.alloc (h : Mv ts lo w W) (hl : lo ≤ W.heap.size) (o : Obj) : Mv ts lo w (W.alloc o) :=
  ⟨h.bl.alloc hl o, fun b o' hb hn => by
    have := h.kp b o' hb hn
    rw [Below.heap_alloc W o b (Array.getElem?_eq_some_iff.1 this).1]; exact this⟩
theorem Mv.drew (h : Mv ts lo w W) : Mv ts lo w W.drew := ⟨h.bl.drew, h.kp⟩
theorem Mv.drewN (h : Mv ts lo w W) (n : Nat) : Mv ts lo w (W.drewN n) := ⟨⟨h.bl.os, h.bl.tape, h.bl.output, h.bl.size, h.bl.block⟩, h.kp⟩
theorem Mv.set (h : Mv ts lo w W) {p : Addr} (hp : lo ≤ p.block) {e : TypeId} {N : Nat} {f : Nat → Value} (hB : Blk W p.block e N f) (he : e ∈ ts) (u : Value) : Mv ts lo w (W.setCell p u) :=
  ⟨h.bl.setCell hp u, fun b o hb hn => by
    have h1 := h.kp b o hb hn
    rw [Below.heap_setCell W p u b (fun hh => by
      obtain ⟨cur, h2, _⟩ := hB
      rw [← hh, h1] at h2
      cases h2
      exact hn cur e (0, 0) rfl he)]
    exact h1⟩
theorem Mv.setNew (h : Mv ts lo w W) {p : Addr} (hp : lo ≤ p.block) (hw : w.heap.size ≤ p.block) (u : Value) : Mv ts lo w (W.setCell p u) :=
  ⟨h.bl.setCell hp u, fun b o hb hn => by
    have h1 := h.kp b o hb hn
    have hlt := (Array.getElem?_eq_some_iff.1 hb).1
    rw [Below.heap_setCell W p u b (by omega)]
    exact h1⟩
theorem Mv.grown (h : Mv ts lo w W) (hl : lo ≤ W.heap.size) {r : Option Nat} (hg : W.grownBy W' r) (hr : ∀ b, r = some b → lo ≤ b ∧ ∃ e N f, Blk W b e N f ∧ e ∈ ts) : Mv ts lo w W' :=
  ⟨⟨hg.os.trans h.bl.os, hg.tape.trans h.bl.tape, hg.output.trans h.bl.output, Nat.le_trans h.bl.size hg.size, fun k hk => (hg.block k (Nat.lt_of_lt_of_le hk hl) (fun hh => by have := (hr k hh.symm).1; omega)).trans (h.bl.block k hk)⟩,
    fun b o hb hn => by
      have h1 := h.kp b o hb hn
      rw [hg.block b (Array.getElem?_eq_some_iff.1 h1).1 (fun hh => by
        obtain ⟨_, e, N, f, ⟨cur, h2, _⟩, he⟩ := hr b hh.symm
        rw [h1] at h2
        cases h2
        exact hn cur e (0, 0) rfl he)]
      exact h1⟩
theorem Mv.of_below (h : Below w.heap.size w W) (hl : lo ≤ w.heap.size) : Mv ts lo w W :=
  ⟨⟨h.os, h.tape, h.output, h.size, fun k hk => h.block k (by omega)⟩, fun b o hb _ => by rw [h.block b (Array.getElem?_eq_some_iff.1 hb).1]; exact hb⟩
theorem Mv.trans (h : Mv ts lo w W) (k : Mv ts lo W W') : Mv ts lo w W' :=
  ⟨⟨k.bl.os.trans h.bl.os, k.bl.tape.trans h.bl.tape, k.bl.output.trans h.bl.output, Nat.le_trans h.bl.size k.bl.size, fun j hj => (k.bl.block j hj).trans (h.bl.block j hj)⟩, fun b o hb hn => k.kp b o (h.kp b o hb hn) hn⟩
theorem Mv.lower {lo' : Nat} (h : Mv ts lo w W) (hl : lo' ≤ lo) : Mv ts lo' w W := ⟨⟨h.bl.os, h.bl.tape, h.bl.output, h.bl.size, fun k hk => h.bl.block k (by omega)⟩, h.kp⟩
theorem Blk.mv {b : Nat} {e : TypeId} {N : Nat} {f : Nat → Value} (hB : Blk w b e N f) (h : Mv ts lo w W) (he : e ∉ ts) : Blk W b e N f :=
  hB.keep (by
    obtain ⟨cur, h1, _⟩ := hB
    rw [h1]
    exact h.kp b _ h1 (fun cur' e' fr' hh => by cases hh; exact he))
theorem OwR.mv {lo' : Nat} {e : TypeId} {sz n : Nat} {C : Nat → Nat → Value} {v : Value} (hR : OwR w lo' e sz n C v) (h : Mv ts lo w W) (he : e ∉ ts) : OwR W lo' e sz n C v :=
  hR.keep fun b N f hB _ => by
    obtain ⟨cur, h1, _⟩ := hB
    rw [h1]
    exact h.kp b _ h1 (fun cur' e' fr' hh => by cases hh; exact he)
end
end Go.Proofs.Lens

namespace Go.Proofs.Lens
open Go.RowKit

/-- The walk stands still here: 'go_wp2_with (at_builtin; refine stopped ?_)', then 'unfold Stopped'. -/
def Stopped (p : Prop) : Prop := p
theorem stopped {p : Prop} (h : Stopped p) : p := h
section
variable {P : Program} {ops : Array Oper} {rest : List Oper} {o : Oper} {a : Act} {Q : Exit → Act → World → Prop}
theorem wpList_append1 (w : World) (hgd : o.guard = none) (s x : Operand) (t : TypeId)
    (ho : o.op = .call { callee := .builtin .append, args := #[s, x], argTypes := #[t, t] }) (lo : Nat) (e : TypeId) (z : Value) (sz bytes : Nat) (ht : P.underlying t = some (.slice e))
    (hinfo : (P.info? e).map (fun i => (i.zero, i.size, i.bytes)) = some (some z, sz, bytes)) (hzs : z.cells.size = sz) (hsz : 0 < sz) (v : Value) (n : Nat) (C C' : Nat → Nat → Value) (hs : a.eval s = v)
    (hO : OwR w lo e sz n C v) (news : List Value) (hl : news.length = sz) (h1 : ∀ u ∈ news, u.oneCell' = true) (hx : a.eval x = .slice (some ⟨w.heap.size, 0, none⟩) 1 1)
    (hC : ∀ i, i < n → ∀ j, j < sz → C i j = C' i j) (hN : ∀ j, j < sz → news[j]? = some (C' n j)) (hlo : lo ≤ w.heap.size) (hn : n < 9223372036854775807) (hb : (n + 1) * bytes ≤ 140737488355328)
    (h : ∀ g cap w', OwR w' lo e sz (n + 1) C' (.slice (some ⟨g, 0, none⟩) (n + 1) cap) → w.grownBy w' v.ownBlock → (v.ownBlock = some g ∨ g = w.heap.size + 1) → g < w'.heap.size →
      wpList P ops Q rest (a.put o.dst (.slice (some ⟨g, 0, none⟩) (n + 1) cap)) w') : wpList P ops Q (o :: rest) a (w.alloc (.cells news.toArray e)) := by
  cases hi : P.info? e with
  | none => rw [hi] at hinfo; cases hinfo
  | some i =>
    rw [hi] at hinfo
    simp only [Option.map_some, Option.some.injEq, Prod.mk.injEq] at hinfo
    obtain ⟨hz, hs1, hb1⟩ := hinfo
    have hnew := Blk.new w news.toArray e (fun j => news.getD j undef) (fun j hj => by
      have : j < news.length := by simpa using hj
      simp [this])
    refine wpList_append_lies _ hgd s x t ho lo e i z sz bytes ht hi hz hs1 hb1 hzs hsz v n (cellsR sz C n) hs (hO.later (Below.alloc (Below.refl _ _) (Nat.le_refl _) _)).row ⟨w.heap.size, 0, none⟩ 1 1 news hx (by omega)
      (fun j u hj => ?_) h1 (by omega) (by simp only [maxLen]; omega) hb (by simp; omega) (w.heap.size + 1) (by simp) (fun g cap w' h2 h3 h4 h5 => ?_)
    · obtain ⟨hlt, hv⟩ := List.getElem?_eq_some_iff.1 hj
      have hc := hnew.cell (j := j) (by simpa using hlt)
      have ha : (Addr.add ⟨w.heap.size, 0, none⟩ j) = ⟨w.heap.size, j, none⟩ := by unfold Addr.add; split <;> simp_all
      rw [ha, hc, ← hv]
      simp [hlt]
    · refine h g cap w' (OwR.of_append h2 hC fun i hi j hj => ?_) ?_ h4 h5
      · obtain rfl : i = 0 := by omega
        rw [Nat.zero_mul, Nat.zero_add, Nat.add_zero]; exact hN j hj
      · exact (World.grownBy_alloc w _ v.ownBlock).trans h3
end
/-- A call's answer: a slice of its own. -/
def OwRet (w : World) (e : TypeId) (sz n : Nat) (C : Nat → Nat → Value) (en : Ending) (w' : World) : Prop := ∃ v, en = .returned v ∧ OwR w' w.heap.size e sz n C v ∧ Below w.heap.size w w'
/-- What was grown from lo on only leaves what lay below. -/
theorem bl_own {lo : Nat} {w W W' : World} {e : TypeId} {sz n : Nat} {C : Nat → Nat → Value} {v : Value} (h : Below lo w W) (hl : lo ≤ W.heap.size) (hO : OwR W lo e sz n C v) (hg : W.grownBy W' v.ownBlock) : Below lo w W' :=
  ⟨hg.os.trans h.os, hg.tape.trans h.tape, hg.output.trans h.output, Nat.le_trans h.size hg.size, fun k hk => (hg.block k (Nat.lt_of_lt_of_le hk hl) (fun hh => by have := (hO.lt k hh.symm).1; omega)).trans (h.block k hk)⟩
end Go.Proofs.Lens

namespace Go.Proofs.Lens
open Go.RowKit

section
variable {P : Program} {ops : Array Oper} {rest : List Oper} {o : Oper} {a : Act} {Q : Exit → Act → World → Prop}
end
section
variable {P : Program} {o : Oper} {a : Act} {K : Act → World → Prop} {Q : Exit → Act → World → Prop}
/-- At an operation that comes up in a region: what is appended lies in a block that is read. -/
theorem wp_appendG (w : World) (s x : Operand) (t : TypeId)
    (ho : o.op = .call { callee := .builtin .append, args := #[s, x], argTypes := #[t, t] }) (lo : Nat) (e : TypeId) (z : Value) (sz bytes k : Nat) (ht : P.underlying t = some (.slice e))
    (hinfo : (P.info? e).map (fun i => (i.zero, i.size, i.bytes)) = some (some z, sz, bytes)) (hzs : z.cells.size = sz) (hsz : 0 < sz) (v : Value) (n : Nat) (C C' : Nat → Nat → Value) (hs : a.eval s = v)
    (hO : OwR w lo e sz n C v) (news : List Value) (hl : news.length = k * sz) (hk : 0 < k) (h1 : ∀ u ∈ news, u.oneCell' = true) (bx ox cx : Nat) (hx : a.eval x = .slice (some ⟨bx, ox, none⟩) k cx)
    (hnews : ∀ j u, news[j]? = some u → w.cell? ⟨bx, ox + j, none⟩ = some u)
    (hC : ∀ i, i < n → ∀ j, j < sz → C i j = C' i j) (hN : ∀ i, i < k → ∀ j, j < sz → news[i * sz + j]? = some (C' (n + i) j)) (hlo : lo ≤ w.heap.size) (hn : n + k ≤ 9223372036854775807) (hb : (n + k) * bytes ≤ 140737488355328)
    (h : ∀ g cap w', OwR w' lo e sz (n + k) C' (.slice (some ⟨g, 0, none⟩) (n + k) cap) → w.grownBy w' v.ownBlock → (v.ownBlock = some g ∨ g = w.heap.size) → g < w'.heap.size →
      K (a.put o.dst (.slice (some ⟨g, 0, none⟩) (n + k) cap)) w') : o.wp P a w K Q := by
  cases hi : P.info? e with
  | none => rw [hi] at hinfo; cases hinfo
  | some i =>
    rw [hi] at hinfo
    simp only [Option.map_some, Option.some.injEq, Prod.mk.injEq] at hinfo
    obtain ⟨hz, hs1, hb1⟩ := hinfo
    refine wp_append_lies w s x t ho lo e i z sz bytes ht hi hz hs1 hb1 hzs hsz v n (cellsR sz C n) hs hO.row ⟨bx, ox, none⟩ k cx news hx hl
      (fun j u hj => ?_) h1 hk (by simp only [maxLen]; omega) hb hlo w.heap.size rfl (fun g cap w' h2 h3 h4 h5 => ?_)
    · have ha : (Addr.add ⟨bx, ox, none⟩ j) = ⟨bx, ox + j, none⟩ := by unfold Addr.add; split <;> simp_all
      rw [ha]
      exact hnews j u hj
    · exact h g cap w' (OwR.of_append h2 hC fun i hi j hj => hN i hi j hj) h3 h4 h5
end
end Go.Proofs.Lens

namespace Go.Proofs.Lens
open Go.RowKit

theorem Mv.mono {ts ts' : List TypeId} {lo : Nat} {w w' : World} (h : Mv ts lo w w') (hs : ∀ e, e ∈ ts → e ∈ ts') : Mv ts' lo w w' :=
  ⟨h.bl, fun b o hb hn => h.kp b o hb fun cur e fr ho he => hn cur e fr ho (hs e he)⟩
theorem Mv.then {ts : List TypeId} {lo : Nat} {w w1 w2 : World} (h : Mv ts lo w w1) (hl : lo ≤ w1.heap.size) (k : Below w1.heap.size w1 w2) : Mv ts lo w w2 := h.trans (Mv.of_below k hl)
theorem Mv.size {ts : List TypeId} {lo : Nat} {w w1 : World} (h : Mv ts lo w w1) : w.heap.size ≤ w1.heap.size := h.bl.size
/-- A store into a slice of its own. -/
theorem Mv.setO {ts : List TypeId} {lo : Nat} {w W : World} (h : Mv ts lo w W) {b n cap lo2 sz : Nat} {e : TypeId} {C : Nat → Nat → Value} (hO : OwR W lo2 e sz n C (.slice (some ⟨b, 0, none⟩) n cap)) (hl : lo ≤ lo2) (he : e ∈ ts) (j : Nat) (u : Value) :
    Mv ts lo w (W.setCell ⟨b, j, none⟩ u) := by
  obtain ⟨N, f, hB⟩ := hO.block (b := b) rfl
  exact h.set (Nat.le_trans hl (hO.lt b rfl).1) hB he u
/-- What make has made. -/
theorem OwR.made {w : World} {A : Array Value} {e : TypeId} {sz n : Nat} {zc : Array Value} (hA : A.size = n * sz) (hc : ∀ j, j < n * sz → A[j]? = some (zc[j % zc.size]!)) (hz : zc.size = sz) (hn : n ≤ maxLen) (C : Nat → Nat → Value)
    (hC : ∀ i, i < n → ∀ j, j < sz → C i j = zc[j]!) : OwR (w.alloc (.cells A e)) w.heap.size e sz n C (.slice (some ⟨w.heap.size, 0, none⟩) n n) := by
  refine .inr ⟨w.heap.size, n, fun j => A.getD j undef, rfl, Nat.le_refl _, Nat.le_refl _, hn, ?_, fun i hi j hj => ?_⟩
  · rw [← hA]; exact Blk.made w A e
  · have hlt := mul_lt hi hj
    have h1 := hc _ hlt
    show A.getD _ undef = _
    rw [Array.getD_eq_getD_getElem?, h1, hC i hi j hj]
    simp only [Option.getD_some]
    congr 1
    rw [hz, Nat.mul_comm, Nat.mul_add_mod, Nat.mod_eq_of_lt hj]
theorem OwR.cells {w : World} {lo b n cap sz : Nat} {e : TypeId} {C : Nat → Nat → Value} (h : OwR w lo e sz n C (.slice (some ⟨b, 0, none⟩) n cap)) {i j : Nat} (hi : i < n) (hj : j < sz) : w.cell? ⟨b, i * sz + j, none⟩ = some (C i j) := by
  obtain ⟨A', c', hv, hop⟩ := h.open'
  obtain ⟨b', e', _, _, hc, _⟩ := hop (by omega)
  cases hv
  cases e'
  exact hc i hi j hj
theorem OwR.free {w : World} {lo b n cap sz : Nat} {e : TypeId} {C : Nat → Nat → Value} (h : OwR w lo e sz n C (.slice (some ⟨b, 0, none⟩) n cap)) (j : Nat) : w.frozen? ⟨b, j, none⟩ = false := by
  obtain ⟨N, f, hB⟩ := h.block (b := b) rfl
  exact hB.free j
theorem OwR.blt {w : World} {lo b n cap sz : Nat} {e : TypeId} {C : Nat → Nat → Value} (h : OwR w lo e sz n C (.slice (some ⟨b, 0, none⟩) n cap)) : lo ≤ b ∧ b < w.heap.size := h.lt b rfl
end Go.Proofs.Lens

namespace Go.Proofs.YtcklnjjbhngbcaaGreatDoor
open Go.RowKit Go.Proofs.Lens Go.WideShapes Go.ChangeShapes

theorem exists_list {α : Type} [Inhabited α] (p : Nat → α → Prop) : ∀ n, (∀ i, i < n → ∃ a, p i a) → ∃ xs : List α, xs.length = n ∧ ∀ i, i < n → p i (elt xs i)
  | 0, _ => ⟨[], rfl, fun i hi => absurd hi (by omega)⟩
  | n + 1, h => by
    obtain ⟨xs, hl, hx⟩ := exists_list p n (fun i hi => h i (by omega))
    obtain ⟨a, ha⟩ := h n (by omega)
    refine ⟨xs ++ [a], by simp [hl], fun i hi => ?_⟩
    rw [elt_eq (by simp [hl]; omega)]
    by_cases hin : i < n
    · have := hx i hin
      rw [elt_eq (by omega)] at this
      rw [List.getElem_append_left (by omega)]
      exact this
    · have : i = n := by omega
      subst this
      rw [List.getElem_append_right (by omega)]
      simpa [hl] using ha

section
variable {H : Type} {enc : TypeId × Value → H} {P : Program} {w : World} {base : Nat} {spare : Nat → Bool} {held : Bool}
end

section
variable {H : Type} {enc : TypeId × Value → H} {w : World} {base : Nat} {spare : Nat → Bool} {held : Bool} {fuel : Nat} {cs : List Value} {x : DataW H × List MemPlace}

end
end Go.Proofs.YtcklnjjbhngbcaaGreatDoor

namespace Go.Proofs.YtcklnjjbhngbcaaGreatDoor
open Go.RowKit Go.Proofs.Lens

theorem i_mom' : (Tryz.prog.info? 114).map (fun i => (i.zero, i.size, i.bytes)) = some (some (.agg #[.int .i64 0, .int .i64 0, .int .i64 0, .int .i64 0, .string ⟨#[]⟩, .slice none 0 0]), 6, 72) := by kernel_rfl
theorem i_var' : (Tryz.prog.info? 40).map (fun i => (i.zero, i.size, i.bytes)) = some (some (.agg #[.string ⟨#[]⟩, .string ⟨#[]⟩]), 2, 32) := by kernel_rfl
def BMoms (w : World) (lo : Nat) (v : Value) (ms : List PMom) : Prop :=
  ∃ vv : Nat → Value, OwR w lo 114 6 ms.length (momC ms vv) v ∧ ∀ i, i < ms.length → OwR w lo 40 2 (elt ms i).vars.length (varC (elt ms i).vars) (vv i)
section
variable {w w' : World} {lo lo' : Nat} {v : Value} {ms : List PMom}
theorem BMoms.nil : BMoms w lo (.slice none 0 0) [] := ⟨fun _ => undef, OwR.nil, fun i hi => absurd hi (by simp)⟩
theorem BMoms.later (h : BMoms w lo v ms) (hb : Below w.heap.size w w') : BMoms w' lo v ms := by
  obtain ⟨vv, h1, h2⟩ := h
  exact ⟨vv, h1.later hb, fun i hi => (h2 i hi).later hb⟩
theorem BMoms.lower (h : BMoms w lo v ms) (hl : lo' ≤ lo) : BMoms w lo' v ms := by
  obtain ⟨vv, h1, h2⟩ := h
  exact ⟨vv, h1.lower hl, fun i hi => (h2 i hi).lower hl⟩
theorem BMoms.mv {ts : List TypeId} {lo' : Nat} (h : BMoms w lo v ms) (hm : Mv ts lo' w w') (h1 : 114 ∉ ts) (h2 : 40 ∉ ts) : BMoms w' lo v ms := by
  obtain ⟨vv, a, b⟩ := h
  exact ⟨vv, a.mv hm h1, fun i hi => (b i hi).mv hm h2⟩
theorem BMoms.rd (h : BMoms w lo v ms) : RdMoms w v ms := by
  obtain ⟨vv, a, b⟩ := h
  exact ⟨vv, a.rd, fun i hi => (b i hi).rd⟩
theorem BMoms.cap (h : BMoms w lo v ms) : ∃ A cap, v = .slice A ms.length cap ∧ ms.length ≤ cap ∧ cap ≤ 9223372036854775807 := by
  obtain ⟨vv, a, b⟩ := h
  exact a.cap
theorem BMoms.lt (h : BMoms w lo v ms) : ∀ b, v.ownBlock = some b → lo ≤ b ∧ b < w.heap.size := by
  obtain ⟨vv, a, b⟩ := h
  exact a.lt
end
/-- The six cells of a moment, its variables in the slice vx. -/
def momV (m : PMom) (vx : Value) : List Value := [.int .i64 m.kind, .int .i64 m.task, .int .i64 m.fn, .int .i64 m.line, .string m.text, vx]
theorem momV_at (m : PMom) (vx : Value) {j : Nat} (hj : j < 6) : (momV m vx)[j]? = some (match j with
  | 0 => .int .i64 m.kind | 1 => .int .i64 m.task | 2 => .int .i64 m.fn | 3 => .int .i64 m.line | 4 => .string m.text | _ => vx) := by
  match j, hj with
  | 0, _ => rfl
  | 1, _ => rfl
  | 2, _ => rfl
  | 3, _ => rfl
  | 4, _ => rfl
  | 5, _ => rfl
def snocV (vv : Nat → Value) (n : Nat) (vx : Value) (i : Nat) : Value := if i = n then vx else vv i
theorem momC_old (ms : List PMom) (vv : Nat → Value) (m : PMom) (vx : Value) {i : Nat} (hi : i < ms.length) (j : Nat) : momC ms vv i j = momC (ms ++ [m]) (snocV vv ms.length vx) i j := by
  have e : elt (ms ++ [m]) i = elt ms i := by rw [elt_eq (by simp; omega), elt_eq hi, List.getElem_append_left hi]
  unfold momC snocV
  rw [e, if_neg (by omega)]
theorem momC_new (ms : List PMom) (vv : Nat → Value) (m : PMom) (vx : Value) {j : Nat} (hj : j < 6) : (momV m vx)[j]? = some (momC (ms ++ [m]) (snocV vv ms.length vx) ms.length j) := by
  have e : elt (ms ++ [m]) ms.length = m := by rw [elt_eq (by simp)]; simp
  rw [momV_at m vx hj]
  unfold momC snocV
  rw [e, if_pos rfl]
  match j, hj with
  | 0, _ => rfl
  | 1, _ => rfl
  | 2, _ => rfl
  | 3, _ => rfl
  | 4, _ => rfl
  | 5, _ => rfl
/-- What an append leaves. -/
theorem BMoms.snoc {w' : World} {lo : Nat} {v' vx : Value} {ms : List PMom} {m : PMom} {vv : Nat → Value} (h2 : ∀ i, i < ms.length → OwR w' lo 40 2 (elt ms i).vars.length (varC (elt ms i).vars) (vv i))
    (hO : OwR w' lo 114 6 (ms ++ [m]).length (momC (ms ++ [m]) (snocV vv ms.length vx)) v') (hx : OwR w' lo 40 2 m.vars.length (varC m.vars) vx) : BMoms w' lo v' (ms ++ [m]) := by
  refine ⟨_, hO, fun i hi => ?_⟩
  unfold snocV
  by_cases h : i = ms.length
  · subst h
    have e : elt (ms ++ [m]) ms.length = m := by rw [elt_eq (by simp)]; simp
    rw [if_pos rfl, e]; exact hx
  · have hi' : i < ms.length := by simp at hi; omega
    have e : elt (ms ++ [m]) i = elt ms i := by rw [elt_eq (by simp; omega), elt_eq hi', List.getElem_append_left hi']
    rw [if_neg h, e]; exact h2 i hi'
theorem owr_one {w : World} {lo : Nat} {e : TypeId} {sz n : Nat} {C : Nat → Nat → Value} {v : Value} (h : OwR w lo e sz n C v) : v.oneCell' = true := by
  obtain ⟨A, c, rfl, -⟩ := h.cap
  rfl
theorem momV_one (m : PMom) {vx : Value} (hv : vx.oneCell' = true) : ∀ u ∈ momV m vx, u.oneCell' = true := by
  intro u hu
  simp only [momV, List.mem_cons, List.not_mem_nil, or_false] at hu
  rcases hu with rfl | rfl | rfl | rfl | rfl | rfl
  · rfl
  · rfl
  · rfl
  · rfl
  · rfl
  · exact hv
/-- An append of one moment comes up. -/
theorem wp_appendM {o : Oper} {a : Act} {K : Act → World → Prop} {Q : Exit → Act → World → Prop} (w : World) (s x : Operand)
    (ho : o.op = .call { callee := .builtin .append, args := #[s, x], argTypes := #[24, 24] }) (lo : Nat) (v : Value) (ms : List PMom) (m : PMom) (vx : Value) (hs : a.eval s = v)
    (hM : BMoms w lo v ms) (hvx : OwR w lo 40 2 m.vars.length (varC m.vars) vx) (bx cx : Nat) (hnews : ∀ j u, (momV m vx)[j]? = some u → w.cell? ⟨bx, 0 + j, none⟩ = some u) (hx : a.eval x = .slice (some ⟨bx, 0, none⟩) 1 cx) (hlo : lo ≤ w.heap.size) (hn : ms.length ≤ 1048576)
    (h : ∀ g cap w', BMoms w' lo (.slice (some ⟨g, 0, none⟩) (ms ++ [m]).length cap) (ms ++ [m]) → Mv [114] lo w w' → w.heap.size ≤ w'.heap.size →
      K (a.put o.dst (.slice (some ⟨g, 0, none⟩) (ms ++ [m]).length cap)) w') : o.wp Tryz.prog a w K Q := by
  obtain ⟨vv, hO, hV⟩ := hM
  have hl1 : (ms ++ [m]).length = ms.length + 1 := by simp
  refine wp_appendG w s x 24 ho lo 114 _ 6 72 1 Tryz.underlying24 i_mom' rfl (by omega) v ms.length (momC ms vv) (momC (ms ++ [m]) (snocV vv ms.length vx)) hs hO (momV m vx) rfl (by omega) ?_ bx 0 cx hx hnews
    (fun i hi j _ => momC_old ms vv m vx hi j) (fun i hi j hj => ?_) hlo (by omega) (by omega) ?_
  · exact momV_one m (owr_one hvx)
  · obtain rfl : i = 0 := by omega
    rw [Nat.zero_mul, Nat.zero_add, Nat.add_zero]; exact momC_new ms vv m vx hj
  · intro g cap w' h1 h2 h3 h4
    have hmv : Mv [114] lo w w' := (Mv.refl _ _ _).grown hlo h2 (fun b hb => by obtain ⟨N, F, hB⟩ := hO.block hb; exact ⟨(hO.lt b hb).1, _, N, F, hB, by simp⟩)
    rw [← hl1] at h1 ⊢
    exact h g cap w' (BMoms.snoc (fun i hi => (hV i hi).mv hmv (by decide)) h1 (hvx.mv hmv (by decide))) hmv h2.size
theorem new_at (w : World) (ns : List Value) (t : TypeId) (j : Nat) (u : Value) (h : ns[j]? = some u) : (w.alloc (.cells ns.toArray t)).cell? ⟨w.heap.size, 0 + j, none⟩ = some u := by
  rw [Nat.zero_add]
  exact BoxAt.new w ns t j u h
/-- The walk stands at an append of one moment. -/
theorem wpList_appendM {ops : Array Oper} {rest : List Oper} {o : Oper} {a : Act} {Q : Exit → Act → World → Prop} (w : World) (hgd : o.guard = none) (s x : Operand)
    (ho : o.op = .call { callee := .builtin .append, args := #[s, x], argTypes := #[24, 24] }) (lo : Nat) (v : Value) (ms : List PMom) (m : PMom) (vx : Value) (hs : a.eval s = v)
    (hM : BMoms w lo v ms) (hvx : OwR w lo 40 2 m.vars.length (varC m.vars) vx) (news : Array Value) (hnews : news = (momV m vx).toArray) (hx : a.eval x = .slice (some ⟨w.heap.size, 0, none⟩) 1 1) (hlo : lo ≤ w.heap.size) (hn : ms.length ≤ 1048576)
    (h : ∀ g cap w', BMoms w' lo (.slice (some ⟨g, 0, none⟩) (ms ++ [m]).length cap) (ms ++ [m]) → Mv [114] lo w w' → w.heap.size ≤ w'.heap.size →
      wpList Tryz.prog ops Q rest (a.put o.dst (.slice (some ⟨g, 0, none⟩) (ms ++ [m]).length cap)) w') : wpList Tryz.prog ops Q (o :: rest) a (w.alloc (.cells news 114)) := by
  subst hnews
  refine wpList_plain hgd fun _ hK => wp_appendM _ s x ho lo v ms m vx hs (hM.later (bl_alloc (Below.refl _ _) _)) (hvx.later (bl_alloc (Below.refl _ _) _)) w.heap.size 1 (new_at w _ _) hx (by simp; omega) hn fun g cap w' h1 h2 h3 => hK _ _ (h g cap w' h1 ?_ (by simp at h3; omega))
  exact ((Mv.refl _ _ _).alloc hlo _).trans h2
/-- The two cells of a trace's box. -/
def trF (a b : Value) (j : Nat) : Value := match j with | 0 => a | _ => b
theorem trF_set {w : World} {g : Nat} {a b : Value} (h : Blk w g 26 2 (trF a b)) (u : Value) : Blk (w.setCell ⟨g, 1, none⟩ u) g 26 2 (trF a u) :=
  (h.set (j := 1) (by omega) u).congr fun j hj => by match j, hj with | 0, _ => rfl | 1, _ => rfl
theorem bl_low9 {lo B : Nat} {w W : World} (h : Below B w W) (hl : lo ≤ B) : Below lo w W := ⟨h.os, h.tape, h.output, h.size, fun k hk => h.block k (Nat.lt_of_lt_of_le hk hl)⟩
theorem bl_trans9 {lo : Nat} {a b c : World} (h : Below lo a b) (k : Below lo b c) : Below lo a c := ⟨k.os.trans h.os, k.tape.trans h.tape, k.output.trans h.output, Nat.le_trans h.size k.size, fun j hj => (k.block j hj).trans (h.block j hj)⟩
end Go.Proofs.YtcklnjjbhngbcaaGreatDoor
