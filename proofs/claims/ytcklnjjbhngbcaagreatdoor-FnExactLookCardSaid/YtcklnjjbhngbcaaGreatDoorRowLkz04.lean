/- Lemmas and contracts of functions that the theorem of this claim leans on (texts B2, B3). -/
import Derived.Test.YtcklnjjbhngbcaaGreatDoorRowLkz02
import Derived.Deep.AppendLies
namespace Go.Proofs.Lens
open Go.RowKit

/-- f, but v at j. -/
def upd (f : Nat → Value) (j : Nat) (v : Value) (i : Nat) : Value := if i = j then v else f i
theorem upd_same (f : Nat → Value) (j : Nat) (v : Value) : upd f j v j = v := by simp [upd]
theorem upd_ne (f : Nat → Value) {i j : Nat} (v : Value) (h : i ≠ j) : upd f j v i = f i := by simp [upd, h]

/-- Block g holds N cells of element type e, not frozen: cell j is f j. -/
def Blk (w : World) (g : Nat) (e : TypeId) (N : Nat) (f : Nat → Value) : Prop :=
  ∃ cur : Array Value, w.heap[g]? = some (.cells cur e (0, 0)) ∧ cur.size = N ∧ ∀ j, j < N → cur[j]? = some (f j)
section
variable {w w' : World} {g : Nat} {e : TypeId} {N : Nat} {f : Nat → Value}
theorem Blk.cell (h : Blk w g e N f) {j : Nat} (hj : j < N) : w.cell? ⟨g, j, none⟩ = some (f j) := by
  obtain ⟨cur, h1, h2, h3⟩ := h
  unfold World.cell?
  rw [h1]
  exact h3 j hj
theorem Blk.free (h : Blk w g e N f) (j : Nat) : w.frozen? ⟨g, j, none⟩ = false := by
  obtain ⟨cur, h1, _⟩ := h
  unfold World.frozen?
  rw [h1]
  simp
theorem Blk.lt (h : Blk w g e N f) : g < w.heap.size := by
  obtain ⟨cur, h1, _⟩ := h
  exact (Array.getElem?_eq_some_iff.1 h1).1
theorem Blk.keep (h : Blk w g e N f) (hk : w'.heap[g]? = w.heap[g]?) : Blk w' g e N f := by
  obtain ⟨cur, h1, h2⟩ := h
  exact ⟨cur, hk.trans h1, h2⟩
theorem Blk.later (h : Blk w g e N f) (hb : Below w.heap.size w w') : Blk w' g e N f := h.keep (hb.block g h.lt)
theorem Blk.alloc (h : Blk w g e N f) (o : Obj) : Blk (w.alloc o) g e N f := h.keep (Below.heap_alloc w o g h.lt)
theorem Blk.drew (h : Blk w g e N f) : Blk w.drew g e N f := h
theorem Blk.far (h : Blk w g e N f) {p : Addr} (hp : g ≠ p.block) (u : Value) : Blk (w.setCell p u) g e N f := h.keep (Below.heap_setCell w p u g hp)
theorem Blk.set (h : Blk w g e N f) {j : Nat} (hj : j < N) (v : Value) : Blk (w.setCell ⟨g, j, none⟩ v) g e N (upd f j v) := by
  obtain ⟨cur, h1, h2, h3⟩ := h
  refine ⟨cur.setIfInBounds j v, ?_, by simp [h2], fun i hi => ?_⟩
  · simp only [World.setCell, Array.getElem?_modify]
    rw [if_pos trivial, h1]
    rfl
  · rw [Array.getElem?_setIfInBounds]
    by_cases hij : j = i
    · subst hij
      rw [if_pos rfl, if_pos (by omega), upd_same]
    · rw [if_neg hij, upd_ne _ _ (by omega)]
      exact h3 i hi
theorem Blk.congr {f' : Nat → Value} (h : Blk w g e N f) (hf : ∀ j, j < N → f j = f' j) : Blk w g e N f' := by
  obtain ⟨cur, h1, h2, h3⟩ := h
  exact ⟨cur, h1, h2, fun j hj => by rw [h3 j hj, hf j hj]⟩
theorem Blk.new (w : World) (C : Array Value) (e : TypeId) (f : Nat → Value) (hC : ∀ j, j < C.size → C[j]? = some (f j)) : Blk (w.alloc (.cells C e)) w.heap.size e C.size f :=
  ⟨C, by show (w.heap.push _)[w.heap.size]? = _; simp, rfl, hC⟩
theorem Blk.ne {g' : Nat} {e' : TypeId} {N' : Nat} {f' : Nat → Value} (h : Blk w g e N f) (h' : Blk w g' e' N' f') (he : e ≠ e') : g ≠ g' := by
  rintro rfl
  obtain ⟨_, h1, _⟩ := h
  obtain ⟨_, h2, _⟩ := h'
  rw [h1] at h2
  injection h2 with h2
  injection h2 with _ h2
  exact he h2
theorem Blk.made (w : World) (C : Array Value) (e : TypeId) : Blk (w.alloc (.cells C e)) w.heap.size e C.size (fun j => C.getD j undef) := Blk.new w C e _ (fun j hj => by simp [hj])
/-- A block that is read as a slice from its head. -/
theorem Blk.rd (h : Blk w g e N f) {n sz c : Nat} (hn : n * sz ≤ N) (hm : n ≤ 9223372036854775807) : RdSl w sz n (fun i j => f (i * sz + j)) (.slice (some ⟨g, 0, none⟩) n c) := by
  refine ⟨_, c, rfl, hm, fun hp => ⟨g, 0, rfl, fun i hi j hj => ?_⟩⟩
  have : i * sz + j < N := by
    have h1 : (i + 1) * sz ≤ n * sz := Nat.mul_le_mul_right _ (by omega)
    rw [Nat.add_mul] at h1
    omega
  rw [Nat.zero_add]
  exact h.cell this
end
theorem mul_lt {i n sz j : Nat} (hi : i < n) (hj : j < sz) : i * sz + j < n * sz := by
  have h1 : (i + 1) * sz ≤ n * sz := Nat.mul_le_mul_right _ (by omega)
  rw [Nat.add_mul] at h1
  omega

/-- 'make([]T, n)' with n a variable: the run, its cells under a name. -/
theorem make_law {P : Program} (t e : TypeId) {zero : Value} {sz bytes : Nat} (ht : P.underlying t = some (.slice e)) (hinfo : (P.info? e).map (fun i => (i.zero, i.size, i.bytes)) = some (some zero, sz, bytes))
    (n : Nat) (hn : bytes * n ≤ 281474976710656) (hm : n ≤ 9223372036854775807) :
    ∃ C : Array Value, C.size = n * sz ∧ (∀ j, j < n * sz → C[j]? = some (zero.cells[j % zero.cells.size]!)) ∧
      ∀ w : World, (Instr.makeSlice t (.int .i64 n) (.int .i64 n)).run P w = .ok (.slice (some ⟨w.heap.size, 0, none⟩) n n) (w.alloc (.cells C e)) := by
  cases hi : P.info? e with
  | none => rw [hi] at hinfo; cases hinfo
  | some i =>
    rw [hi] at hinfo
    simp only [Option.map_some, Option.some.injEq, Prod.mk.injEq] at hinfo
    obtain ⟨hz, rfl, rfl⟩ := hinfo
    refine ⟨madeCells zero.cells (n * i.size), size_madeCells _ _, fun j hj => by simp [madeCells, hj], fun w => ?_⟩
    have := run_make (P := P) w t e i zero ht hi hz .i64 .i64 (n : Int) (n : Int) (by omega) (by omega) (by rw [← Int.natCast_mul]; omega) (by omega)
    simpa using this
end Go.Proofs.Lens

namespace Go.Proofs.Lens
open Go.RowKit

/-- n elements of sz cells each, in one list. -/
def cellsR (sz : Nat) (C : Nat → Nat → Value) (n : Nat) : List Value := (List.range (n * sz)).map fun p => C (p / sz) (p % sz)
theorem cellsR_length (sz : Nat) (C : Nat → Nat → Value) (n : Nat) : (cellsR sz C n).length = n * sz := by simp [cellsR]
theorem cellsR_at {sz : Nat} {C : Nat → Nat → Value} {n i j : Nat} (hi : i < n) (hj : j < sz) : (cellsR sz C n)[i * sz + j]? = some (C i j) := by
  have h := mul_lt hi hj
  have h1 : (i * sz + j) / sz = i := by rw [Nat.mul_comm, Nat.mul_add_div (by omega), Nat.div_eq_of_lt hj, Nat.add_zero]
  have h2 : (i * sz + j) % sz = j := by rw [Nat.mul_comm, Nat.mul_add_mod, Nat.mod_eq_of_lt hj]
  simp [cellsR, h, h1, h2]

/-- The slice value v has n elements of sz cells in a block of its own from lo on, or it is nil. -/
def OwR (w : World) (lo : Nat) (e : TypeId) (sz n : Nat) (C : Nat → Nat → Value) (v : Value) : Prop :=
  (v = .slice none 0 0 ∧ n = 0) ∨ ∃ b cap f, v = .slice (some ⟨b, 0, none⟩) n cap ∧ lo ≤ b ∧ n ≤ cap ∧ cap ≤ maxLen ∧ Blk w b e (cap * sz) f ∧ ∀ i, i < n → ∀ j, j < sz → f (i * sz + j) = C i j
section
variable {w w' : World} {lo lo' : Nat} {e : TypeId} {sz n : Nat} {C C' : Nat → Nat → Value} {v : Value}
theorem OwR.nil : OwR w lo e sz 0 C (.slice none 0 0) := .inl ⟨rfl, rfl⟩
theorem OwR.keep (h : OwR w lo e sz n C v) (hk : ∀ b N f, Blk w b e N f → v.ownBlock = some b → w'.heap[b]? = w.heap[b]?) : OwR w' lo e sz n C v := by
  rcases h with h | ⟨b, cap, f, h1, h2, h3, h4, h5, h6⟩
  · exact .inl h
  · exact .inr ⟨b, cap, f, h1, h2, h3, h4, h5.keep (hk b _ _ h5 (by rw [h1]; rfl)), h6⟩
theorem OwR.later (h : OwR w lo e sz n C v) (hb : Below w.heap.size w w') : OwR w' lo e sz n C v := h.keep fun b _ _ hB _ => hb.block b hB.lt
theorem OwR.lower (h : OwR w lo e sz n C v) (hl : lo' ≤ lo) : OwR w lo' e sz n C v := by
  rcases h with h | ⟨b, cap, f, h1, h2, h3⟩
  · exact .inl h
  · exact .inr ⟨b, cap, f, h1, Nat.le_trans hl h2, h3⟩
theorem OwR.far (h : OwR w lo e sz n C v) {p : Addr} (hp : v.ownBlock ≠ some p.block) (u : Value) : OwR (w.setCell p u) lo e sz n C v :=
  h.keep fun b _ _ _ hv => Below.heap_setCell _ _ _ _ (fun hh => hp (by rw [hv, hh]))
/-- A store into a block of another element type. -/
theorem OwR.other (h : OwR w lo e sz n C v) {g N : Nat} {e' : TypeId} {f : Nat → Value} (hB : Blk w g e' N f) (he : e ≠ e') (j : Nat) (u : Value) : OwR (w.setCell ⟨g, j, none⟩ u) lo e sz n C v :=
  h.keep fun _ _ _ hN _ => Below.heap_setCell _ _ _ _ (hN.ne hB he)
theorem OwR.grown (h : OwR w lo e sz n C v) {row : Option Nat} (hg : w.grownBy w' row) (hne : ∀ b, v.ownBlock = some b → row ≠ some b) : OwR w' lo e sz n C v :=
  h.keep fun b _ _ hN hv => hg.block b hN.lt (fun hh => hne b hv hh.symm)
theorem OwR.congr (h : OwR w lo e sz n C v) (hC : ∀ i, i < n → ∀ j, j < sz → C i j = C' i j) : OwR w lo e sz n C' v := by
  rcases h with h | ⟨b, cap, f, h1, h2, h3, h4, h5, h6⟩
  · exact .inl h
  · exact .inr ⟨b, cap, f, h1, h2, h3, h4, h5, fun i hi j hj => (h6 i hi j hj).trans (hC i hi j hj)⟩
theorem OwR.lt (h : OwR w lo e sz n C v) : ∀ b, v.ownBlock = some b → lo ≤ b ∧ b < w.heap.size := by
  intro b hb
  rcases h with ⟨rfl, _⟩ | ⟨b', cap, f, rfl, h2, h3, h4, h5, h6⟩
  · cases hb
  · cases hb; exact ⟨h2, h5.lt⟩
theorem OwR.rd (h : OwR w lo e sz n C v) : RdSl w sz n C v := by
  rcases h with ⟨rfl, rfl⟩ | ⟨b, cap, f, rfl, h2, h3, h4, h5, h6⟩
  · exact ⟨none, 0, rfl, by omega, fun h => absurd h (by omega)⟩
  · have hm : n ≤ 9223372036854775807 := by simp only [maxLen] at h4; omega
    exact RdSl.congr (h5.rd (n := n) (Nat.mul_le_mul_right _ h3) hm) h6
theorem OwR.row (h : OwR w lo e sz n C v) : w.ownsRow lo e sz v n (cellsR sz C n) := by
  refine ⟨cellsR_length _ _ _, ?_⟩
  rcases h with h | ⟨b, cap, f, h1, h2, h3, h4, ⟨cur, c1, c2, c3⟩, h6⟩
  · exact .inl h
  · refine .inr ⟨b, cap, cur, h1, h2, c1, h3, h4, c2, List.ext_getElem? fun p => ?_⟩
    by_cases hp : p < n * sz
    · have hsz : 0 < sz := Nat.pos_of_ne_zero fun h0 => by subst h0; omega
      have e1 : p = p / sz * sz + p % sz := by rw [Nat.mul_comm]; exact (Nat.div_add_mod p sz).symm
      have hi : p / sz < n := by rw [Nat.div_lt_iff_lt_mul hsz]; exact hp
      have hj : p % sz < sz := Nat.mod_lt _ hsz
      have hle : n * sz ≤ cap * sz := Nat.mul_le_mul_right _ h3
      rw [List.getElem?_take, if_pos hp, Array.getElem?_toList, c3 p (by omega), e1, cellsR_at hi hj, h6 _ hi _ hj]
    · rw [List.getElem?_take, if_neg hp, List.getElem?_eq_none (by rw [cellsR_length]; omega)]
theorem OwR.of_row {xs : List Value} (h : w.ownsRow lo e sz v n xs) (hx : ∀ i, i < n → ∀ j, j < sz → xs[i * sz + j]? = some (C i j)) : OwR w lo e sz n C v := by
  rcases h with ⟨hl, h | ⟨g, cap, cur, h1, h2, h3, h4, h5, h6, h7⟩⟩
  · exact .inl h
  · refine .inr ⟨g, cap, fun j => cur.getD j undef, h1, h2, h4, h5, ⟨cur, h3, h6, fun j hj => by simp [h6, hj]⟩, fun i hi j hj => ?_⟩
    have h8 := hx i hi j hj
    have hlt := mul_lt hi hj
    rw [← h7, List.getElem?_take, if_pos hlt, Array.getElem?_toList] at h8
    show cur.getD _ undef = _
    rw [Array.getD_eq_getD_getElem?, h8]; rfl
/-- What append leaves. -/
theorem OwR.of_append {m : Nat} {news : List Value} (h : w'.ownsRow lo e sz v (n + m) (cellsR sz C n ++ news)) (hC : ∀ i, i < n → ∀ j, j < sz → C i j = C' i j)
    (hn : ∀ i, i < m → ∀ j, j < sz → news[i * sz + j]? = some (C' (n + i) j)) : OwR w' lo e sz (n + m) C' v :=
  OwR.of_row h fun i hi j hj => by
    by_cases h1 : i < n
    · rw [List.getElem?_append_left (by rw [cellsR_length]; exact mul_lt h1 hj), cellsR_at h1 hj, hC i h1 j hj]
    · obtain ⟨k, rfl⟩ : ∃ k, i = n + k := ⟨i - n, by omega⟩
      rw [List.getElem?_append_right (by rw [cellsR_length, Nat.add_mul]; omega), cellsR_length, show (n + k) * sz + j - n * sz = k * sz + j by rw [Nat.add_mul]; omega]
      exact hn k (by omega) j hj
theorem OwR.take {b cap m : Nat} (h : OwR w lo e sz n C (.slice (some ⟨b, 0, none⟩) n cap)) (hm : m ≤ n) : OwR w lo e sz m C (.slice (some ⟨b, 0, none⟩) m cap) := by
  rcases h with ⟨h, _⟩ | ⟨b', cap', f, h1, h2, h3, h4, h5, h6⟩
  · cases h
  · cases h1
    exact .inr ⟨b, cap, f, rfl, h2, by omega, h4, h5, fun i hi j hj => h6 i (by omega) j hj⟩
/-- A store into a cell of its own. -/
theorem OwR.set {b cap i0 j0 : Nat} {u : Value} (h : OwR w lo e sz n C (.slice (some ⟨b, 0, none⟩) n cap)) (hi : i0 < n) (hj : j0 < sz) (hne : ∀ i j, i < n → j < sz → (i ≠ i0 ∨ j ≠ j0) → C' i j = C i j) (heq : C' i0 j0 = u) :
    OwR (w.setCell ⟨b, i0 * sz + j0, none⟩ u) lo e sz n C' (.slice (some ⟨b, 0, none⟩) n cap) := by
  rcases h with ⟨h, _⟩ | ⟨b', cap', f, h1, h2, h3, h4, h5, h6⟩
  · cases h
  · cases h1
    have hle : n * sz ≤ cap * sz := Nat.mul_le_mul_right _ h3
    have hlt := mul_lt hi hj
    refine .inr ⟨b, cap, _, rfl, h2, h3, h4, h5.set (by omega) u, fun i hi' j hj' => ?_⟩
    by_cases hc : i = i0 ∧ j = j0
    · obtain ⟨rfl, rfl⟩ := hc
      rw [upd_same, heq]
    · have : i ≠ i0 ∨ j ≠ j0 := by omega
      rw [hne i j hi' hj' this, ← h6 i hi' j hj']
      refine upd_ne _ _ fun hh => ?_
      have e1 : (i * sz + j) / sz = (i0 * sz + j0) / sz := by rw [hh]
      have e2 : (i * sz + j) % sz = (i0 * sz + j0) % sz := by rw [hh]
      rw [Nat.mul_comm, Nat.mul_comm i0, Nat.mul_add_div (by omega), Nat.mul_add_div (by omega), Nat.div_eq_of_lt hj, Nat.div_eq_of_lt hj', Nat.add_zero, Nat.add_zero] at e1
      rw [Nat.mul_comm, Nat.mul_comm i0, Nat.mul_add_mod, Nat.mul_add_mod, Nat.mod_eq_of_lt hj, Nat.mod_eq_of_lt hj'] at e2
      omega
theorem OwR.open' (h : OwR w lo e sz n C v) : ∃ A cap, v = .slice A n cap ∧ (0 < n → ∃ b, A = some ⟨b, 0, none⟩ ∧ lo ≤ b ∧ b < w.heap.size ∧ (∀ i, i < n → ∀ j, j < sz → w.cell? ⟨b, i * sz + j, none⟩ = some (C i j)) ∧ ∀ j, w.frozen? ⟨b, j, none⟩ = false) := by
  rcases h with ⟨rfl, rfl⟩ | ⟨b, cap, f, rfl, h2, h3, h4, h5, h6⟩
  · exact ⟨none, 0, rfl, fun h => absurd h (by omega)⟩
  · refine ⟨_, cap, rfl, fun _ => ⟨b, rfl, h2, h5.lt, fun i hi j hj => ?_, fun j => h5.free j⟩⟩
    have hle : n * sz ≤ cap * sz := Nat.mul_le_mul_right _ h3
    have hlt := mul_lt hi hj
    rw [h5.cell (by omega), h6 i hi j hj]
theorem OwR.cap (h : OwR w lo e sz n C v) : ∃ A cap, v = .slice A n cap ∧ n ≤ cap ∧ cap ≤ 9223372036854775807 := by
  rcases h with ⟨rfl, rfl⟩ | ⟨b, cap, f, rfl, h2, h3, h4, h5, h6⟩
  · exact ⟨none, 0, rfl, by omega, by omega⟩
  · exact ⟨_, cap, rfl, h3, by simp only [maxLen] at h4; omega⟩
theorem OwR.block (h : OwR w lo e sz n C v) {b : Nat} (hb : v.ownBlock = some b) : ∃ N f, Blk w b e N f := by
  rcases h with ⟨rfl, _⟩ | ⟨b', cap, f, rfl, _, _, _, hB, _⟩
  · cases hb
  · cases hb; exact ⟨_, _, hB⟩
end
/-- From w to w' blocks from lo on alone have turned, and of those that w had only such as hold cells of the types ts. -/
structure Mv (ts : List TypeId) (lo : Nat) (w w' : World) : Prop where
  bl : Below lo w w'
  kp : ∀ (b : Nat) (o : Obj), w.heap[b]? = some o → (∀ (cur : Array Value) (e : TypeId) (fr : Nat × Nat), o = Obj.cells cur e fr → e ∉ ts) → w'.heap[b]? = some o
section
variable {ts : List TypeId} {lo : Nat} {w W W' : World}
theorem Mv.refl (ts : List TypeId) (lo : Nat) (w : World) : Mv ts lo w w := ⟨Below.refl _ _, fun _ _ h _ => h⟩
theorem Mv.alloc (h : Mv ts lo w W) (hl : lo ≤ W.heap.size) (o : Obj) : Mv ts lo w (W.alloc o) :=
  ⟨h.bl.alloc hl o, fun b o' hb hn => by
    have := h.kp b o' hb hn
    rw [Below.heap_alloc W o b (Array.getElem?_eq_some_iff.1 this).1]; exact this⟩
theorem Mv.drew (h : Mv ts lo w W) : Mv ts lo w W.drew := ⟨h.bl.drew, h.kp⟩
theorem Mv.drewN (h : Mv ts lo w W) (n : Nat) : Mv ts lo w (W.drewN n) := ⟨⟨h.bl.os, h.bl.tape, h.bl.output, h.bl.size, h.bl.block⟩, h.kp⟩
theorem Mv.set (h : Mv ts lo w W) {p : Addr} (hp : lo ≤ p.block) {e : TypeId} {N : Nat} {f : Nat → Value} (hB : Blk W p.block e N f) (he : e ∈ ts) (u : Value) : Mv ts lo w (W.setCell p u) :=
  ⟨h.bl.setCell hp u, fun b o hb hn => by
    have h1 := h.kp b o hb hn
    rw [Below.heap_setCell W p u b (fun hh => by
      obtain ⟨cur, h2, _⟩ := hB
      rw [← hh, h1] at h2
      cases h2
      exact hn cur e (0, 0) rfl he)]
    exact h1⟩
theorem Mv.setNew (h : Mv ts lo w W) {p : Addr} (hp : lo ≤ p.block) (hw : w.heap.size ≤ p.block) (u : Value) : Mv ts lo w (W.setCell p u) :=
  ⟨h.bl.setCell hp u, fun b o hb hn => by
    have h1 := h.kp b o hb hn
    have hlt := (Array.getElem?_eq_some_iff.1 hb).1
    rw [Below.heap_setCell W p u b (by omega)]
    exact h1⟩
theorem Mv.grown (h : Mv ts lo w W) (hl : lo ≤ W.heap.size) {r : Option Nat} (hg : W.grownBy W' r) (hr : ∀ b, r = some b → lo ≤ b ∧ ∃ e N f, Blk W b e N f ∧ e ∈ ts) : Mv ts lo w W' :=
  ⟨⟨hg.os.trans h.bl.os, hg.tape.trans h.bl.tape, hg.output.trans h.bl.output, Nat.le_trans h.bl.size hg.size, fun k hk => (hg.block k (Nat.lt_of_lt_of_le hk hl) (fun hh => by have := (hr k hh.symm).1; omega)).trans (h.bl.block k hk)⟩,
    fun b o hb hn => by
      have h1 := h.kp b o hb hn
      rw [hg.block b (Array.getElem?_eq_some_iff.1 h1).1 (fun hh => by
        obtain ⟨_, e, N, f, ⟨cur, h2, _⟩, he⟩ := hr b hh.symm
        rw [h1] at h2
        cases h2
        exact hn cur e (0, 0) rfl he)]
      exact h1⟩
theorem Mv.of_below (h : Below w.heap.size w W) (hl : lo ≤ w.heap.size) : Mv ts lo w W :=
  ⟨⟨h.os, h.tape, h.output, h.size, fun k hk => h.block k (by omega)⟩, fun b o hb _ => by rw [h.block b (Array.getElem?_eq_some_iff.1 hb).1]; exact hb⟩
theorem Mv.trans (h : Mv ts lo w W) (k : Mv ts lo W W') : Mv ts lo w W' :=
  ⟨⟨k.bl.os.trans h.bl.os, k.bl.tape.trans h.bl.tape, k.bl.output.trans h.bl.output, Nat.le_trans h.bl.size k.bl.size, fun j hj => (k.bl.block j hj).trans (h.bl.block j hj)⟩, fun b o hb hn => k.kp b o (h.kp b o hb hn) hn⟩
theorem Mv.lower {lo' : Nat} (h : Mv ts lo w W) (hl : lo' ≤ lo) : Mv ts lo' w W := ⟨⟨h.bl.os, h.bl.tape, h.bl.output, h.bl.size, fun k hk => h.bl.block k (by omega)⟩, h.kp⟩
theorem Blk.mv {b : Nat} {e : TypeId} {N : Nat} {f : Nat → Value} (hB : Blk w b e N f) (h : Mv ts lo w W) (he : e ∉ ts) : Blk W b e N f :=
  hB.keep (by
    obtain ⟨cur, h1, _⟩ := hB
    rw [h1]
    exact h.kp b _ h1 (fun cur' e' fr' hh => by cases hh; exact he))
theorem OwR.mv {lo' : Nat} {e : TypeId} {sz n : Nat} {C : Nat → Nat → Value} {v : Value} (hR : OwR w lo' e sz n C v) (h : Mv ts lo w W) (he : e ∉ ts) : OwR W lo' e sz n C v :=
  hR.keep fun b N f hB _ => by
    obtain ⟨cur, h1, _⟩ := hB
    rw [h1]
    exact h.kp b _ h1 (fun cur' e' fr' hh => by cases hh; exact he)
end
end Go.Proofs.Lens
