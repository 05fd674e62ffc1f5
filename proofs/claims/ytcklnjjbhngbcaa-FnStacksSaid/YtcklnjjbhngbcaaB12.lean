/- append of a slice that may be empty onto a slice that the call owns. -/
import Derived.Test.YtcklnjjbhngbcaaB8
import Derived.Laws.OwnMore
namespace Go.Proofs.Lens
open Go.RowKit

theorem OwR.src {w : World} {lo n sz c : Nat} {e : TypeId} {C : Nat → Nat → Value} {A : Option Addr} (h : OwR w lo e sz n C (.slice A n c)) :
    (A = none ∧ n = 0 ∧ c = 0) ∨ ∃ b off, A = some ⟨b, off, none⟩ ∧ ∀ i, i < n → ∀ j, j < sz → w.cell? ⟨b, off + (i * sz + j), none⟩ = some (C i j) := by
  rcases h with ⟨h1, h2⟩ | ⟨b, cap, f, h1, h2, h3, h4, h5, h6⟩
  · simp only [Value.slice.injEq] at h1
    exact .inl ⟨h1.1, h2, h1.2.2⟩
  · simp only [Value.slice.injEq, true_and] at h1
    refine .inr ⟨b, 0, h1.1, fun i hi j hj => ?_⟩
    have hle : n * sz ≤ cap * sz := Nat.mul_le_mul_right _ h3
    have hlt := mul_lt hi hj
    rw [Nat.zero_add, h5.cell (by omega), h6 i hi j hj]
/-- A literal's row. -/
theorem OwR.lit {w : World} {e : TypeId} {sz n : Nat} {C : Nat → Nat → Value} (cs : Array Value) (hs : cs.size = n * sz) (hm : n ≤ maxLen) (hC : ∀ i, i < n → ∀ j, j < sz → cs.getD (i * sz + j) undef = C i j) :
    OwR (w.alloc (.cells cs e)) w.heap.size e sz n C (.slice (some ⟨w.heap.size, 0, none⟩) n n) :=
  .inr ⟨w.heap.size, n, fun j => cs.getD j undef, rfl, Nat.le_refl _, Nat.le_refl _, hm, by rw [← hs]; exact Blk.made w cs e, hC⟩
section
variable {P : Program} {o : Oper} {a : Act} {K : Act → World → Prop} {Q : Exit → Act → World → Prop}
/-- At an operation that comes up in a region: what is appended lies in a block that is read, or is nil. -/
theorem wp_appendR (w : World) (s x : Operand) (t : TypeId)
    (ho : o.op = .call { callee := .builtin .append, args := #[s, x], argTypes := #[t, t] }) (lo : Nat) (e : TypeId) (z : Value) (sz bytes k : Nat) (ht : P.underlying t = some (.slice e))
    (hinfo : (P.info? e).map (fun i => (i.zero, i.size, i.bytes)) = some (some z, sz, bytes)) (hzs : z.cells.size = sz) (hsz : 0 < sz) (v : Value) (n : Nat) (C C' C2 : Nat → Nat → Value) (hs : a.eval s = v)
    (hO : OwR w lo e sz n C v) (A : Option Addr) (c : Nat) (hx : a.eval x = .slice A k c)
    (hsrc : (A = none ∧ k = 0 ∧ c = 0) ∨ ∃ b off, A = some ⟨b, off, none⟩ ∧ ∀ i, i < k → ∀ j, j < sz → w.cell? ⟨b, off + (i * sz + j), none⟩ = some (C2 i j)) (h1 : ∀ i j, (C2 i j).oneCell' = true)
    (hC : ∀ i, i < n → ∀ j, j < sz → C i j = C' i j) (hN : ∀ i, i < k → ∀ j, j < sz → C2 i j = C' (n + i) j) (hlo : lo ≤ w.heap.size) (hn : n + k ≤ 9223372036854775807) (hb : (n + k) * bytes ≤ 140737488355328)
    (h : ∀ v' w', OwR w' lo e sz (n + k) C' v' → w.grownBy w' v.ownBlock → K (a.put o.dst v') w') : o.wp P a w K Q := by
  cases hi : P.info? e with
  | none => rw [hi] at hinfo; cases hinfo
  | some i =>
    rw [hi] at hinfo
    simp only [Option.map_some, Option.some.injEq, Prod.mk.injEq] at hinfo
    obtain ⟨hz, hs1, hb1⟩ := hinfo
    rcases hsrc with ⟨rfl, rfl, rfl⟩ | ⟨b, off, rfl, hcell⟩
    · have hr := run_append_owned_none (P := P) (w := w) lo t o.type e i sz ht hi v n _ hO.row
      unfold Oper.wp execOp
      simp only [ho, resolve, invoke, builtin, Sem.run_bind, Sem.run_pure, Result.andThen_ok, List.map_toArray, List.map_cons, List.map_nil, hs, hx, hr]
      exact h v w (hO.congr hC) (World.grownBy.refl w _)
    · obtain ⟨v', w', hr, h2, h3, -⟩ := run_append_own (P := P) w lo t o.type e i z sz bytes ht hi hz hs1 hb1 hzs hsz v n (cellsR sz C n) hO.row ⟨b, off, none⟩ k c (cellsR sz C2 k) (cellsR_length _ _ _)
        (fun j u hj => by
          have hlt := (List.getElem?_eq_some_iff.1 hj).1
          rw [cellsR_length] at hlt
          have h4 : j / sz < k := by rw [Nat.div_lt_iff_lt_mul hsz]; exact hlt
          have h5 : j % sz < sz := Nat.mod_lt _ hsz
          have e1 : j / sz * sz + j % sz = j := by rw [Nat.mul_comm]; exact Nat.div_add_mod j sz
          have h6 := cellsR_at (C := C2) h4 h5
          rw [e1, hj] at h6
          have h7 := hcell _ h4 _ h5
          rw [e1] at h7
          have ha : (Addr.add ⟨b, off, none⟩ j) = ⟨b, off + j, none⟩ := by unfold Addr.add; split <;> simp_all
          rw [ha, h7, h6])
        (fun u hu => by
          obtain ⟨p, -, rfl⟩ := List.mem_map.1 hu
          exact h1 _ _) (by simp only [maxLen]; omega) hb hlo
      unfold Oper.wp execOp
      simp only [ho, resolve, invoke, builtin, Sem.run_bind, Sem.run_pure, Result.andThen_ok, List.map_toArray, List.map_cons, List.map_nil, hs, hx, hr]
      exact h v' w' (OwR.of_append h2 hC fun i hi j hj => by rw [cellsR_at hi hj, hN i hi j hj]) h3
end
section
variable {P : Program} {ops : Array Oper} {rest : List Oper} {o : Oper} {a : Act} {Q : Exit → Act → World → Prop}
theorem wpList_appendR (w : World) (hgd : o.guard = none) (s x : Operand) (t : TypeId)
    (ho : o.op = .call { callee := .builtin .append, args := #[s, x], argTypes := #[t, t] }) (lo : Nat) (e : TypeId) (z : Value) (sz bytes k : Nat) (ht : P.underlying t = some (.slice e))
    (hinfo : (P.info? e).map (fun i => (i.zero, i.size, i.bytes)) = some (some z, sz, bytes)) (hzs : z.cells.size = sz) (hsz : 0 < sz) (v : Value) (n : Nat) (C C' C2 : Nat → Nat → Value) (hs : a.eval s = v)
    (hO : OwR w lo e sz n C v) (A : Option Addr) (c : Nat) (hx : a.eval x = .slice A k c)
    (hsrc : (A = none ∧ k = 0 ∧ c = 0) ∨ ∃ b off, A = some ⟨b, off, none⟩ ∧ ∀ i, i < k → ∀ j, j < sz → w.cell? ⟨b, off + (i * sz + j), none⟩ = some (C2 i j)) (h1 : ∀ i j, (C2 i j).oneCell' = true)
    (hC : ∀ i, i < n → ∀ j, j < sz → C i j = C' i j) (hN : ∀ i, i < k → ∀ j, j < sz → C2 i j = C' (n + i) j) (hlo : lo ≤ w.heap.size) (hn : n + k ≤ 9223372036854775807) (hb : (n + k) * bytes ≤ 140737488355328)
    (h : ∀ v' w', OwR w' lo e sz (n + k) C' v' → w.grownBy w' v.ownBlock → wpList P ops Q rest (a.put o.dst v') w') : wpList P ops Q (o :: rest) a w :=
  wpList_plain hgd fun K hK => wp_appendR w s x t ho lo e z sz bytes k ht hinfo hzs hsz v n C C' C2 hs hO A c hx hsrc h1 hC hN hlo hn hb fun v' w' h2 h3 => hK _ _ (h v' w' h2 h3)
end
end Go.Proofs.Lens
