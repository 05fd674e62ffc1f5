/- append of several elements onto a slice that the call owns. -/
import Derived.Test.YtcklnjjbhngbcaaGreatDoorB5
namespace Go.Proofs.Lens
open Go.RowKit

section
variable {P : Program} {ops : Array Oper} {rest : List Oper} {o : Oper} {a : Act} {Q : Exit → Act → World → Prop}
theorem wpList_appendK (w : World) (hgd : o.guard = none) (s x : Operand) (t : TypeId)
    (ho : o.op = .call { callee := .builtin .append, args := #[s, x], argTypes := #[t, t] }) (lo : Nat) (e : TypeId) (z : Value) (sz bytes k : Nat) (ht : P.underlying t = some (.slice e))
    (hinfo : (P.info? e).map (fun i => (i.zero, i.size, i.bytes)) = some (some z, sz, bytes)) (hzs : z.cells.size = sz) (hsz : 0 < sz) (v : Value) (n : Nat) (C C' : Nat → Nat → Value) (hs : a.eval s = v)
    (hO : OwR w lo e sz n C v) (news : List Value) (hl : news.length = k * sz) (hk : 0 < k) (h1 : ∀ u ∈ news, u.oneCell' = true) (hx : a.eval x = .slice (some ⟨w.heap.size, 0, none⟩) k k)
    (hC : ∀ i, i < n → ∀ j, j < sz → C i j = C' i j) (hN : ∀ i, i < k → ∀ j, j < sz → news[i * sz + j]? = some (C' (n + i) j)) (hlo : lo ≤ w.heap.size) (hn : n + k ≤ 9223372036854775807) (hb : (n + k) * bytes ≤ 140737488355328)
    (h : ∀ g cap w', OwR w' lo e sz (n + k) C' (.slice (some ⟨g, 0, none⟩) (n + k) cap) → w.grownBy w' v.ownBlock → (v.ownBlock = some g ∨ g = w.heap.size + 1) → g < w'.heap.size →
      wpList P ops Q rest (a.put o.dst (.slice (some ⟨g, 0, none⟩) (n + k) cap)) w') : wpList P ops Q (o :: rest) a (w.alloc (.cells news.toArray e)) := by
  cases hi : P.info? e with
  | none => rw [hi] at hinfo; cases hinfo
  | some i =>
    rw [hi] at hinfo
    simp only [Option.map_some, Option.some.injEq, Prod.mk.injEq] at hinfo
    obtain ⟨hz, hs1, hb1⟩ := hinfo
    have hnew := Blk.new w news.toArray e (fun j => news.getD j undef) (fun j hj => by
      have : j < news.length := by simpa using hj
      simp [this])
    refine wpList_append_lies _ hgd s x t ho lo e i z sz bytes ht hi hz hs1 hb1 hzs hsz v n (cellsR sz C n) hs (hO.later (Below.alloc (Below.refl _ _) (Nat.le_refl _) _)).row ⟨w.heap.size, 0, none⟩ k k news hx hl
      (fun j u hj => ?_) h1 hk (by simp only [maxLen]; omega) hb (by simp; omega) (w.heap.size + 1) (by simp) (fun g cap w' h2 h3 h4 h5 => ?_)
    · obtain ⟨hlt, hv⟩ := List.getElem?_eq_some_iff.1 hj
      have hc := hnew.cell (j := j) (by simpa using hlt)
      have ha : (Addr.add ⟨w.heap.size, 0, none⟩ j) = ⟨w.heap.size, j, none⟩ := by unfold Addr.add; split <;> simp_all
      rw [ha, hc, ← hv]
      simp [hlt]
    · exact h g cap w' (OwR.of_append h2 hC fun i hi j hj => hN i hi j hj) ((World.grownBy_alloc w _ v.ownBlock).trans h3) h4 h5
end
section
variable {P : Program} {o : Oper} {a : Act} {K : Act → World → Prop} {Q : Exit → Act → World → Prop}
/-- At an operation that comes up in a region: what is appended lies in a block that is read. -/
theorem wp_appendG (w : World) (s x : Operand) (t : TypeId)
    (ho : o.op = .call { callee := .builtin .append, args := #[s, x], argTypes := #[t, t] }) (lo : Nat) (e : TypeId) (z : Value) (sz bytes k : Nat) (ht : P.underlying t = some (.slice e))
    (hinfo : (P.info? e).map (fun i => (i.zero, i.size, i.bytes)) = some (some z, sz, bytes)) (hzs : z.cells.size = sz) (hsz : 0 < sz) (v : Value) (n : Nat) (C C' : Nat → Nat → Value) (hs : a.eval s = v)
    (hO : OwR w lo e sz n C v) (news : List Value) (hl : news.length = k * sz) (hk : 0 < k) (h1 : ∀ u ∈ news, u.oneCell' = true) (bx ox cx : Nat) (hx : a.eval x = .slice (some ⟨bx, ox, none⟩) k cx)
    (hnews : ∀ j u, news[j]? = some u → w.cell? ⟨bx, ox + j, none⟩ = some u)
    (hC : ∀ i, i < n → ∀ j, j < sz → C i j = C' i j) (hN : ∀ i, i < k → ∀ j, j < sz → news[i * sz + j]? = some (C' (n + i) j)) (hlo : lo ≤ w.heap.size) (hn : n + k ≤ 9223372036854775807) (hb : (n + k) * bytes ≤ 140737488355328)
    (h : ∀ g cap w', OwR w' lo e sz (n + k) C' (.slice (some ⟨g, 0, none⟩) (n + k) cap) → w.grownBy w' v.ownBlock → (v.ownBlock = some g ∨ g = w.heap.size) → g < w'.heap.size →
      K (a.put o.dst (.slice (some ⟨g, 0, none⟩) (n + k) cap)) w') : o.wp P a w K Q := by
  cases hi : P.info? e with
  | none => rw [hi] at hinfo; cases hinfo
  | some i =>
    rw [hi] at hinfo
    simp only [Option.map_some, Option.some.injEq, Prod.mk.injEq] at hinfo
    obtain ⟨hz, hs1, hb1⟩ := hinfo
    refine wp_append_lies w s x t ho lo e i z sz bytes ht hi hz hs1 hb1 hzs hsz v n (cellsR sz C n) hs hO.row ⟨bx, ox, none⟩ k cx news hx hl
      (fun j u hj => ?_) h1 hk (by simp only [maxLen]; omega) hb hlo w.heap.size rfl (fun g cap w' h2 h3 h4 h5 => ?_)
    · have ha : (Addr.add ⟨bx, ox, none⟩ j) = ⟨bx, ox + j, none⟩ := by unfold Addr.add; split <;> simp_all
      rw [ha]
      exact hnews j u hj
    · exact h g cap w' (OwR.of_append h2 hC fun i hi j hj => hN i hi j hj) h3 h4 h5
end
end Go.Proofs.Lens
