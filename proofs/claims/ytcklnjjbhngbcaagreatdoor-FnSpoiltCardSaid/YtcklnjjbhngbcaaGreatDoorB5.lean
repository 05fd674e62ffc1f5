/- append of one element onto a slice that the call owns, told in OwR. -/
import Derived.Test.YtcklnjjbhngbcaaGreatDoorB3
import Derived.OwnWalk
namespace Go.Proofs.Lens
open Go.RowKit

/-- The walk stands still here: 'go_wp2_with (at_builtin; refine stopped ?_)', then 'unfold Stopped'. -/
def Stopped (p : Prop) : Prop := p
theorem stopped {p : Prop} (h : Stopped p) : p := h
section
variable {P : Program} {ops : Array Oper} {rest : List Oper} {o : Oper} {a : Act} {Q : Exit → Act → World → Prop}
theorem wpList_append1 (w : World) (hgd : o.guard = none) (s x : Operand) (t : TypeId)
    (ho : o.op = .call { callee := .builtin .append, args := #[s, x], argTypes := #[t, t] }) (lo : Nat) (e : TypeId) (z : Value) (sz bytes : Nat) (ht : P.underlying t = some (.slice e))
    (hinfo : (P.info? e).map (fun i => (i.zero, i.size, i.bytes)) = some (some z, sz, bytes)) (hzs : z.cells.size = sz) (hsz : 0 < sz) (v : Value) (n : Nat) (C C' : Nat → Nat → Value) (hs : a.eval s = v)
    (hO : OwR w lo e sz n C v) (news : List Value) (hl : news.length = sz) (h1 : ∀ u ∈ news, u.oneCell' = true) (hx : a.eval x = .slice (some ⟨w.heap.size, 0, none⟩) 1 1)
    (hC : ∀ i, i < n → ∀ j, j < sz → C i j = C' i j) (hN : ∀ j, j < sz → news[j]? = some (C' n j)) (hlo : lo ≤ w.heap.size) (hn : n < 9223372036854775807) (hb : (n + 1) * bytes ≤ 140737488355328)
    (h : ∀ g cap w', OwR w' lo e sz (n + 1) C' (.slice (some ⟨g, 0, none⟩) (n + 1) cap) → w.grownBy w' v.ownBlock → (v.ownBlock = some g ∨ g = w.heap.size + 1) → g < w'.heap.size →
      wpList P ops Q rest (a.put o.dst (.slice (some ⟨g, 0, none⟩) (n + 1) cap)) w') : wpList P ops Q (o :: rest) a (w.alloc (.cells news.toArray e)) := by
  cases hi : P.info? e with
  | none => rw [hi] at hinfo; cases hinfo
  | some i =>
    rw [hi] at hinfo
    simp only [Option.map_some, Option.some.injEq, Prod.mk.injEq] at hinfo
    obtain ⟨hz, hs1, hb1⟩ := hinfo
    have hnew := Blk.new w news.toArray e (fun j => news.getD j undef) (fun j hj => by
      have : j < news.length := by simpa using hj
      simp [this])
    refine wpList_append_lies _ hgd s x t ho lo e i z sz bytes ht hi hz hs1 hb1 hzs hsz v n (cellsR sz C n) hs (hO.later (Below.alloc (Below.refl _ _) (Nat.le_refl _) _)).row ⟨w.heap.size, 0, none⟩ 1 1 news hx (by omega)
      (fun j u hj => ?_) h1 (by omega) (by simp only [maxLen]; omega) hb (by simp; omega) (w.heap.size + 1) (by simp) (fun g cap w' h2 h3 h4 h5 => ?_)
    · obtain ⟨hlt, hv⟩ := List.getElem?_eq_some_iff.1 hj
      have hc := hnew.cell (j := j) (by simpa using hlt)
      have ha : (Addr.add ⟨w.heap.size, 0, none⟩ j) = ⟨w.heap.size, j, none⟩ := by unfold Addr.add; split <;> simp_all
      rw [ha, hc, ← hv]
      simp [hlt]
    · refine h g cap w' (OwR.of_append h2 hC fun i hi j hj => ?_) ?_ h4 h5
      · obtain rfl : i = 0 := by omega
        rw [Nat.zero_mul, Nat.zero_add, Nat.add_zero]; exact hN j hj
      · exact (World.grownBy_alloc w _ v.ownBlock).trans h3
end
/-- A call's answer: a slice of its own. -/
def OwRet (w : World) (e : TypeId) (sz n : Nat) (C : Nat → Nat → Value) (en : Ending) (w' : World) : Prop := ∃ v, en = .returned v ∧ OwR w' w.heap.size e sz n C v ∧ Below w.heap.size w w'
/-- What was grown from lo on only leaves what lay below. -/
theorem bl_own {lo : Nat} {w W W' : World} {e : TypeId} {sz n : Nat} {C : Nat → Nat → Value} {v : Value} (h : Below lo w W) (hl : lo ≤ W.heap.size) (hO : OwR W lo e sz n C v) (hg : W.grownBy W' v.ownBlock) : Below lo w W' :=
  ⟨hg.os.trans h.os, hg.tape.trans h.tape, hg.output.trans h.output, Nat.le_trans h.size hg.size, fun k hk => (hg.block k (Nat.lt_of_lt_of_le hk hl) (fun hh => by have := (hO.lt k hh.symm).1; omega)).trans (h.block k hk)⟩
end Go.Proofs.Lens
