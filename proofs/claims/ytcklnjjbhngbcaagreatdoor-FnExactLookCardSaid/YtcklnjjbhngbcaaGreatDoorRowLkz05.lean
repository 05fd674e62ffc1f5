/- Lemmas and contracts of functions that the theorem of this claim leans on (texts B5, B8, B6, B1, B9). -/
import Derived.OwnWalk
import Derived.Test.YtcklnjjbhngbcaaGreatDoorRowLkz04
import Derived.Test.YtcklnjjbhngbcaaGreatDoorRowLkz01
import Derived.Test.YtcklnjjbhngbcaaGreatDoorRowLkz02
namespace Go.Proofs.Lens
open Go.RowKit

/-- The walk stands still here: 'go_wp2_with (at_builtin; refine stopped ?_)', then 'unfold Stopped'. -/
def Stopped (p : Prop) : Prop := p
theorem stopped {p : Prop} (h : Stopped p) : p := h
section
variable {P : Program} {ops : Array Oper} {rest : List Oper} {o : Oper} {a : Act} {Q : Exit → Act → World → Prop}
theorem wpList_append1 (w : World) (hgd : o.guard = none) (s x : Operand) (t : TypeId)
    (ho : o.op = .call { callee := .builtin .append, args := #[s, x], argTypes := #[t, t] }) (lo : Nat) (e : TypeId) (z : Value) (sz bytes : Nat) (ht : P.underlying t = some (.slice e))
    (hinfo : (P.info? e).map (fun i => (i.zero, i.size, i.bytes)) = some (some z, sz, bytes)) (hzs : z.cells.size = sz) (hsz : 0 < sz) (v : Value) (n : Nat) (C C' : Nat → Nat → Value) (hs : a.eval s = v)
    (hO : OwR w lo e sz n C v) (news : List Value) (hl : news.length = sz) (h1 : ∀ u ∈ news, u.oneCell' = true) (hx : a.eval x = .slice (some ⟨w.heap.size, 0, none⟩) 1 1)
    (hC : ∀ i, i < n → ∀ j, j < sz → C i j = C' i j) (hN : ∀ j, j < sz → news[j]? = some (C' n j)) (hlo : lo ≤ w.heap.size) (hn : n < 9223372036854775807) (hb : (n + 1) * bytes ≤ 140737488355328)
    (h : ∀ g cap w', OwR w' lo e sz (n + 1) C' (.slice (some ⟨g, 0, none⟩) (n + 1) cap) → w.grownBy w' v.ownBlock → (v.ownBlock = some g ∨ g = w.heap.size + 1) → g < w'.heap.size →
      wpList P ops Q rest (a.put o.dst (.slice (some ⟨g, 0, none⟩) (n + 1) cap)) w') : wpList P ops Q (o :: rest) a (w.alloc (.cells news.toArray e)) := by
  cases hi : P.info? e with
  | none => rw [hi] at hinfo; cases hinfo
  | some i =>
    rw [hi] at hinfo
    simp only [Option.map_some, Option.some.injEq, Prod.mk.injEq] at hinfo
    obtain ⟨hz, hs1, hb1⟩ := hinfo
    have hnew := Blk.new w news.toArray e (fun j => news.getD j undef) (fun j hj => by
      have : j < news.length := by simpa using hj
      simp [this])
    refine wpList_append_lies _ hgd s x t ho lo e i z sz bytes ht hi hz hs1 hb1 hzs hsz v n (cellsR sz C n) hs (hO.later (Below.alloc (Below.refl _ _) (Nat.le_refl _) _)).row ⟨w.heap.size, 0, none⟩ 1 1 news hx (by omega)
      (fun j u hj => ?_) h1 (by omega) (by simp only [maxLen]; omega) hb (by simp; omega) (w.heap.size + 1) (by simp) (fun g cap w' h2 h3 h4 h5 => ?_)
    · obtain ⟨hlt, hv⟩ := List.getElem?_eq_some_iff.1 hj
      have hc := hnew.cell (j := j) (by simpa using hlt)
      have ha : (Addr.add ⟨w.heap.size, 0, none⟩ j) = ⟨w.heap.size, j, none⟩ := by unfold Addr.add; split <;> simp_all
      rw [ha, hc, ← hv]
      simp [hlt]
    · refine h g cap w' (OwR.of_append h2 hC fun i hi j hj => ?_) ?_ h4 h5
      · obtain rfl : i = 0 := by omega
        rw [Nat.zero_mul, Nat.zero_add, Nat.add_zero]; exact hN j hj
      · exact (World.grownBy_alloc w _ v.ownBlock).trans h3
end
/-- A call's answer: a slice of its own. -/
def OwRet (w : World) (e : TypeId) (sz n : Nat) (C : Nat → Nat → Value) (en : Ending) (w' : World) : Prop := ∃ v, en = .returned v ∧ OwR w' w.heap.size e sz n C v ∧ Below w.heap.size w w'
/-- What was grown from lo on only leaves what lay below. -/
theorem bl_own {lo : Nat} {w W W' : World} {e : TypeId} {sz n : Nat} {C : Nat → Nat → Value} {v : Value} (h : Below lo w W) (hl : lo ≤ W.heap.size) (hO : OwR W lo e sz n C v) (hg : W.grownBy W' v.ownBlock) : Below lo w W' :=
  ⟨hg.os.trans h.os, hg.tape.trans h.tape, hg.output.trans h.output, Nat.le_trans h.size hg.size, fun k hk => (hg.block k (Nat.lt_of_lt_of_le hk hl) (fun hh => by have := (hO.lt k hh.symm).1; omega)).trans (h.block k hk)⟩
end Go.Proofs.Lens

namespace Go.Proofs.Lens
open Go.RowKit

section
variable {P : Program} {ops : Array Oper} {rest : List Oper} {o : Oper} {a : Act} {Q : Exit → Act → World → Prop}
end
section
variable {P : Program} {o : Oper} {a : Act} {K : Act → World → Prop} {Q : Exit → Act → World → Prop}
/-- At an operation that comes up in a region: what is appended lies in a block that is read. -/
theorem wp_appendG (w : World) (s x : Operand) (t : TypeId)
    (ho : o.op = .call { callee := .builtin .append, args := #[s, x], argTypes := #[t, t] }) (lo : Nat) (e : TypeId) (z : Value) (sz bytes k : Nat) (ht : P.underlying t = some (.slice e))
    (hinfo : (P.info? e).map (fun i => (i.zero, i.size, i.bytes)) = some (some z, sz, bytes)) (hzs : z.cells.size = sz) (hsz : 0 < sz) (v : Value) (n : Nat) (C C' : Nat → Nat → Value) (hs : a.eval s = v)
    (hO : OwR w lo e sz n C v) (news : List Value) (hl : news.length = k * sz) (hk : 0 < k) (h1 : ∀ u ∈ news, u.oneCell' = true) (bx ox cx : Nat) (hx : a.eval x = .slice (some ⟨bx, ox, none⟩) k cx)
    (hnews : ∀ j u, news[j]? = some u → w.cell? ⟨bx, ox + j, none⟩ = some u)
    (hC : ∀ i, i < n → ∀ j, j < sz → C i j = C' i j) (hN : ∀ i, i < k → ∀ j, j < sz → news[i * sz + j]? = some (C' (n + i) j)) (hlo : lo ≤ w.heap.size) (hn : n + k ≤ 9223372036854775807) (hb : (n + k) * bytes ≤ 140737488355328)
    (h : ∀ g cap w', OwR w' lo e sz (n + k) C' (.slice (some ⟨g, 0, none⟩) (n + k) cap) → w.grownBy w' v.ownBlock → (v.ownBlock = some g ∨ g = w.heap.size) → g < w'.heap.size →
      K (a.put o.dst (.slice (some ⟨g, 0, none⟩) (n + k) cap)) w') : o.wp P a w K Q := by
  cases hi : P.info? e with
  | none => rw [hi] at hinfo; cases hinfo
  | some i =>
    rw [hi] at hinfo
    simp only [Option.map_some, Option.some.injEq, Prod.mk.injEq] at hinfo
    obtain ⟨hz, hs1, hb1⟩ := hinfo
    refine wp_append_lies w s x t ho lo e i z sz bytes ht hi hz hs1 hb1 hzs hsz v n (cellsR sz C n) hs hO.row ⟨bx, ox, none⟩ k cx news hx hl
      (fun j u hj => ?_) h1 hk (by simp only [maxLen]; omega) hb hlo w.heap.size rfl (fun g cap w' h2 h3 h4 h5 => ?_)
    · have ha : (Addr.add ⟨bx, ox, none⟩ j) = ⟨bx, ox + j, none⟩ := by unfold Addr.add; split <;> simp_all
      rw [ha]
      exact hnews j u hj
    · exact h g cap w' (OwR.of_append h2 hC fun i hi j hj => hN i hi j hj) h3 h4 h5
end
end Go.Proofs.Lens

namespace Go.Proofs.Lens
open Go.RowKit

theorem Mv.mono {ts ts' : List TypeId} {lo : Nat} {w w' : World} (h : Mv ts lo w w') (hs : ∀ e, e ∈ ts → e ∈ ts') : Mv ts' lo w w' :=
  ⟨h.bl, fun b o hb hn => h.kp b o hb fun cur e fr ho he => hn cur e fr ho (hs e he)⟩
theorem Mv.then {ts : List TypeId} {lo : Nat} {w w1 w2 : World} (h : Mv ts lo w w1) (hl : lo ≤ w1.heap.size) (k : Below w1.heap.size w1 w2) : Mv ts lo w w2 := h.trans (Mv.of_below k hl)
theorem Mv.size {ts : List TypeId} {lo : Nat} {w w1 : World} (h : Mv ts lo w w1) : w.heap.size ≤ w1.heap.size := h.bl.size
/-- A store into a slice of its own. -/
theorem Mv.setO {ts : List TypeId} {lo : Nat} {w W : World} (h : Mv ts lo w W) {b n cap lo2 sz : Nat} {e : TypeId} {C : Nat → Nat → Value} (hO : OwR W lo2 e sz n C (.slice (some ⟨b, 0, none⟩) n cap)) (hl : lo ≤ lo2) (he : e ∈ ts) (j : Nat) (u : Value) :
    Mv ts lo w (W.setCell ⟨b, j, none⟩ u) := by
  obtain ⟨N, f, hB⟩ := hO.block (b := b) rfl
  exact h.set (Nat.le_trans hl (hO.lt b rfl).1) hB he u
/-- What make has made. -/
theorem OwR.made {w : World} {A : Array Value} {e : TypeId} {sz n : Nat} {zc : Array Value} (hA : A.size = n * sz) (hc : ∀ j, j < n * sz → A[j]? = some (zc[j % zc.size]!)) (hz : zc.size = sz) (hn : n ≤ maxLen) (C : Nat → Nat → Value)
    (hC : ∀ i, i < n → ∀ j, j < sz → C i j = zc[j]!) : OwR (w.alloc (.cells A e)) w.heap.size e sz n C (.slice (some ⟨w.heap.size, 0, none⟩) n n) := by
  refine .inr ⟨w.heap.size, n, fun j => A.getD j undef, rfl, Nat.le_refl _, Nat.le_refl _, hn, ?_, fun i hi j hj => ?_⟩
  · rw [← hA]; exact Blk.made w A e
  · have hlt := mul_lt hi hj
    have h1 := hc _ hlt
    show A.getD _ undef = _
    rw [Array.getD_eq_getD_getElem?, h1, hC i hi j hj]
    simp only [Option.getD_some]
    congr 1
    rw [hz, Nat.mul_comm, Nat.mul_add_mod, Nat.mod_eq_of_lt hj]
theorem OwR.cells {w : World} {lo b n cap sz : Nat} {e : TypeId} {C : Nat → Nat → Value} (h : OwR w lo e sz n C (.slice (some ⟨b, 0, none⟩) n cap)) {i j : Nat} (hi : i < n) (hj : j < sz) : w.cell? ⟨b, i * sz + j, none⟩ = some (C i j) := by
  obtain ⟨A', c', hv, hop⟩ := h.open'
  obtain ⟨b', e', _, _, hc, _⟩ := hop (by omega)
  cases hv
  cases e'
  exact hc i hi j hj
theorem OwR.free {w : World} {lo b n cap sz : Nat} {e : TypeId} {C : Nat → Nat → Value} (h : OwR w lo e sz n C (.slice (some ⟨b, 0, none⟩) n cap)) (j : Nat) : w.frozen? ⟨b, j, none⟩ = false := by
  obtain ⟨N, f, hB⟩ := h.block (b := b) rfl
  exact hB.free j
theorem OwR.blt {w : World} {lo b n cap sz : Nat} {e : TypeId} {C : Nat → Nat → Value} (h : OwR w lo e sz n C (.slice (some ⟨b, 0, none⟩) n cap)) : lo ≤ b ∧ b < w.heap.size := h.lt b rfl
end Go.Proofs.Lens

namespace Go.Proofs.YtcklnjjbhngbcaaGreatDoor
open Go.RowKit Go.Proofs.Lens Go.WideShapes Go.ChangeShapes

theorem exists_list {α : Type} [Inhabited α] (p : Nat → α → Prop) : ∀ n, (∀ i, i < n → ∃ a, p i a) → ∃ xs : List α, xs.length = n ∧ ∀ i, i < n → p i (elt xs i)
  | 0, _ => ⟨[], rfl, fun i hi => absurd hi (by omega)⟩
  | n + 1, h => by
    obtain ⟨xs, hl, hx⟩ := exists_list p n (fun i hi => h i (by omega))
    obtain ⟨a, ha⟩ := h n (by omega)
    refine ⟨xs ++ [a], by simp [hl], fun i hi => ?_⟩
    rw [elt_eq (by simp [hl]; omega)]
    by_cases hin : i < n
    · have := hx i hin
      rw [elt_eq (by omega)] at this
      rw [List.getElem_append_left (by omega)]
      exact this
    · have : i = n := by omega
      subst this
      rw [List.getElem_append_right (by omega)]
      simpa [hl] using ha

/-- The sizes of texts that came in. -/
def szS (s : ByteArray) : Prop := s.size ≤ 9223372036854775807
def szVar (v : PVar) : Prop := szS v.nm ∧ szS v.tx
def szMom (m : PMom) : Prop := szS m.text ∧ ∀ i, i < m.vars.length → szVar (elt m.vars i)
def szTr (t : PTr) : Prop := (∀ i, i < t.fns.length → szS (elt t.fns i)) ∧ ∀ i, i < t.moms.length → szMom (elt t.moms i)

section
variable {H : Type} {enc : TypeId × Value → H} {P : Program} {w : World} {base : Nat} {spare : Nat → Bool} {held : Bool}
theorem fieldN {t : TypeId} {fs : Array Field} {fuel : Nat} {cs : List Value} {x : DataW H × List MemPlace} (ht : P.underlying t = some (.struct fs))
    (h : DataW.trod enc P w base spare held fuel t cs = some x) (i : Nat) (f : Field) (hf : fs[i]? = some f) :
    ∃ n y, DataW.trod enc P w base spare held n f.type ((cs.drop f.offset).take (P.cellsOf f.type)) = some y := by
  obtain ⟨xs, n, _, rfl, _, hlen, hx⟩ := DataW.trod_struct ht h
  have hi : i < xs.length := by rw [hlen]; exact (Array.getElem?_eq_some_iff.1 hf).1
  exact ⟨n, _, (hx i f hf).trans (List.getElem?_eq_getElem hi)⟩
theorem field1 {t : TypeId} {fs : Array Field} {fuel : Nat} {cs : List Value} {x : DataW H × List MemPlace} (ht : P.underlying t = some (.struct fs))
    (h : DataW.trod enc P w base spare held fuel t cs = some x) (i : Nat) (f : Field) (hf : fs[i]? = some f) (hc : P.cellsOf f.type = 1) {v : Value} (hv : cs[f.offset]? = some v) :
    ∃ n y, DataW.trod enc P w base spare held n f.type [v] = some y := by
  obtain ⟨n, y, h1⟩ := fieldN ht h i f hf
  obtain ⟨ho, hv⟩ := List.getElem?_eq_some_iff.1 hv
  rw [hc, List.drop_eq_getElem_cons ho, hv] at h1
  exact ⟨n, y, h1⟩
theorem len_of_struct {t : TypeId} {fs : Array Field} {fuel : Nat} {cs : List Value} {x : DataW H × List MemPlace} (ht : P.underlying t = some (.struct fs))
    (h : DataW.trod enc P w base spare held fuel t cs = some x) : cs.length = P.cellsOf t := by
  obtain ⟨_, _, _, _, hl, _, _⟩ := DataW.trod_struct ht h
  exact hl
end

theorem c_int : Tryz.prog.cellsOf 3 = 1 := by kernel_rfl
theorem c_str : Tryz.prog.cellsOf 9 = 1 := by kernel_rfl
theorem c_var : Tryz.prog.cellsOf 263 = 2 := by kernel_rfl
theorem c_vars : Tryz.prog.cellsOf 199 = 1 := by kernel_rfl
theorem c_mom : Tryz.prog.cellsOf 201 = 6 := by kernel_rfl
theorem c_moms : Tryz.prog.cellsOf 48 = 1 := by kernel_rfl
theorem c_strs : Tryz.prog.cellsOf 23 = 1 := by kernel_rfl
theorem c_tr : Tryz.prog.cellsOf 50 = 2 := by kernel_rfl
theorem c_stop : Tryz.prog.cellsOf 118 = 4 := by kernel_rfl

section
variable {H : Type} {enc : TypeId × Value → H} {w : World} {base : Nat} {spare : Nat → Bool} {held : Bool} {fuel : Nat} {cs : List Value} {x : DataW H × List MemPlace}

theorem rd_var (h : DataW.trod enc Tryz.prog w base spare held fuel 263 cs = some x) : ∃ p : PVar, cs = [.string p.nm, .string p.tx] ∧ szVar p := by
  have hl := len_of_struct Tryz.underlying263 h
  rw [c_var] at hl
  match cs, hl with
  | [v0, v1], _ =>
    obtain ⟨n0, y0, h0⟩ := field1 Tryz.underlying263 h 0 _ rfl c_str rfl
    obtain ⟨n1, y1, h1⟩ := field1 Tryz.underlying263 h 1 _ rfl c_str rfl
    obtain ⟨s0, e0, _, z0⟩ := DataW.trod_string Tryz.underlying9 h0
    obtain ⟨s1, e1, _, z1⟩ := DataW.trod_string Tryz.underlying9 h1
    simp only [List.cons.injEq, and_true] at e0 e1
    subst e0 e1
    exact ⟨⟨s0, s1⟩, rfl, z0, z1⟩

theorem rd_vars {v : Value} (h : DataW.trod enc Tryz.prog w base spare held fuel 199 [v] = some x) : ∃ xs : List PVar, RdVars w v xs ∧ ∀ i, i < xs.length → szVar (elt xs i) := by
  obtain ⟨v', n, e, f, hr, hx⟩ := row_of_trod Tryz.underlying199 c_var (by omega) h
  obtain rfl : v = v' := by simpa using e
  obtain ⟨xs, rfl, hp⟩ := exists_list (fun i (p : PVar) => f i 0 = .string p.nm ∧ f i 1 = .string p.tx ∧ szVar p) n (fun i hi => by
    obtain ⟨m, cs', y, hl, hc, ht⟩ := hx i hi
    obtain ⟨p, rfl, hz⟩ := rd_var ht
    exact ⟨p, by simpa using (hc 0 (by omega)).symm, by simpa using (hc 1 (by omega)).symm, hz⟩)
  refine ⟨xs, RdSl.congr hr fun i hi j hj => ?_, fun i hi => (hp i hi).2.2⟩
  match j, hj with
  | 0, _ => exact (hp i hi).1
  | 1, _ => exact (hp i hi).2.1

theorem rd_strs {v : Value} (h : DataW.trod enc Tryz.prog w base spare held fuel 23 [v] = some x) : ∃ xs : List ByteArray, RdStrs w v xs ∧ ∀ i, i < xs.length → szS (elt xs i) := by
  obtain ⟨v', n, e, f, hr, hx⟩ := row_of_trod Tryz.underlying23 c_str (by omega) h
  obtain rfl : v = v' := by simpa using e
  obtain ⟨xs, rfl, hp⟩ := exists_list (fun i (s : ByteArray) => f i 0 = .string s ∧ szS s) n (fun i hi => by
    obtain ⟨m, cs', y, hl, hc, ht⟩ := hx i hi
    obtain ⟨s, rfl, _, hz⟩ := DataW.trod_string Tryz.underlying9 ht
    exact ⟨s, by simpa using (hc 0 (by omega)).symm, hz⟩)
  refine ⟨xs, RdSl.congr hr fun i hi j hj => ?_, fun i hi => (hp i hi).2⟩
  match j, hj with
  | 0, _ => exact (hp i hi).1

theorem rd_mom (h : DataW.trod enc Tryz.prog w base spare held fuel 201 cs = some x) :
    ∃ (p : PMom) (v : Value), cs = [.int .i64 p.kind, .int .i64 p.task, .int .i64 p.fn, .int .i64 p.line, .string p.text, v] ∧ RdVars w v p.vars ∧ szMom p := by
  have hl := len_of_struct Tryz.underlying201 h
  rw [c_mom] at hl
  match cs, hl with
  | [v0, v1, v2, v3, v4, v5], _ =>
    obtain ⟨n0, y0, h0⟩ := field1 Tryz.underlying201 h 0 _ rfl c_int rfl
    obtain ⟨n1, y1, h1⟩ := field1 Tryz.underlying201 h 1 _ rfl c_int rfl
    obtain ⟨n2, y2, h2⟩ := field1 Tryz.underlying201 h 2 _ rfl c_int rfl
    obtain ⟨n3, y3, h3⟩ := field1 Tryz.underlying201 h 3 _ rfl c_int rfl
    obtain ⟨n4, y4, h4⟩ := field1 Tryz.underlying201 h 4 _ rfl c_str rfl
    obtain ⟨n5, y5, h5⟩ := field1 Tryz.underlying201 h 5 _ rfl c_vars rfl
    obtain ⟨k, e0, _, _⟩ := DataW.trod_int Tryz.underlying3 h0
    obtain ⟨tk, e1, _, _⟩ := DataW.trod_int Tryz.underlying3 h1
    obtain ⟨fn, e2, _, _⟩ := DataW.trod_int Tryz.underlying3 h2
    obtain ⟨ln, e3, _, _⟩ := DataW.trod_int Tryz.underlying3 h3
    obtain ⟨s, e4, _, z4⟩ := DataW.trod_string Tryz.underlying9 h4
    obtain ⟨xs, hr, hz⟩ := rd_vars h5
    simp only [List.cons.injEq, and_true] at e0 e1 e2 e3 e4
    subst e0 e1 e2 e3 e4
    exact ⟨⟨k, tk, fn, ln, s, xs⟩, v5, rfl, hr, z4, hz⟩

theorem rd_moms {v : Value} (h : DataW.trod enc Tryz.prog w base spare held fuel 48 [v] = some x) : ∃ ms : List PMom, RdMoms w v ms ∧ ∀ i, i < ms.length → szMom (elt ms i) := by
  obtain ⟨v', n, e, f, hr, hx⟩ := row_of_trod Tryz.underlying48 c_mom (by omega) h
  obtain rfl : v = v' := by simpa using e
  obtain ⟨ms, rfl, hp⟩ := exists_list (fun i (p : PMom) => f i 0 = .int .i64 p.kind ∧ f i 1 = .int .i64 p.task ∧ f i 2 = .int .i64 p.fn ∧ f i 3 = .int .i64 p.line ∧ f i 4 = .string p.text ∧ RdVars w (f i 5) p.vars ∧ szMom p) n (fun i hi => by
    obtain ⟨m, cs', y, hl, hc, ht⟩ := hx i hi
    obtain ⟨p, v5, rfl, hr5, hz⟩ := rd_mom ht
    have h5 : v5 = f i 5 := by simpa using hc 5 (by omega)
    subst h5
    exact ⟨p, by simpa using (hc 0 (by omega)).symm, by simpa using (hc 1 (by omega)).symm, by simpa using (hc 2 (by omega)).symm, by simpa using (hc 3 (by omega)).symm, by simpa using (hc 4 (by omega)).symm, hr5, hz⟩)
  refine ⟨ms, ⟨fun i => f i 5, RdSl.congr hr fun i hi j hj => ?_, fun i hi => (hp i hi).2.2.2.2.2.1⟩, fun i hi => (hp i hi).2.2.2.2.2.2⟩
  obtain ⟨h0, h1, h2, h3, h4, _⟩ := hp i hi
  match j, hj with
  | 0, _ => exact h0
  | 1, _ => exact h1
  | 2, _ => exact h2
  | 3, _ => exact h3
  | 4, _ => exact h4
  | 5, _ => rfl

set_option maxRecDepth 100000 in
/-- A trace that came in. -/
theorem rd_trace {v : Value} {d : DataW H} {ps : List MemPlace} {r : Reach} {b0 : Nat} (hval : Value.okWide Tryz.prog w r b0 50 v)
    (h : DataW.Trod enc Tryz.prog w base spare held 50 v d ps) : ∃ v1 v2 t, v = .agg #[v1, v2] ∧ RdTr w v1 v2 t ∧ szTr t := by
  obtain ⟨cs, rfl, hcs⟩ := okWide_struct Tryz.underlying50 hval
  obtain ⟨fuel, hf⟩ := h
  rw [c_tr] at hcs
  obtain ⟨l⟩ := cs
  match l, hcs with
  | [v1, v2], _ =>
    obtain ⟨n0, y0, h0⟩ := field1 Tryz.underlying50 hf 0 _ rfl c_strs rfl
    obtain ⟨n1, y1, h1⟩ := field1 Tryz.underlying50 hf 1 _ rfl c_moms rfl
    obtain ⟨xs, hx, zx⟩ := rd_strs h0
    obtain ⟨ms, hm, zm⟩ := rd_moms h1
    exact ⟨v1, v2, ⟨xs, ms⟩, rfl, ⟨hx, hm⟩, zx, zm⟩

theorem rd_stop1 (h : DataW.trod enc Tryz.prog w base spare held fuel 118 cs = some x) :
    ∃ p : PStop, cs = [.int .i64 p.kind, .int .i64 p.fn, .int .i64 p.line, .string p.nm] ∧ szS p.nm := by
  have hl := len_of_struct Tryz.underlying118 h
  rw [c_stop] at hl
  match cs, hl with
  | [v0, v1, v2, v3], _ =>
    obtain ⟨n0, y0, h0⟩ := field1 Tryz.underlying118 h 0 _ rfl c_int rfl
    obtain ⟨n1, y1, h1⟩ := field1 Tryz.underlying118 h 1 _ rfl c_int rfl
    obtain ⟨n2, y2, h2⟩ := field1 Tryz.underlying118 h 2 _ rfl c_int rfl
    obtain ⟨n3, y3, h3⟩ := field1 Tryz.underlying118 h 3 _ rfl c_str rfl
    obtain ⟨k, e0, _, _⟩ := DataW.trod_int Tryz.underlying3 h0
    obtain ⟨fn, e1, _, _⟩ := DataW.trod_int Tryz.underlying3 h1
    obtain ⟨ln, e2, _, _⟩ := DataW.trod_int Tryz.underlying3 h2
    obtain ⟨s, e3, _, z3⟩ := DataW.trod_string Tryz.underlying9 h3
    simp only [List.cons.injEq, and_true] at e0 e1 e2 e3
    subst e0 e1 e2 e3
    exact ⟨⟨k, fn, ln, s⟩, rfl, z3⟩

end
end Go.Proofs.YtcklnjjbhngbcaaGreatDoor

namespace Go.Proofs.YtcklnjjbhngbcaaGreatDoor
open Go.RowKit Go.Proofs.Lens

theorem i_var' : (Tryz.prog.info? 40).map (fun i => (i.zero, i.size, i.bytes)) = some (some (.agg #[.string ⟨#[]⟩, .string ⟨#[]⟩]), 2, 32) := by kernel_rfl
section
variable {w w' : World} {lo lo' : Nat} {v : Value} {ms : List PMom}
end
def snocV (vv : Nat → Value) (n : Nat) (vx : Value) (i : Nat) : Value := if i = n then vx else vv i
theorem owr_one {w : World} {lo : Nat} {e : TypeId} {sz n : Nat} {C : Nat → Nat → Value} {v : Value} (h : OwR w lo e sz n C v) : v.oneCell' = true := by
  obtain ⟨A, c, rfl, -⟩ := h.cap
  rfl
theorem new_at (w : World) (ns : List Value) (t : TypeId) (j : Nat) (u : Value) (h : ns[j]? = some u) : (w.alloc (.cells ns.toArray t)).cell? ⟨w.heap.size, 0 + j, none⟩ = some u := by
  rw [Nat.zero_add]
  exact BoxAt.new w ns t j u h
/-- The two cells of a trace's box. -/
def trF (a b : Value) (j : Nat) : Value := match j with | 0 => a | _ => b
theorem bl_low9 {lo B : Nat} {w W : World} (h : Below B w W) (hl : lo ≤ B) : Below lo w W := ⟨h.os, h.tape, h.output, h.size, fun k hk => h.block k (Nat.lt_of_lt_of_le hk hl)⟩
theorem bl_trans9 {lo : Nat} {a b c : World} (h : Below lo a b) (k : Below lo b c) : Below lo a c := ⟨k.os.trans h.os, k.tape.trans h.tape, k.output.trans h.output, Nat.le_trans h.size k.size, fun j hj => (k.block j hj).trans (h.block j hj)⟩
end Go.Proofs.YtcklnjjbhngbcaaGreatDoor
