/- The laws' arguments, as plain data: what a readable argument of each kind holds. -/
import Derived.Test.YtcklnjjbhngbcaaGreatDoorS1
import Derived.Test.YtcklnjjbhngbcaaGreatDoorB0
namespace Go.Proofs.YtcklnjjbhngbcaaGreatDoor
open Go.RowKit Go.Proofs.Lens Go.WideShapes Go.ChangeShapes

theorem exists_list {α : Type} [Inhabited α] (p : Nat → α → Prop) : ∀ n, (∀ i, i < n → ∃ a, p i a) → ∃ xs : List α, xs.length = n ∧ ∀ i, i < n → p i (elt xs i)
  | 0, _ => ⟨[], rfl, fun i hi => absurd hi (by omega)⟩
  | n + 1, h => by
    obtain ⟨xs, hl, hx⟩ := exists_list p n (fun i hi => h i (by omega))
    obtain ⟨a, ha⟩ := h n (by omega)
    refine ⟨xs ++ [a], by simp [hl], fun i hi => ?_⟩
    rw [elt_eq (by simp [hl]; omega)]
    by_cases hin : i < n
    · have := hx i hin
      rw [elt_eq (by omega)] at this
      rw [List.getElem_append_left (by omega)]
      exact this
    · have : i = n := by omega
      subst this
      rw [List.getElem_append_right (by omega)]
      simpa [hl] using ha

/-- The sizes of texts that came in. -/
def szS (s : ByteArray) : Prop := s.size ≤ 9223372036854775807
def szVar (v : PVar) : Prop := szS v.nm ∧ szS v.tx
def szMom (m : PMom) : Prop := szS m.text ∧ ∀ i, i < m.vars.length → szVar (elt m.vars i)
def szTr (t : PTr) : Prop := (∀ i, i < t.fns.length → szS (elt t.fns i)) ∧ ∀ i, i < t.moms.length → szMom (elt t.moms i)

section
variable {H : Type} {enc : TypeId × Value → H} {P : Program} {w : World} {base : Nat} {spare : Nat → Bool} {held : Bool}
theorem fieldN {t : TypeId} {fs : Array Field} {fuel : Nat} {cs : List Value} {x : DataW H × List MemPlace} (ht : P.underlying t = some (.struct fs))
    (h : DataW.trod enc P w base spare held fuel t cs = some x) (i : Nat) (f : Field) (hf : fs[i]? = some f) :
    ∃ n y, DataW.trod enc P w base spare held n f.type ((cs.drop f.offset).take (P.cellsOf f.type)) = some y := by
  obtain ⟨xs, n, _, rfl, _, hlen, hx⟩ := DataW.trod_struct ht h
  have hi : i < xs.length := by rw [hlen]; exact (Array.getElem?_eq_some_iff.1 hf).1
  exact ⟨n, _, (hx i f hf).trans (List.getElem?_eq_getElem hi)⟩
theorem field1 {t : TypeId} {fs : Array Field} {fuel : Nat} {cs : List Value} {x : DataW H × List MemPlace} (ht : P.underlying t = some (.struct fs))
    (h : DataW.trod enc P w base spare held fuel t cs = some x) (i : Nat) (f : Field) (hf : fs[i]? = some f) (hc : P.cellsOf f.type = 1) {v : Value} (hv : cs[f.offset]? = some v) :
    ∃ n y, DataW.trod enc P w base spare held n f.type [v] = some y := by
  obtain ⟨n, y, h1⟩ := fieldN ht h i f hf
  obtain ⟨ho, hv⟩ := List.getElem?_eq_some_iff.1 hv
  rw [hc, List.drop_eq_getElem_cons ho, hv] at h1
  exact ⟨n, y, h1⟩
theorem len_of_struct {t : TypeId} {fs : Array Field} {fuel : Nat} {cs : List Value} {x : DataW H × List MemPlace} (ht : P.underlying t = some (.struct fs))
    (h : DataW.trod enc P w base spare held fuel t cs = some x) : cs.length = P.cellsOf t := by
  obtain ⟨_, _, _, _, hl, _, _⟩ := DataW.trod_struct ht h
  exact hl
end

theorem c_int : Tryz.prog.cellsOf 3 = 1 := by kernel_rfl
theorem c_str : Tryz.prog.cellsOf 9 = 1 := by kernel_rfl
theorem c_var : Tryz.prog.cellsOf 263 = 2 := by kernel_rfl
theorem c_vars : Tryz.prog.cellsOf 199 = 1 := by kernel_rfl
theorem c_mom : Tryz.prog.cellsOf 201 = 6 := by kernel_rfl
theorem c_moms : Tryz.prog.cellsOf 48 = 1 := by kernel_rfl
theorem c_strs : Tryz.prog.cellsOf 23 = 1 := by kernel_rfl
theorem c_tr : Tryz.prog.cellsOf 50 = 2 := by kernel_rfl
theorem c_stop : Tryz.prog.cellsOf 118 = 4 := by kernel_rfl

section
variable {H : Type} {enc : TypeId × Value → H} {w : World} {base : Nat} {spare : Nat → Bool} {held : Bool} {fuel : Nat} {cs : List Value} {x : DataW H × List MemPlace}

theorem rd_var (h : DataW.trod enc Tryz.prog w base spare held fuel 263 cs = some x) : ∃ p : PVar, cs = [.string p.nm, .string p.tx] ∧ szVar p := by
  have hl := len_of_struct Tryz.underlying263 h
  rw [c_var] at hl
  match cs, hl with
  | [v0, v1], _ =>
    obtain ⟨n0, y0, h0⟩ := field1 Tryz.underlying263 h 0 _ rfl c_str rfl
    obtain ⟨n1, y1, h1⟩ := field1 Tryz.underlying263 h 1 _ rfl c_str rfl
    obtain ⟨s0, e0, _, z0⟩ := DataW.trod_string Tryz.underlying9 h0
    obtain ⟨s1, e1, _, z1⟩ := DataW.trod_string Tryz.underlying9 h1
    simp only [List.cons.injEq, and_true] at e0 e1
    subst e0 e1
    exact ⟨⟨s0, s1⟩, rfl, z0, z1⟩

theorem rd_vars {v : Value} (h : DataW.trod enc Tryz.prog w base spare held fuel 199 [v] = some x) : ∃ xs : List PVar, RdVars w v xs ∧ ∀ i, i < xs.length → szVar (elt xs i) := by
  obtain ⟨v', n, e, f, hr, hx⟩ := row_of_trod Tryz.underlying199 c_var (by omega) h
  obtain rfl : v = v' := by simpa using e
  obtain ⟨xs, rfl, hp⟩ := exists_list (fun i (p : PVar) => f i 0 = .string p.nm ∧ f i 1 = .string p.tx ∧ szVar p) n (fun i hi => by
    obtain ⟨m, cs', y, hl, hc, ht⟩ := hx i hi
    obtain ⟨p, rfl, hz⟩ := rd_var ht
    exact ⟨p, by simpa using (hc 0 (by omega)).symm, by simpa using (hc 1 (by omega)).symm, hz⟩)
  refine ⟨xs, RdSl.congr hr fun i hi j hj => ?_, fun i hi => (hp i hi).2.2⟩
  match j, hj with
  | 0, _ => exact (hp i hi).1
  | 1, _ => exact (hp i hi).2.1

theorem rd_strs {v : Value} (h : DataW.trod enc Tryz.prog w base spare held fuel 23 [v] = some x) : ∃ xs : List ByteArray, RdStrs w v xs ∧ ∀ i, i < xs.length → szS (elt xs i) := by
  obtain ⟨v', n, e, f, hr, hx⟩ := row_of_trod Tryz.underlying23 c_str (by omega) h
  obtain rfl : v = v' := by simpa using e
  obtain ⟨xs, rfl, hp⟩ := exists_list (fun i (s : ByteArray) => f i 0 = .string s ∧ szS s) n (fun i hi => by
    obtain ⟨m, cs', y, hl, hc, ht⟩ := hx i hi
    obtain ⟨s, rfl, _, hz⟩ := DataW.trod_string Tryz.underlying9 ht
    exact ⟨s, by simpa using (hc 0 (by omega)).symm, hz⟩)
  refine ⟨xs, RdSl.congr hr fun i hi j hj => ?_, fun i hi => (hp i hi).2⟩
  match j, hj with
  | 0, _ => exact (hp i hi).1

theorem rd_mom (h : DataW.trod enc Tryz.prog w base spare held fuel 201 cs = some x) :
    ∃ (p : PMom) (v : Value), cs = [.int .i64 p.kind, .int .i64 p.task, .int .i64 p.fn, .int .i64 p.line, .string p.text, v] ∧ RdVars w v p.vars ∧ szMom p := by
  have hl := len_of_struct Tryz.underlying201 h
  rw [c_mom] at hl
  match cs, hl with
  | [v0, v1, v2, v3, v4, v5], _ =>
    obtain ⟨n0, y0, h0⟩ := field1 Tryz.underlying201 h 0 _ rfl c_int rfl
    obtain ⟨n1, y1, h1⟩ := field1 Tryz.underlying201 h 1 _ rfl c_int rfl
    obtain ⟨n2, y2, h2⟩ := field1 Tryz.underlying201 h 2 _ rfl c_int rfl
    obtain ⟨n3, y3, h3⟩ := field1 Tryz.underlying201 h 3 _ rfl c_int rfl
    obtain ⟨n4, y4, h4⟩ := field1 Tryz.underlying201 h 4 _ rfl c_str rfl
    obtain ⟨n5, y5, h5⟩ := field1 Tryz.underlying201 h 5 _ rfl c_vars rfl
    obtain ⟨k, e0, _, _⟩ := DataW.trod_int Tryz.underlying3 h0
    obtain ⟨tk, e1, _, _⟩ := DataW.trod_int Tryz.underlying3 h1
    obtain ⟨fn, e2, _, _⟩ := DataW.trod_int Tryz.underlying3 h2
    obtain ⟨ln, e3, _, _⟩ := DataW.trod_int Tryz.underlying3 h3
    obtain ⟨s, e4, _, z4⟩ := DataW.trod_string Tryz.underlying9 h4
    obtain ⟨xs, hr, hz⟩ := rd_vars h5
    simp only [List.cons.injEq, and_true] at e0 e1 e2 e3 e4
    subst e0 e1 e2 e3 e4
    exact ⟨⟨k, tk, fn, ln, s, xs⟩, v5, rfl, hr, z4, hz⟩

theorem rd_moms {v : Value} (h : DataW.trod enc Tryz.prog w base spare held fuel 48 [v] = some x) : ∃ ms : List PMom, RdMoms w v ms ∧ ∀ i, i < ms.length → szMom (elt ms i) := by
  obtain ⟨v', n, e, f, hr, hx⟩ := row_of_trod Tryz.underlying48 c_mom (by omega) h
  obtain rfl : v = v' := by simpa using e
  obtain ⟨ms, rfl, hp⟩ := exists_list (fun i (p : PMom) => f i 0 = .int .i64 p.kind ∧ f i 1 = .int .i64 p.task ∧ f i 2 = .int .i64 p.fn ∧ f i 3 = .int .i64 p.line ∧ f i 4 = .string p.text ∧ RdVars w (f i 5) p.vars ∧ szMom p) n (fun i hi => by
    obtain ⟨m, cs', y, hl, hc, ht⟩ := hx i hi
    obtain ⟨p, v5, rfl, hr5, hz⟩ := rd_mom ht
    have h5 : v5 = f i 5 := by simpa using hc 5 (by omega)
    subst h5
    exact ⟨p, by simpa using (hc 0 (by omega)).symm, by simpa using (hc 1 (by omega)).symm, by simpa using (hc 2 (by omega)).symm, by simpa using (hc 3 (by omega)).symm, by simpa using (hc 4 (by omega)).symm, hr5, hz⟩)
  refine ⟨ms, ⟨fun i => f i 5, RdSl.congr hr fun i hi j hj => ?_, fun i hi => (hp i hi).2.2.2.2.2.1⟩, fun i hi => (hp i hi).2.2.2.2.2.2⟩
  obtain ⟨h0, h1, h2, h3, h4, _⟩ := hp i hi
  match j, hj with
  | 0, _ => exact h0
  | 1, _ => exact h1
  | 2, _ => exact h2
  | 3, _ => exact h3
  | 4, _ => exact h4
  | 5, _ => rfl

set_option maxRecDepth 100000 in
/-- A trace that came in. -/
theorem rd_trace {v : Value} {d : DataW H} {ps : List MemPlace} {r : Reach} {b0 : Nat} (hval : Value.okWide Tryz.prog w r b0 50 v)
    (h : DataW.Trod enc Tryz.prog w base spare held 50 v d ps) : ∃ v1 v2 t, v = .agg #[v1, v2] ∧ RdTr w v1 v2 t ∧ szTr t := by
  obtain ⟨cs, rfl, hcs⟩ := okWide_struct Tryz.underlying50 hval
  obtain ⟨fuel, hf⟩ := h
  rw [c_tr] at hcs
  obtain ⟨l⟩ := cs
  match l, hcs with
  | [v1, v2], _ =>
    obtain ⟨n0, y0, h0⟩ := field1 Tryz.underlying50 hf 0 _ rfl c_strs rfl
    obtain ⟨n1, y1, h1⟩ := field1 Tryz.underlying50 hf 1 _ rfl c_moms rfl
    obtain ⟨xs, hx, zx⟩ := rd_strs h0
    obtain ⟨ms, hm, zm⟩ := rd_moms h1
    exact ⟨v1, v2, ⟨xs, ms⟩, rfl, ⟨hx, hm⟩, zx, zm⟩

theorem rd_stop1 (h : DataW.trod enc Tryz.prog w base spare held fuel 118 cs = some x) :
    ∃ p : PStop, cs = [.int .i64 p.kind, .int .i64 p.fn, .int .i64 p.line, .string p.nm] ∧ szS p.nm := by
  have hl := len_of_struct Tryz.underlying118 h
  rw [c_stop] at hl
  match cs, hl with
  | [v0, v1, v2, v3], _ =>
    obtain ⟨n0, y0, h0⟩ := field1 Tryz.underlying118 h 0 _ rfl c_int rfl
    obtain ⟨n1, y1, h1⟩ := field1 Tryz.underlying118 h 1 _ rfl c_int rfl
    obtain ⟨n2, y2, h2⟩ := field1 Tryz.underlying118 h 2 _ rfl c_int rfl
    obtain ⟨n3, y3, h3⟩ := field1 Tryz.underlying118 h 3 _ rfl c_str rfl
    obtain ⟨k, e0, _, _⟩ := DataW.trod_int Tryz.underlying3 h0
    obtain ⟨fn, e1, _, _⟩ := DataW.trod_int Tryz.underlying3 h1
    obtain ⟨ln, e2, _, _⟩ := DataW.trod_int Tryz.underlying3 h2
    obtain ⟨s, e3, _, z3⟩ := DataW.trod_string Tryz.underlying9 h3
    simp only [List.cons.injEq, and_true] at e0 e1 e2 e3
    subst e0 e1 e2 e3
    exact ⟨⟨k, fn, ln, s⟩, rfl, z3⟩

set_option maxRecDepth 100000 in
/-- A stop that came in. -/
theorem rd_stop {v : Value} {d : DataW H} {ps : List MemPlace} {r : Reach} {b0 : Nat} (hval : Value.okWide Tryz.prog w r b0 118 v)
    (h : DataW.Trod enc Tryz.prog w base spare held 118 v d ps) : ∃ p : PStop, v = stopV p ∧ szS p.nm := by
  obtain ⟨cs, rfl, hcs⟩ := okWide_struct Tryz.underlying118 hval
  obtain ⟨fuel, hf⟩ := h
  obtain ⟨l⟩ := cs
  obtain ⟨p, e, hz⟩ := rd_stop1 hf
  have e' : l = _ := e
  subst e'
  exact ⟨p, rfl, hz⟩
end
end Go.Proofs.YtcklnjjbhngbcaaGreatDoor
