/- Lemmas and contracts of functions that the theorem of this claim leans on (texts B0, P0, P1, P2, P5, P3, P4, P6, P7). -/
import Derived.WalkKit
import Derived.WalkSpells
import Derived.WalkLawsBesides
import Derived.BigRegion
import Derived.Deep.QuietTactic
import Derived.Deep.Slices
import Derived.BigQuiet
import Derived.ChangeAlike
import Derived.Lib.Hide
import Derived.StillTailTactics
import Derived.Handy
import Derived.ProofKit
namespace Go.Proofs.Lens
open Go.RowKit

theorem ret_bool {a b : Bool} (h : a = b) : Ending.returned (.bool a) = .returned (.bool b) := by rw [h]
theorem ret_int {k : IntKind} {a b : Int} (h : a = b) : Ending.returned (.int k a) = .returned (.int k b) := by rw [h]

/-! ### lists -/
/-- The element at a place, a default beyond the end. -/
def elt {α : Type} [Inhabited α] (xs : List α) (i : Nat) : α := xs.getD i default
theorem elt_eq {α : Type} [Inhabited α] {xs : List α} {i : Nat} (h : i < xs.length) : elt xs i = xs[i] := by
  unfold elt; simp [List.getD_eq_getElem?_getD, h]
theorem drop_cons {α : Type} [Inhabited α] {xs : List α} {i : Nat} (h : i < xs.length) : xs.drop i = elt xs i :: xs.drop (i + 1) := by
  rw [elt_eq h]; exact List.drop_eq_getElem_cons h
theorem take_snoc {α : Type} [Inhabited α] {xs : List α} {i : Nat} (h : i < xs.length) : xs.take (i + 1) = xs.take i ++ [elt xs i] := by
  rw [elt_eq h]; exact List.take_succ_eq_append_getElem h

/-! ### what a call leaves as it was -/
theorem bl_alloc {w W : World} (h : Below w.heap.size w W) (o : Obj) : Below w.heap.size w (W.alloc o) := h.alloc h.size o
theorem bl_drew {B : Nat} {w W : World} (h : Below B w W) : Below B w W.drew := h.drew
theorem bl_drewN {B : Nat} {w W : World} (h : Below B w W) (n : Nat) : Below B w (W.drewN n) := ⟨h.os, h.tape, h.output, h.size, h.block⟩
theorem bl_then {w w1 w2 : World} (h : Below w.heap.size w w1) (k : Below w1.heap.size w1 w2) : Below w.heap.size w w2 :=
  h.trans ⟨k.os, k.tape, k.output, k.size, fun i hi => k.block i (Nat.lt_of_lt_of_le hi h.size)⟩
theorem bl_set {B : Nat} {w W : World} {p : Addr} (h : Below B w W) (hp : B ≤ p.block) (u : Value) : Below B w (W.setCell p u) := h.setCell hp u

/-- A block's first cells: a parameter that was laid in memory. -/
def BoxAt (w : World) (b : Nat) (vs : List Value) : Prop := ∀ j v, vs[j]? = some v → w.cell? ⟨b, j, none⟩ = some v
theorem BoxAt.later {w w' : World} {b : Nat} {vs : List Value} (h : BoxAt w b vs) (hb : Below w.heap.size w w') : BoxAt w' b vs := fun j v hj => cell_later hb (h j v hj)
theorem BoxAt.new (w : World) (vs : List Value) (t : TypeId) : BoxAt (w.alloc (.cells vs.toArray t)) w.heap.size vs := fun j v hj => by
  unfold World.cell?
  have : (w.alloc (.cells vs.toArray t)).heap[w.heap.size]? = some (.cells vs.toArray t) := by
    show (w.heap.push _)[w.heap.size]? = _
    simp
  rw [this]
  simpa using hj
theorem BoxAt.open2 {w : World} {b : Nat} {v0 v1 : Value} (h : BoxAt w b [v0, v1]) : w.cell? ⟨b, 0, none⟩ = some v0 ∧ w.cell? ⟨b, 1, none⟩ = some v1 := ⟨h 0 _ rfl, h 1 _ rfl⟩
/-! ### a row of elements that is read -/
/-- n elements of sz cells each, from A on: cell j of element i is f i j. -/
def RowR (w : World) (A : Option Addr) (n sz : Nat) (f : Nat → Nat → Value) : Prop :=
  0 < n → ∃ b o, A = some ⟨b, o, none⟩ ∧ ∀ i, i < n → ∀ j, j < sz → w.cell? ⟨b, o + i * sz + j, none⟩ = some (f i j)
theorem RowR.later {w w' : World} {A : Option Addr} {n sz : Nat} {f : Nat → Nat → Value} (h : RowR w A n sz f) (hb : Below w.heap.size w w') : RowR w' A n sz f := by
  intro hn
  obtain ⟨b, o, rfl, hc⟩ := h hn
  exact ⟨b, o, rfl, fun i hi j hj => cell_later hb (hc i hi j hj)⟩
/-- A slice value that is read so. -/
def RdSl (w : World) (sz n : Nat) (f : Nat → Nat → Value) (v : Value) : Prop := ∃ A c, v = .slice A n c ∧ n ≤ 9223372036854775807 ∧ RowR w A n sz f
theorem RdSl.later {w w' : World} {n sz : Nat} {f : Nat → Nat → Value} {v : Value} (h : RdSl w sz n f v) (hb : Below w.heap.size w w') : RdSl w' sz n f v := by
  obtain ⟨A, c, rfl, hn, hr⟩ := h
  exact ⟨A, c, rfl, hn, hr.later hb⟩
theorem RdSl.congr {w : World} {n sz : Nat} {f g : Nat → Nat → Value} {v : Value} (h : RdSl w sz n f v) (hfg : ∀ i, i < n → ∀ j, j < sz → f i j = g i j) : RdSl w sz n g v := by
  obtain ⟨A, c, rfl, hn, hr⟩ := h
  refine ⟨A, c, rfl, hn, fun hp => ?_⟩
  obtain ⟨b, o, rfl, hc⟩ := hr hp
  exact ⟨b, o, rfl, fun i hi j hj => by rw [hc i hi j hj, hfg i hi j hj]⟩

/-! ### the plain data -/
structure PVar where
  nm : ByteArray
  tx : ByteArray
structure PMom where
  kind : Int
  task : Int
  fn : Int
  line : Int
  text : ByteArray
  vars : List PVar
structure PTr where
  fns : List ByteArray
  moms : List PMom
structure PFr where
  fn : Int
  line : Int
  frm : Int
structure PStop where
  kind : Int
  fn : Int
  line : Int
  nm : ByteArray
structure PAsk where
  op : Int
  n : Int
  nm : ByteArray
  stop : PStop
instance : Inhabited ByteArray := ⟨⟨#[]⟩⟩
instance : Inhabited PVar := ⟨⟨⟨#[]⟩, ⟨#[]⟩⟩⟩
instance : Inhabited PMom := ⟨⟨0, 0, 0, 0, ⟨#[]⟩, []⟩⟩
instance : Inhabited PTr := ⟨⟨[], []⟩⟩
instance : Inhabited PFr := ⟨⟨0, 0, 0⟩⟩
instance : Inhabited PStop := ⟨⟨0, 0, 0, ⟨#[]⟩⟩⟩
instance : Inhabited PAsk := ⟨⟨0, 0, ⟨#[]⟩, default⟩⟩

/-! ### how it lies in memory -/
def strC (xs : List ByteArray) (i _j : Nat) : Value := .string (elt xs i)
def varC (xs : List PVar) (i j : Nat) : Value := match j with | 0 => .string (elt xs i).nm | _ => .string (elt xs i).tx
def momC (ms : List PMom) (vv : Nat → Value) (i j : Nat) : Value := match j with
  | 0 => .int .i64 (elt ms i).kind | 1 => .int .i64 (elt ms i).task | 2 => .int .i64 (elt ms i).fn | 3 => .int .i64 (elt ms i).line | 4 => .string (elt ms i).text | _ => vv i
def frC (xs : List PFr) (i j : Nat) : Value := match j with | 0 => .int .i64 (elt xs i).fn | 1 => .int .i64 (elt xs i).line | _ => .int .i64 (elt xs i).frm
def stopC (xs : List PStop) (i j : Nat) : Value := match j with | 0 => .int .i64 (elt xs i).kind | 1 => .int .i64 (elt xs i).fn | 2 => .int .i64 (elt xs i).line | _ => .string (elt xs i).nm
def askC (xs : List PAsk) (i j : Nat) : Value := match j with
  | 0 => .int .i64 (elt xs i).op | 1 => .int .i64 (elt xs i).n | 2 => .string (elt xs i).nm | 3 => .int .i64 (elt xs i).stop.kind | 4 => .int .i64 (elt xs i).stop.fn | 5 => .int .i64 (elt xs i).stop.line | _ => .string (elt xs i).stop.nm
def intC (xs : List Int) (i _j : Nat) : Value := .int .i64 (elt xs i)
def RdStrs (w : World) (v : Value) (xs : List ByteArray) : Prop := RdSl w 1 xs.length (strC xs) v
def RdVars (w : World) (v : Value) (xs : List PVar) : Prop := RdSl w 2 xs.length (varC xs) v
def RdMoms (w : World) (v : Value) (ms : List PMom) : Prop := ∃ vv : Nat → Value, RdSl w 6 ms.length (momC ms vv) v ∧ ∀ i, i < ms.length → RdVars w (vv i) (elt ms i).vars
def RdFrs (w : World) (v : Value) (xs : List PFr) : Prop := RdSl w 3 xs.length (frC xs) v
def RdStops (w : World) (v : Value) (xs : List PStop) : Prop := RdSl w 4 xs.length (stopC xs) v
def RdAsks (w : World) (v : Value) (xs : List PAsk) : Prop := RdSl w 7 xs.length (askC xs) v
/-- A trace, by its two slices. -/
def RdTr (w : World) (v1 v2 : Value) (t : PTr) : Prop := RdStrs w v1 t.fns ∧ RdMoms w v2 t.moms
/-- A struct value of a stop. -/
def stopV (s : PStop) : Value := .agg #[.int .i64 s.kind, .int .i64 s.fn, .int .i64 s.line, .string s.nm]

theorem RdStrs.later {w w' : World} {v : Value} {xs : List ByteArray} (h : RdStrs w v xs) (hb : Below w.heap.size w w') : RdStrs w' v xs := RdSl.later h hb
theorem RdVars.later {w w' : World} {v : Value} {xs : List PVar} (h : RdVars w v xs) (hb : Below w.heap.size w w') : RdVars w' v xs := RdSl.later h hb
theorem RdMoms.later {w w' : World} {v : Value} {ms : List PMom} (h : RdMoms w v ms) (hb : Below w.heap.size w w') : RdMoms w' v ms := by
  obtain ⟨vv, h1, h2⟩ := h
  exact ⟨vv, RdSl.later h1 hb, fun i hi => (h2 i hi).later hb⟩
theorem RdFrs.later {w w' : World} {v : Value} {xs : List PFr} (h : RdFrs w v xs) (hb : Below w.heap.size w w') : RdFrs w' v xs := RdSl.later h hb
theorem RdStops.later {w w' : World} {v : Value} {xs : List PStop} (h : RdStops w v xs) (hb : Below w.heap.size w w') : RdStops w' v xs := RdSl.later h hb
theorem RdAsks.later {w w' : World} {v : Value} {xs : List PAsk} (h : RdAsks w v xs) (hb : Below w.heap.size w w') : RdAsks w' v xs := RdSl.later h hb
theorem RdTr.later {w w' : World} {v1 v2 : Value} {t : PTr} (h : RdTr w v1 v2 t) (hb : Below w.heap.size w w') : RdTr w' v1 v2 t := ⟨h.1.later hb, h.2.later hb⟩

/-! ### data that came in -/
section
variable {H : Type} {enc : TypeId × Value → H} {P : Program} {w : World} {base : Nat} {spare : Nat → Bool} {held : Bool}

theorem row_of_trod {e sz : Nat} {t : TypeId} {fuel : Nat} {cs : List Value} {x : DataW H × List MemPlace} (ht : P.underlying t = some (.slice e)) (hsz : P.cellsOf e = sz) (h0 : 0 < sz)
    (h : DataW.trod enc P w base spare held fuel t cs = some x) :
    ∃ v n, cs = [v] ∧ ∃ f, RdSl w sz n f v ∧ ∀ i, i < n → ∃ m cs' y, cs'.length = sz ∧ (∀ j, j < sz → cs'[j]? = some (f i j)) ∧ DataW.trod enc P w base spare held m e cs' = some y := by
  rcases Deep.open_slice ht h with ⟨rfl, _⟩ | ⟨a, len, cap, m, n, D, Pl, rfl, _, hl, hm, hme, _, hx⟩
  · exact ⟨_, 0, rfl, fun _ _ => undef, ⟨none, 0, rfl, by omega, fun h => absurd h (by omega)⟩, fun i hi => absurd hi (by omega)⟩
  · have hlm : len ≤ m := by rw [hme]; split <;> omega
    refine ⟨_, len, rfl, fun i j => ((w.cells? base (a.add (i * sz)) sz).getD []).getD j undef, ⟨some a, cap, rfl, by unfold maxLen at hm; omega, fun hp => ?_⟩, fun i hi => ?_⟩
    · have hspot : a.spot = none := by
        obtain ⟨cs', h1, _⟩ := hx 0 (by omega)
        rw [hsz] at h1
        obtain ⟨_, hlen, hc⟩ := World.cells?_some h1
        have h2 := hc 0 h0
        have h3 : (a.add (0 * sz)).add 0 = a := by simp [Addr.add]
        rw [h3, List.getElem?_eq_getElem (by omega)] at h2
        cases hs : a.spot with
        | none => rfl
        | some s =>
          exfalso
          unfold World.cell? at h2
          split at h2
          · simp [hs] at h2
          · cases h2
      obtain ⟨b, o, s⟩ := a
      simp only at hspot
      subst hspot
      refine ⟨b, o, rfl, fun i hi j hj => ?_⟩
      obtain ⟨cs', h1, _⟩ := hx i (by omega)
      rw [hsz] at h1
      obtain ⟨_, hlen, hc⟩ := World.cells?_some h1
      have h2 := hc j hj
      have h3 : (Addr.add ⟨b, o, none⟩ (i * sz)).add j = ⟨b, o + i * sz + j, none⟩ := by
        unfold Addr.add; split <;> split <;> simp_all
      rw [h3] at h2
      show _ = some (((w.cells? base (Addr.add ⟨b, o, none⟩ (i * sz)) sz).getD []).getD j undef)
      rw [h2, h1]
      simp only [Option.getD_some, List.getD_eq_getElem?_getD]
      rw [List.getElem?_eq_getElem (by omega)]
      rfl
    · obtain ⟨cs', h1, h2⟩ := hx i (by omega)
      rw [hsz] at h1
      obtain ⟨_, hlen, _⟩ := World.cells?_some h1
      refine ⟨n, cs', _, hlen, fun j hj => ?_, h2⟩
      show _ = some (((w.cells? base (a.add (i * sz)) sz).getD []).getD j undef)
      rw [h1]
      simp only [Option.getD_some, List.getD_eq_getElem?_getD]
      rw [List.getElem?_eq_getElem (by omega)]
      rfl
end

end Go.Proofs.Lens

namespace Go.Proofs.Lens
/-- x lies in a .. b. -/
def inB (x a b : Int) : Bool := decide (a ≤ x) && decide (x ≤ b)
theorem inB_true {x a b : Int} : inB x a b = true ↔ a ≤ x ∧ x ≤ b := by simp [inB]
def noS (s : ByteArray) : Bool := s.toList.isEmpty
def stopOk (s : PStop) : Bool :=
  inB s.fn 0 299 && (if s.kind = 1 then inB s.line 1 100000 && noS s.nm else if s.kind = 2 then decide (s.line = 0) && noS s.nm
    else if s.kind = 3 then decide (s.line = 0) && inB s.nm.size 1 40 else if s.kind = 4 then decide (s.fn = 0) && decide (s.line = 0) && noS s.nm else false)
end Go.Proofs.Lens

namespace Go.Proofs.Lens

/-- The running task, and of each task the open calls, the innermost first. -/
structure PS where
  cur : Int
  stk : Int → List PFr
def PS.top (s : PS) : List PFr := s.stk s.cur
def PS.put (s : PS) (l : List PFr) : PS := ⟨s.cur, fun i => if i = s.cur then l else s.stk i⟩
def ps0 : PS := ⟨0, fun i => if i = 0 then [⟨0, 0, -1⟩] else []⟩
/-- What is wrong with a moment: 3, 4, 5, or 0. -/
def checkP (s : PS) (m : PMom) : Int :=
  if m.kind = 7 then 0 else if m.task ≠ s.cur then 3 else if m.kind = 2 then (if s.top.length = 200 then 5 else 0)
  else match s.top with
    | [] => if m.fn ≠ 0 ∨ m.kind = 1 ∨ m.kind = 3 then 4 else 0
    | f :: _ => if m.fn ≠ f.fn ∨ (m.kind = 3 ∧ f.frm = -1) then 4 else 0
/-- What stands behind a moment. -/
def stepP (s : PS) (m : PMom) (k : Nat) : PS :=
  if m.kind = 7 then ⟨m.task, s.stk⟩
  else if m.kind = 2 then s.put (⟨m.fn, 0, k⟩ :: s.top)
  else if m.kind = 3 then s.put s.top.tail
  else if m.kind = 1 then s.put (match s.top with | [] => [] | f :: r => ⟨f.fn, m.line, f.frm⟩ :: r)
  else s
/-- The call that a moment has closed, with those around it. -/
def closedP (s : PS) (m : PMom) : List PFr := if m.kind = 3 then s.top else []
/-- What stands behind the first n moments. -/
def stN (ms : List PMom) : Nat → PS
  | 0 => ps0
  | n + 1 => stepP (stN ms n) (elt ms n) n
/-- The first place from k on, d places on at most, at which f is not nought: f there, and the place. -/
def firstNZ (f : Nat → Int) : Nat → Nat → Int × Int
  | 0, _ => (0, 0)
  | d + 1, k => if f k = 0 then firstNZ f d (k + 1) else (f k, k)
theorem firstNZ_skip {f : Nat → Int} {n k : Nat} (hk : k < n) (h : f k = 0) : firstNZ f (n - k) k = firstNZ f (n - (k + 1)) (k + 1) := by
  rw [show n - k = (n - (k + 1)) + 1 by omega, firstNZ, if_pos h]
theorem firstNZ_hit {f : Nat → Int} {n k : Nat} (hk : k < n) (h : f k ≠ 0) : firstNZ f (n - k) k = (f k, (k : Int)) := by
  rw [show n - k = (n - (k + 1)) + 1 by omega, firstNZ, if_neg h]
theorem firstNZ_end {f : Nat → Int} {n : Nat} : firstNZ f (n - n) n = (0, 0) := by rw [Nat.sub_self]; rfl
theorem firstNZ_zero {f : Nat → Int} : ∀ {d k : Nat}, (firstNZ f d k).1 = 0 → ∀ j, k ≤ j → j < k + d → f j = 0
  | 0, _, _, _, _, h => absurd h (by omega)
  | d + 1, k, h, j, h1, h2 => by
    unfold firstNZ at h
    by_cases hf : f k = 0
    · rw [if_pos hf] at h
      by_cases hj : j = k
      · rw [hj]; exact hf
      · exact firstNZ_zero h j (by omega) (by omega)
    · rw [if_neg hf] at h; exact absurd h hf

def varOk (v : PVar) : Bool := inB v.nm.size 1 40 && decide (v.tx.size ≤ 4000)
def varsOk (xs : List PVar) : Bool := xs.all varOk
def momHd (nf : Nat) (m : PMom) : Bool :=
  inB m.kind 1 7 && inB m.task 0 100 && inB m.fn 0 (nf - 1) && inB m.line 0 100000 && (decide (0 < m.line) || decide (m.kind ≠ 1)) && decide (m.text.size ≤ 4000) && decide (m.vars.length ≤ 200)
def momOk (nf : Nat) (m : PMom) : Bool := momHd nf m && varsOk m.vars
def fnsOk (xs : List ByteArray) : Bool := xs.all fun s => decide (s.size ≤ 40)
def sizesOk (t : PTr) : Bool := decide (t.fns.length ≠ 0) && decide (t.fns.length ≤ 300) && decide (t.moms.length ≤ 3000) && fnsOk t.fns
def momCode (t : PTr) (k : Nat) : Int := if momOk t.fns.length (elt t.moms k) = true then 0 else 2
def moveCode (t : PTr) (k : Nat) : Int := checkP (stN t.moms k) (elt t.moms k)
def faultP (t : PTr) : Int × Int :=
  if sizesOk t = false then (1, 0)
  else if (firstNZ (momCode t) (t.moms.length - 0) 0).1 ≠ 0 then firstNZ (momCode t) (t.moms.length - 0) 0
  else firstNZ (moveCode t) (t.moms.length - 0) 0
def soundP (t : PTr) : Bool := decide ((faultP t).1 = 0)

/-- What a sound trace has. -/
structure Sound (t : PTr) : Prop where
  sizes : sizesOk t = true
  moms : ∀ k, k < t.moms.length → momOk t.fns.length (elt t.moms k) = true
  moves : ∀ k, k < t.moms.length → checkP (stN t.moms k) (elt t.moms k) = 0
theorem sound_iff {t : PTr} : soundP t = true → Sound t := by
  intro h
  have h : (faultP t).1 = 0 := by simpa [soundP] using h
  unfold faultP at h
  by_cases h1 : sizesOk t = false
  · rw [if_pos h1] at h; cases h
  rw [if_neg h1] at h
  by_cases h2 : (firstNZ (momCode t) (t.moms.length - 0) 0).1 ≠ 0
  · rw [if_pos h2] at h; exact absurd h h2
  rw [if_neg h2] at h
  refine ⟨by simpa using h1, fun k hk => ?_, fun k hk => firstNZ_zero h k (by omega) (by omega)⟩
  have h3 := firstNZ_zero (Decidable.not_not.1 h2) k (by omega) (by omega)
  unfold momCode at h3
  by_cases h4 : momOk t.fns.length (elt t.moms k) = true
  · exact h4
  · rw [if_neg h4] at h3; cases h3
theorem firstNZ_of_zero {f : Nat → Int} : ∀ {d k : Nat}, (firstNZ f d k).1 = 0 → firstNZ f d k = (0, 0)
  | 0, _, _ => rfl
  | d + 1, k, h => by
    unfold firstNZ at h ⊢
    by_cases hf : f k = 0
    · rw [if_pos hf] at h ⊢; exact firstNZ_of_zero h
    · rw [if_neg hf] at h; exact absurd h hf
theorem fault_of_sound {t : PTr} (h : soundP t = true) : faultP t = (0, 0) := by
  have h' : (faultP t).1 = 0 := by simpa [soundP] using h
  unfold faultP at h' ⊢
  by_cases h1 : sizesOk t = false
  · rw [if_pos h1] at h'; cases h'
  rw [if_neg h1] at h' ⊢
  by_cases h2 : (firstNZ (momCode t) (t.moms.length - 0) 0).1 ≠ 0
  · rw [if_pos h2] at h'; exact absurd h' h2
  rw [if_neg h2] at h' ⊢
  exact firstNZ_of_zero h'

/-! ### what holds all along -/
/-- The running task is one of the 101, the numbers of moments are small, no more than 200 calls are open. -/
structure Inv (s : PS) (n : Nat) : Prop where
  lo : 0 ≤ s.cur
  hi : s.cur ≤ 100
  deep : ∀ i, (s.stk i).length ≤ 200
  frm : ∀ i f, f ∈ s.stk i → -1 ≤ f.frm ∧ f.frm < n
theorem inv0 : Inv ps0 0 := by
  refine ⟨by simp [ps0], by simp [ps0], fun i => ?_, fun i f hf => ?_⟩
  · simp only [ps0]; split <;> simp
  · simp only [ps0] at hf
    split at hf
    · simp at hf; subst hf; simp
    · cases hf
theorem inv_step {s : PS} {n nf : Nat} {m : PMom} (h : Inv s n) (hm : momOk nf m = true) (hc : checkP s m = 0) : Inv (stepP s m n) (n + 1) := by
  obtain ⟨h1, h2, h3, h4⟩ := h
  have ht : 0 ≤ m.task ∧ m.task ≤ 100 := by
    simp only [momOk, momHd, Bool.and_eq_true] at hm
    exact inB_true.1 hm.1.1.1.1.1.1.2
  have hput : ∀ l : List PFr, l.length ≤ 200 → (∀ f ∈ l, -1 ≤ f.frm ∧ f.frm < n + 1) → Inv (s.put l) (n + 1) := by
    intro l hl hf
    refine ⟨h1, h2, fun i => ?_, fun i f hi => ?_⟩
    · simp only [PS.put]; split
      · exact hl
      · exact h3 i
    · simp only [PS.put] at hi; split at hi
      · have := hf f hi; omega
      · have := h4 i f hi; omega
  unfold stepP
  unfold checkP at hc
  by_cases k7 : m.kind = 7
  · rw [if_pos k7]; exact ⟨ht.1, ht.2, h3, fun i f hi => by have := h4 i f hi; omega⟩
  rw [if_neg k7] at hc ⊢
  by_cases hct : m.task ≠ s.cur
  · rw [if_pos hct] at hc; cases hc
  rw [if_neg hct] at hc
  by_cases k2 : m.kind = 2
  · rw [if_pos k2] at hc ⊢
    have hd := h3 s.cur
    by_cases h200 : s.top.length = 200
    · rw [if_pos h200] at hc; cases hc
    · refine hput _ ?_ ?_
      · simp only [List.length_cons]; unfold PS.top at h200 ⊢; omega
      · intro f hf
        rcases List.mem_cons.1 hf with rfl | hf
        · dsimp only; omega
        · have := h4 _ f hf; omega
  rw [if_neg k2] at hc ⊢
  by_cases k3 : m.kind = 3
  · rw [if_pos k3]
    refine hput _ ?_ ?_
    · rw [List.length_tail]; have := h3 s.cur; unfold PS.top; omega
    · intro f hf; have := h4 _ f (List.mem_of_mem_tail hf); omega
  rw [if_neg k3]
  by_cases k1 : m.kind = 1
  · rw [if_pos k1]
    have hd := h3 s.cur
    refine hput _ ?_ ?_
    · unfold PS.top; cases hs : s.stk s.cur with
      | nil => simp
      | cons f r => rw [hs] at hd; simpa using hd
    · intro f hf
      unfold PS.top at hf
      cases hs : s.stk s.cur with
      | nil => rw [hs] at hf; cases hf
      | cons g r =>
        rw [hs] at hf
        rcases List.mem_cons.1 hf with rfl | hf
        · have := h4 s.cur g (by rw [hs]; simp); dsimp only; omega
        · have := h4 s.cur f (by rw [hs]; simp [hf]); omega
  rw [if_neg k1]
  exact ⟨h1, h2, h3, fun i f hi => by have := h4 i f hi; omega⟩
theorem inv_stN {t : PTr} : ∀ n, n ≤ t.moms.length → (∀ k, k < n → momOk t.fns.length (elt t.moms k) = true) → (∀ k, k < n → checkP (stN t.moms k) (elt t.moms k) = 0) → Inv (stN t.moms n) n
  | 0, _, _, _ => inv0
  | n + 1, hn, hm, hc => inv_step (inv_stN n (by omega) (fun k hk => hm k (by omega)) (fun k hk => hc k (by omega))) (hm n (by omega)) (hc n (by omega))
theorem Sound.inv {t : PTr} (h : Sound t) (n : Nat) (hn : n ≤ t.moms.length) : Inv (stN t.moms n) n :=
  inv_stN n hn (fun k hk => h.moms k (by omega)) (fun k hk => h.moves k (by omega))
end Go.Proofs.Lens

namespace Go.Proofs.Lens

/-- There is a place k; how many moments are played there; what stands there. -/
def placeOk (t : PTr) (k : Int) : Bool := inB k (-1) t.moms.length
def goodP (t : PTr) (k : Int) : Bool := soundP t && placeOk t k
def atN (t : PTr) (k : Int) : Nat := min (k + 1).toNat t.moms.length
def atP (t : PTr) (k : Int) : PS := stN t.moms (atN t k)
theorem atN_le (t : PTr) (k : Int) : atN t k ≤ t.moms.length := Nat.min_le_right _ _
def runP (t : PTr) (k : Int) : Int := if goodP t k = true then (atP t k).cur else -1
/-- The first number from k on (d of them) at which p holds, else n. -/
def firstB (p : Nat → Bool) (n : Nat) : Nat → Nat → Nat
  | 0, _ => n
  | d + 1, k => if p k = true then k else firstB p n d (k + 1)
theorem firstB_skip {p : Nat → Bool} {n k : Nat} (hk : k < n) (h : p k = false) : firstB p n (n - k) k = firstB p n (n - (k + 1)) (k + 1) := by
  rw [show n - k = (n - (k + 1)) + 1 by omega, firstB, if_neg (by rw [h]; simp)]
theorem firstB_hit {p : Nat → Bool} {n k : Nat} (hk : k < n) (h : p k = true) : firstB p n (n - k) k = k := by
  rw [show n - k = (n - (k + 1)) + 1 by omega, firstB, if_pos h]
theorem firstB_end {p : Nat → Bool} {n k : Nat} (hk : n ≤ k) : firstB p n (n - k) k = n := by
  rw [show n - k = 0 by omega]; rfl
theorem firstB_congr {p q : Nat → Bool} {n : Nat} (h : ∀ i, p i = q i) : ∀ {d k : Nat}, firstB p n d k = firstB q n d k
  | 0, _ => rfl
  | d + 1, k => by rw [firstB, firstB, h k, firstB_congr h]
/-- The last number below k at which p holds, else -1. -/
def lastB (p : Nat → Bool) : Nat → Int
  | 0 => -1
  | k + 1 => if p k = true then (k : Int) else lastB p k
def intoQ (t : PTr) (k : Int) (i : Nat) : Bool := decide ((elt t.moms i).kind = 1) && decide ((elt t.moms i).task = (atP t k).cur)
def overQ (t : PTr) (k : Int) (i : Nat) : Bool := decide ((elt t.moms i).kind = 1) && decide ((elt t.moms i).task = (atP t k).cur) && decide (((stN t.moms (i + 1)).stk (atP t k).cur).length ≤ ((atP t k).stk (atP t k).cur).length)
def outQ (t : PTr) (k : Int) (i : Nat) : Bool := decide ((elt t.moms i).kind = 3) && decide ((elt t.moms i).task = (atP t k).cur) && decide (((stN t.moms (i + 1)).stk (atP t k).cur).length < ((atP t k).stk (atP t k).cur).length)
def seekP (t : PTr) (k : Int) (q : Nat → Bool) : Int := if goodP t k = true then (firstB q t.moms.length (t.moms.length - (k + 1).toNat) (k + 1).toNat : Nat) else -2
def intoP (t : PTr) (k : Int) : Int := seekP t k (intoQ t k)
def overP (t : PTr) (k : Int) : Int := seekP t k (overQ t k)
def outP (t : PTr) (k : Int) : Int := seekP t k (outQ t k)
def stackP (t : PTr) (k task : Int) : List PFr := if (goodP t k && inB task 0 100) = true then (atP t k).stk task else []
end Go.Proofs.Lens

namespace Go.Proofs.Lens

/-- The text of the last variable of a name. -/
def valP (vars : List PVar) (nm : ByteArray) : Option ByteArray :=
  match vars with
  | [] => none
  | v :: r => match valP r nm with | some x => some x | none => if v.nm = nm then some v.tx else none
theorem valP_snoc (l : List PVar) (v : PVar) (nm : ByteArray) : valP (l ++ [v]) nm = if v.nm = nm then some v.tx else valP l nm := by
  induction l with
  | nil => simp [valP]
  | cons u r ih =>
    simp only [List.cons_append, valP, ih]
    by_cases h : v.nm = nm
    · rw [if_pos h, if_pos h]
    · rw [if_neg h, if_neg h]
/-- The open call that a moment shows, and its task. -/
def shownS (ms : List PMom) (k : Nat) : PS := if (elt ms k).kind = 3 then stN ms k else stN ms (k + 1)
def shownP (ms : List PMom) (k : Nat) : Option (Int × PFr) := match (shownS ms k).top with | [] => none | f :: _ => some ((shownS ms k).cur, f)
def watStep (L : Int → Option ByteArray) (sh : Option (Int × PFr)) (v : Option ByteArray) (fn : Int) (i : Int) : Option ByteArray :=
  match sh, v with
  | some (_, f), some tx => if f.fn = fn ∧ i = f.frm then some tx else L i
  | _, _ => L i
def watHit (L : Int → Option ByteArray) (sh : Option (Int × PFr)) (v : Option ByteArray) (fn : Int) : Bool :=
  match sh, v with
  | some (_, f), some tx => decide (f.fn = fn) && decide (L f.frm ≠ some tx)
  | _, _ => false
def watN (ms : List PMom) (nm : ByteArray) (fn : Int) : Nat → Int → Option ByteArray
  | 0 => fun _ => none
  | n + 1 => fun i => watStep (watN ms nm fn n) (shownP ms n) (valP (elt ms n).vars nm) fn i
def holdsP (ms : List PMom) (s : PStop) (k : Nat) : Bool :=
  if s.kind = 1 then decide ((elt ms k).kind = 1) && decide ((elt ms k).fn = s.fn) && decide ((elt ms k).line = s.line)
  else if s.kind = 2 then decide ((elt ms k).kind = 2) && decide ((elt ms k).fn = s.fn)
  else if s.kind = 3 then watHit (watN ms s.nm s.fn k) (shownP ms k) (valP (elt ms k).vars s.nm) s.fn
  else decide ((elt ms k).kind = 4)
/-- The reference's search back, from i - 1 down. -/
def chgP (ms : List PMom) (nm : ByteArray) (tk frm : Int) (now : ByteArray) : Nat → Bool
  | 0 => true
  | i + 1 => if (i : Int) < frm then true else
    match shownP ms i with
    | none => chgP ms nm tk frm now i
    | some (tk', g) => if tk' = tk ∧ g.frm = frm then (match valP (elt ms i).vars nm with | some u => decide (u ≠ now) | none => chgP ms nm tk frm now i) else chgP ms nm tk frm now i
/-- Where an open call comes from says its task and its fn. -/
def Org (ms : List PMom) (s : PS) (n : Nat) : Prop :=
  ∀ i f, f ∈ s.stk i → (f.frm = -1 ∧ i = 0 ∧ f.fn = 0) ∨ ∃ j : Nat, f.frm = (j : Int) ∧ j < n ∧ i = (elt ms j).task ∧ f.fn = (elt ms j).fn
theorem org0 (ms : List PMom) : Org ms ps0 0 := by
  intro i f hf
  simp only [ps0] at hf
  split at hf
  · rename_i h0
    simp at hf; subst hf; exact .inl ⟨rfl, h0, rfl⟩
  · cases hf
theorem org_step {ms : List PMom} {s : PS} {n : Nat} (h : Org ms s n) (hc : checkP s (elt ms n) = 0) : Org ms (stepP s (elt ms n) n) (n + 1) := by
  have hold : Org ms s (n + 1) := fun i f hf => by
    rcases h i f hf with h | ⟨j, h1, h2, h3⟩
    · exact .inl h
    · exact .inr ⟨j, h1, by omega, h3⟩
  have hput : ∀ l : List PFr, (∀ f ∈ l, (f.frm = -1 ∧ s.cur = 0 ∧ f.fn = 0) ∨ ∃ j : Nat, f.frm = (j : Int) ∧ j < n + 1 ∧ s.cur = (elt ms j).task ∧ f.fn = (elt ms j).fn) → Org ms (s.put l) (n + 1) := by
    intro l hl i f hf
    simp only [PS.put] at hf
    split at hf
    · rename_i hi
      subst hi
      exact hl f hf
    · exact hold i f hf
  unfold stepP
  unfold checkP at hc
  by_cases k7 : (elt ms n).kind = 7
  · rw [if_pos k7]; exact hold
  rw [if_neg k7] at hc ⊢
  by_cases hct : (elt ms n).task ≠ s.cur
  · rw [if_pos hct] at hc; cases hc
  split
  · refine hput _ fun f hf => ?_
    rcases List.mem_cons.1 hf with rfl | hf
    · exact .inr ⟨n, rfl, by omega, (Decidable.not_not.1 hct).symm, rfl⟩
    · exact hold s.cur f hf
  · split
    · exact hput _ fun f hf => hold s.cur f (List.mem_of_mem_tail hf)
    · split
      · refine hput _ fun f hf => ?_
        unfold PS.top at hf
        cases hs : s.stk s.cur with
        | nil => rw [hs] at hf; cases hf
        | cons g r =>
          rw [hs] at hf
          rcases List.mem_cons.1 hf with rfl | hf
          · exact hold s.cur g (by rw [hs]; simp)
          · exact hold s.cur f (by rw [hs]; simp [hf])
      · exact hold
theorem Sound.org {t : PTr} (h : Sound t) : ∀ n, n ≤ t.moms.length → Org t.moms (stN t.moms n) n
  | 0, _ => org0 _
  | n + 1, hn => org_step (h.org n (by omega)) (h.moves n (by omega))
theorem Sound.shown {t : PTr} (h : Sound t) {k : Nat} (hk : k < t.moms.length) {tk : Int} {f : PFr} (hs : shownP t.moms k = some (tk, f)) :
    (f.frm = -1 ∧ tk = 0 ∧ f.fn = 0) ∨ ∃ j : Nat, f.frm = (j : Int) ∧ j ≤ k ∧ tk = (elt t.moms j).task ∧ f.fn = (elt t.moms j).fn := by
  have ho : Org t.moms (shownS t.moms k) (k + 1) := by
    unfold shownS
    split
    · intro i f hf
      rcases h.org k (by omega) i f hf with h | ⟨j, h1, h2, h3⟩
      · exact .inl h
      · exact .inr ⟨j, h1, by omega, h3⟩
    · exact h.org (k + 1) (by omega)
  unfold shownP at hs
  cases ht : (shownS t.moms k).top with
  | nil => rw [ht] at hs; cases hs
  | cons g r =>
    rw [ht] at hs
    simp only [Option.some.injEq, Prod.mk.injEq] at hs
    obtain ⟨rfl, rfl⟩ := hs
    unfold PS.top at ht
    rcases ho _ g (by rw [ht]; simp) with h | ⟨j, h1, h2, h3⟩
    · exact .inl h
    · exact .inr ⟨j, h1, by omega, h3⟩
theorem Sound.same {t : PTr} (h : Sound t) {i k : Nat} (hi : i < t.moms.length) (hk : k < t.moms.length) {tk tk' : Int} {f g : PFr} (hs : shownP t.moms k = some (tk, f)) (hg : shownP t.moms i = some (tk', g)) (hf : g.frm = f.frm) :
    tk' = tk ∧ g.fn = f.fn := by
  rcases h.shown hk hs with ⟨a1, a2, a3⟩ | ⟨j, a1, a2, a3, a4⟩ <;> rcases h.shown hi hg with ⟨b1, b2, b3⟩ | ⟨j', b1, b2, b3, b4⟩
  · omega
  · omega
  · omega
  · obtain rfl : j = j' := by omega
    exact ⟨by rw [a3, b3], by rw [a4, b4]⟩
theorem watN_far {t : PTr} (h : Sound t) (nm : ByteArray) (fn : Int) : ∀ (n : Nat), n ≤ t.moms.length → ∀ x : Int, (n : Int) ≤ x → watN t.moms nm fn n x = none
  | 0, _, _, _ => rfl
  | n + 1, hn, x, hx => by
    have ih := watN_far h nm fn n (by omega) x (by omega)
    simp only [watN]
    unfold watStep
    split
    · rename_i tk f tx hs hv
      split
      · rename_i he
        rcases h.shown (by omega) hs with ⟨a1, _⟩ | ⟨j, a1, a2, _⟩ <;> omega
      · exact ih
    · exact ih
theorem chg_wat {t : PTr} (h : Sound t) (nm : ByteArray) (fn : Int) {k : Nat} (hk : k < t.moms.length) {tk : Int} {f : PFr} (hs : shownP t.moms k = some (tk, f)) (hf : f.fn = fn) (now : ByteArray) :
    ∀ i, i ≤ k → chgP t.moms nm tk f.frm now i = decide (watN t.moms nm fn i f.frm ≠ some now)
  | 0, _ => by simp [chgP, watN]
  | i + 1, hi => by
    have ih := chg_wat h nm fn hk hs hf now i (by omega)
    unfold chgP
    split
    · rename_i hlt
      rw [watN_far h nm fn (i + 1) (by omega) _ (by omega)]
      simp
    · rename_i hlt
      cases hg : shownP t.moms i with
      | none =>
        simp only [watN, watStep, hg]
        exact ih
      | some p =>
        obtain ⟨tk', g⟩ := p
        simp only [watN, watStep, hg]
        by_cases hm : g.frm = f.frm
        · obtain ⟨e1, e2⟩ := h.same (by omega) hk hs hg hm
          rw [if_pos ⟨e1, hm⟩]
          cases hv : valP (elt t.moms i).vars nm with
          | none => exact ih
          | some u =>
            dsimp only
            have : g.fn = fn ∧ f.frm = g.frm := ⟨by omega, hm.symm⟩
            simp [this]
        · rw [if_neg (fun hh => hm hh.2)]
          cases hv : valP (elt t.moms i).vars nm with
          | none => exact ih
          | some u =>
            have : ¬ (g.fn = fn ∧ f.frm = g.frm) := fun hh => hm hh.2.symm
            dsimp only
            rw [ih]
            simp [this]
/-- What the reference asks at moment k. -/
def chgAt (ms : List PMom) (s : PStop) (k : Nat) : Bool :=
  match shownP ms k, valP (elt ms k).vars s.nm with
  | some (tk, f), some now => if f.fn = s.fn then chgP ms s.nm tk f.frm now k else false
  | _, _ => false
theorem chgAt_eq {t : PTr} (h : Sound t) (s : PStop) {k : Nat} (hk : k < t.moms.length) : chgAt t.moms s k = watHit (watN t.moms s.nm s.fn k) (shownP t.moms k) (valP (elt t.moms k).vars s.nm) s.fn := by
  unfold chgAt watHit
  cases hs : shownP t.moms k with
  | none => rfl
  | some p =>
    obtain ⟨tk, f⟩ := p
    cases hv : valP (elt t.moms k).vars s.nm with
    | none => rfl
    | some now =>
      dsimp only
      by_cases hf : f.fn = s.fn
      · rw [if_pos hf, chg_wat h s.nm s.fn hk hs hf now k (by omega)]; simp [hf]
      · rw [if_neg hf]; simp [hf]
def anyP (ms : List PMom) (ss : List PStop) (i : Nat) : Bool := ss.any fun s => holdsP ms s i
def stopsGood (t : PTr) (ss : List PStop) (k : Int) : Bool := soundP t && placeOk t k && decide (ss.length ≤ 50) && ss.all stopOk
def nextP (t : PTr) (ss : List PStop) (k : Int) : Int := if stopsGood t ss k = true then (firstB (anyP t.moms ss) t.moms.length (t.moms.length - (k + 1).toNat) (k + 1).toNat : Nat) else -2
def lastP (t : PTr) (ss : List PStop) (k : Int) : Int := if stopsGood t ss k = true then lastB (anyP t.moms ss) k.toNat else -2
theorem ba_loop (s : ByteArray) : ∀ (n i : Nat) (r : List UInt8), s.size - i = n → ByteArray.toList.loop s i r = r.reverse ++ s.data.toList.drop i
  | 0, i, r, h => by
    unfold ByteArray.toList.loop
    rw [if_neg (by omega), List.drop_eq_nil_of_le]
    · simp
    · show s.data.size ≤ i
      have : s.size = s.data.size := rfl
      omega
  | n + 1, i, r, h => by
    unfold ByteArray.toList.loop
    have hi : i < s.data.size := by have : s.size = s.data.size := rfl; omega
    rw [if_pos (by omega), ba_loop s n (i + 1) _ (by omega)]
    have hd : s.data.toList.drop i = s.data[i] :: s.data.toList.drop (i + 1) := by
      rw [List.drop_eq_getElem_cons (by simpa using hi)]; rfl
    rw [hd, show s.get! i = s.data[i] from by unfold ByteArray.get!; exact getElem!_pos s.data i hi]
    simp
theorem ba_list (s : ByteArray) : s.toList = s.data.toList := by
  unfold ByteArray.toList
  rw [ba_loop s _ 0 [] rfl]; simp
theorem ba_eq {a b : ByteArray} (h : a.toList = b.toList) : a = b := by
  rw [ba_list, ba_list] at h
  cases a; cases b; congr 1; exact Array.toList_inj.1 h
theorem ba_beq (a b : ByteArray) : (a.toList == b.toList) = decide (a = b) := by
  by_cases h : a = b
  · simp [h]
  · simp [h]; exact fun hh => h (ba_eq hh)
theorem chk_ne {s : PS} {m : PMom} (hc : checkP s m = 0) (hk : m.kind = 1 ∨ m.kind = 3) : s.top ≠ [] := by
  intro h2
  unfold checkP at hc
  rw [if_neg (by omega), h2] at hc
  by_cases ht : m.task ≠ s.cur
  · rw [if_pos ht] at hc; cases hc
  · rw [if_neg ht, if_neg (by omega)] at hc
    simp only at hc
    rw [if_pos (by omega)] at hc
    cases hc
theorem step_cur {s : PS} {m : PMom} {n : Nat} (h : m.kind ≠ 7) : (stepP s m n).cur = s.cur := by
  unfold stepP
  rw [if_neg h]
  split
  · rfl
  · split
    · rfl
    · split <;> rfl
end Go.Proofs.Lens

namespace Go.Proofs.Lens

/-! ### counts by fn -/
structure PFc where
  fn : Int
  cal : Int
  slf : Int
  tot : Int
instance : Inhabited PFc := ⟨⟨0, 0, 0, 0⟩⟩
end Go.Proofs.Lens

namespace Go.Proofs.Lens

structure PBr where
  fn : Int
  par : Int
  cal : Int
  slf : Int
instance : Inhabited PBr := ⟨⟨0, 0, 0, 0⟩⟩
end Go.Proofs.Lens

namespace Go.Proofs.Lens

theorem firstNZ_all {f : Nat → Int} : ∀ {d k : Nat}, (∀ j, k ≤ j → j < k + d → f j = 0) → firstNZ f d k = (0, 0)
  | 0, _, _ => rfl
  | d + 1, k, h => by
    unfold firstNZ
    rw [if_pos (h k (Nat.le_refl _) (by omega))]
    exact firstNZ_all fun j h1 h2 => h j (by omega) (by omega)
theorem Sound.is {t : PTr} (h : Sound t) : soundP t = true := by
  obtain ⟨h1, h2, h3⟩ := h
  have e2 : firstNZ (momCode t) (t.moms.length - 0) 0 = (0, 0) := firstNZ_all fun j _ hj => by
    unfold momCode; rw [if_pos (h2 j (by omega))]
  have e3 : firstNZ (moveCode t) (t.moms.length - 0) 0 = (0, 0) := firstNZ_all fun j _ hj => h3 j (by omega)
  unfold soundP faultP
  rw [if_neg (by rw [h1]; simp), e2, e3]
  simp
def one (l : List PFr) : PS := ⟨0, fun t => if t = 0 then l else []⟩
end Go.Proofs.Lens

namespace Go.Proofs.Lens

theorem elt_app {α : Type} [Inhabited α] (a b : List α) {i : Nat} (h : i < a.length) : elt (a ++ b) i = elt a i := by
  rw [elt_eq (by simp; omega), elt_eq h, List.getElem_append_left h]
theorem elt_last {α : Type} [Inhabited α] (a : List α) (x : α) : elt (a ++ [x]) a.length = x := by
  rw [elt_eq (by simp)]; simp
theorem stN_app (a b : List PMom) : ∀ k, k ≤ a.length → stN (a ++ b) k = stN a k
  | 0, _ => rfl
  | k + 1, h => by
    show stepP (stN (a ++ b) k) (elt (a ++ b) k) k = stepP (stN a k) (elt a k) k
    rw [stN_app a b k (by omega), elt_app a b (by omega)]
def wb (code : List Nat) (i : Nat) : Nat := if code.length = 0 then 0 else elt code (i % code.length)
def wv (code : List Nat) (i : Nat) : Nat := wb code i % 3
end Go.Proofs.Lens
