/- Plain data, and how it lies in memory: what a slice's cells read as; what a call leaves as it was. -/
import Derived.WalkKit
import Derived.WalkSpells
import Derived.WalkLawsBesides
import Derived.BigRegion
import Derived.Deep.QuietTactic
import Derived.Deep.Slices
import Derived.BigQuiet
import Derived.ChangeAlike
import Derived.Lib.Hide
import Derived.StillTailTactics
import Derived.Handy
import Derived.ProofKit
namespace Go.Proofs.Lens
open Go.RowKit

theorem ret_bool {a b : Bool} (h : a = b) : Ending.returned (.bool a) = .returned (.bool b) := by rw [h]
theorem ret_int {k : IntKind} {a b : Int} (h : a = b) : Ending.returned (.int k a) = .returned (.int k b) := by rw [h]

/-! ### lists -/
/-- The element at a place, a default beyond the end. -/
def elt {α : Type} [Inhabited α] (xs : List α) (i : Nat) : α := xs.getD i default
theorem elt_eq {α : Type} [Inhabited α] {xs : List α} {i : Nat} (h : i < xs.length) : elt xs i = xs[i] := by
  unfold elt; simp [List.getD_eq_getElem?_getD, h]
theorem drop_cons {α : Type} [Inhabited α] {xs : List α} {i : Nat} (h : i < xs.length) : xs.drop i = elt xs i :: xs.drop (i + 1) := by
  rw [elt_eq h]; exact List.drop_eq_getElem_cons h
theorem take_snoc {α : Type} [Inhabited α] {xs : List α} {i : Nat} (h : i < xs.length) : xs.take (i + 1) = xs.take i ++ [elt xs i] := by
  rw [elt_eq h]; exact List.take_succ_eq_append_getElem h

/-! ### what a call leaves as it was -/
theorem bl_alloc {w W : World} (h : Below w.heap.size w W) (o : Obj) : Below w.heap.size w (W.alloc o) := h.alloc h.size o
theorem bl_drew {B : Nat} {w W : World} (h : Below B w W) : Below B w W.drew := h.drew
theorem bl_drewN {B : Nat} {w W : World} (h : Below B w W) (n : Nat) : Below B w (W.drewN n) := ⟨h.os, h.tape, h.output, h.size, h.block⟩
theorem bl_then {w w1 w2 : World} (h : Below w.heap.size w w1) (k : Below w1.heap.size w1 w2) : Below w.heap.size w w2 :=
  h.trans ⟨k.os, k.tape, k.output, k.size, fun i hi => k.block i (Nat.lt_of_lt_of_le hi h.size)⟩
theorem bl_thenB {B : Nat} {w w1 w2 : World} (h : Below B w w1) (hB : B ≤ w1.heap.size) (k : Below w1.heap.size w1 w2) : Below B w w2 :=
  h.trans ⟨k.os, k.tape, k.output, k.size, fun i hi => k.block i (Nat.lt_of_lt_of_le hi hB)⟩
theorem bl_set {B : Nat} {w W : World} {p : Addr} (h : Below B w W) (hp : B ≤ p.block) (u : Value) : Below B w (W.setCell p u) := h.setCell hp u

/-- Old cells read as before: two rules for the walk. -/
theorem bcell {W w1 : World} (hb : Below W.heap.size W w1) : (∀ b o, b < W.heap.size → w1.cell? ⟨b, o, none⟩ = W.cell? ⟨b, o, none⟩) ∧ (∀ b o, b < W.heap.size → w1.frozen? ⟨b, o, none⟩ = W.frozen? ⟨b, o, none⟩) :=
  ⟨fun b o h => hb.cell (p := ⟨b, o, none⟩) h, fun b o h => hb.frozen (p := ⟨b, o, none⟩) h⟩
theorem bsize {W w1 : World} (hb : Below W.heap.size W w1) : W.heap.size ≤ w1.heap.size := hb.size

/-- A block's first cells: a parameter that was laid in memory. -/
def BoxAt (w : World) (b : Nat) (vs : List Value) : Prop := ∀ j v, vs[j]? = some v → w.cell? ⟨b, j, none⟩ = some v
theorem BoxAt.later {w w' : World} {b : Nat} {vs : List Value} (h : BoxAt w b vs) (hb : Below w.heap.size w w') : BoxAt w' b vs := fun j v hj => cell_later hb (h j v hj)
theorem BoxAt.new (w : World) (vs : List Value) (t : TypeId) : BoxAt (w.alloc (.cells vs.toArray t)) w.heap.size vs := fun j v hj => by
  unfold World.cell?
  have : (w.alloc (.cells vs.toArray t)).heap[w.heap.size]? = some (.cells vs.toArray t) := by
    show (w.heap.push _)[w.heap.size]? = _
    simp
  rw [this]
  simpa using hj
theorem BoxAt.open2 {w : World} {b : Nat} {v0 v1 : Value} (h : BoxAt w b [v0, v1]) : w.cell? ⟨b, 0, none⟩ = some v0 ∧ w.cell? ⟨b, 1, none⟩ = some v1 := ⟨h 0 _ rfl, h 1 _ rfl⟩
theorem BoxAt.open4 {w : World} {b : Nat} {v0 v1 v2 v3 : Value} (h : BoxAt w b [v0, v1, v2, v3]) :
    w.cell? ⟨b, 0, none⟩ = some v0 ∧ w.cell? ⟨b, 1, none⟩ = some v1 ∧ w.cell? ⟨b, 2, none⟩ = some v2 ∧ w.cell? ⟨b, 3, none⟩ = some v3 := ⟨h 0 _ rfl, h 1 _ rfl, h 2 _ rfl, h 3 _ rfl⟩

/-! ### a row of elements that is read -/
/-- n elements of sz cells each, from A on: cell j of element i is f i j. -/
def RowR (w : World) (A : Option Addr) (n sz : Nat) (f : Nat → Nat → Value) : Prop :=
  0 < n → ∃ b o, A = some ⟨b, o, none⟩ ∧ ∀ i, i < n → ∀ j, j < sz → w.cell? ⟨b, o + i * sz + j, none⟩ = some (f i j)
theorem RowR.later {w w' : World} {A : Option Addr} {n sz : Nat} {f : Nat → Nat → Value} (h : RowR w A n sz f) (hb : Below w.heap.size w w') : RowR w' A n sz f := by
  intro hn
  obtain ⟨b, o, rfl, hc⟩ := h hn
  exact ⟨b, o, rfl, fun i hi j hj => cell_later hb (hc i hi j hj)⟩
/-- A slice value that is read so. -/
def RdSl (w : World) (sz n : Nat) (f : Nat → Nat → Value) (v : Value) : Prop := ∃ A c, v = .slice A n c ∧ n ≤ 9223372036854775807 ∧ RowR w A n sz f
theorem RdSl.later {w w' : World} {n sz : Nat} {f : Nat → Nat → Value} {v : Value} (h : RdSl w sz n f v) (hb : Below w.heap.size w w') : RdSl w' sz n f v := by
  obtain ⟨A, c, rfl, hn, hr⟩ := h
  exact ⟨A, c, rfl, hn, hr.later hb⟩
theorem RdSl.congr {w : World} {n sz : Nat} {f g : Nat → Nat → Value} {v : Value} (h : RdSl w sz n f v) (hfg : ∀ i, i < n → ∀ j, j < sz → f i j = g i j) : RdSl w sz n g v := by
  obtain ⟨A, c, rfl, hn, hr⟩ := h
  refine ⟨A, c, rfl, hn, fun hp => ?_⟩
  obtain ⟨b, o, rfl, hc⟩ := hr hp
  exact ⟨b, o, rfl, fun i hi j hj => by rw [hc i hi j hj, hfg i hi j hj]⟩

/-! ### the plain data -/
structure PVar where
  nm : ByteArray
  tx : ByteArray
structure PMom where
  kind : Int
  task : Int
  fn : Int
  line : Int
  text : ByteArray
  vars : List PVar
structure PTr where
  fns : List ByteArray
  moms : List PMom
structure PFr where
  fn : Int
  line : Int
  frm : Int
structure PStop where
  kind : Int
  fn : Int
  line : Int
  nm : ByteArray
structure PAsk where
  op : Int
  n : Int
  nm : ByteArray
  stop : PStop
instance : Inhabited ByteArray := ⟨⟨#[]⟩⟩
instance : Inhabited PVar := ⟨⟨⟨#[]⟩, ⟨#[]⟩⟩⟩
instance : Inhabited PMom := ⟨⟨0, 0, 0, 0, ⟨#[]⟩, []⟩⟩
instance : Inhabited PTr := ⟨⟨[], []⟩⟩
instance : Inhabited PFr := ⟨⟨0, 0, 0⟩⟩
instance : Inhabited PStop := ⟨⟨0, 0, 0, ⟨#[]⟩⟩⟩
instance : Inhabited PAsk := ⟨⟨0, 0, ⟨#[]⟩, default⟩⟩

/-! ### how it lies in memory -/
def strC (xs : List ByteArray) (i _j : Nat) : Value := .string (elt xs i)
def varC (xs : List PVar) (i j : Nat) : Value := match j with | 0 => .string (elt xs i).nm | _ => .string (elt xs i).tx
def momC (ms : List PMom) (vv : Nat → Value) (i j : Nat) : Value := match j with
  | 0 => .int .i64 (elt ms i).kind | 1 => .int .i64 (elt ms i).task | 2 => .int .i64 (elt ms i).fn | 3 => .int .i64 (elt ms i).line | 4 => .string (elt ms i).text | _ => vv i
def frC (xs : List PFr) (i j : Nat) : Value := match j with | 0 => .int .i64 (elt xs i).fn | 1 => .int .i64 (elt xs i).line | _ => .int .i64 (elt xs i).frm
def stopC (xs : List PStop) (i j : Nat) : Value := match j with | 0 => .int .i64 (elt xs i).kind | 1 => .int .i64 (elt xs i).fn | 2 => .int .i64 (elt xs i).line | _ => .string (elt xs i).nm
def askC (xs : List PAsk) (i j : Nat) : Value := match j with
  | 0 => .int .i64 (elt xs i).op | 1 => .int .i64 (elt xs i).n | 2 => .string (elt xs i).nm | 3 => .int .i64 (elt xs i).stop.kind | 4 => .int .i64 (elt xs i).stop.fn | 5 => .int .i64 (elt xs i).stop.line | _ => .string (elt xs i).stop.nm
def intC (xs : List Int) (i _j : Nat) : Value := .int .i64 (elt xs i)
def boolC (xs : List Bool) (i _j : Nat) : Value := .bool (elt xs i)

def RdStrs (w : World) (v : Value) (xs : List ByteArray) : Prop := RdSl w 1 xs.length (strC xs) v
def RdVars (w : World) (v : Value) (xs : List PVar) : Prop := RdSl w 2 xs.length (varC xs) v
def RdMoms (w : World) (v : Value) (ms : List PMom) : Prop := ∃ vv : Nat → Value, RdSl w 6 ms.length (momC ms vv) v ∧ ∀ i, i < ms.length → RdVars w (vv i) (elt ms i).vars
def RdFrs (w : World) (v : Value) (xs : List PFr) : Prop := RdSl w 3 xs.length (frC xs) v
def RdStops (w : World) (v : Value) (xs : List PStop) : Prop := RdSl w 4 xs.length (stopC xs) v
def RdAsks (w : World) (v : Value) (xs : List PAsk) : Prop := RdSl w 7 xs.length (askC xs) v
def RdInts (w : World) (v : Value) (xs : List Int) : Prop := RdSl w 1 xs.length (intC xs) v
def RdBools (w : World) (v : Value) (xs : List Bool) : Prop := RdSl w 1 xs.length (boolC xs) v
/-- A trace, by its two slices. -/
def RdTr (w : World) (v1 v2 : Value) (t : PTr) : Prop := RdStrs w v1 t.fns ∧ RdMoms w v2 t.moms
/-- A struct value of a stop. -/
def stopV (s : PStop) : Value := .agg #[.int .i64 s.kind, .int .i64 s.fn, .int .i64 s.line, .string s.nm]

theorem RdStrs.later {w w' : World} {v : Value} {xs : List ByteArray} (h : RdStrs w v xs) (hb : Below w.heap.size w w') : RdStrs w' v xs := RdSl.later h hb
theorem RdVars.later {w w' : World} {v : Value} {xs : List PVar} (h : RdVars w v xs) (hb : Below w.heap.size w w') : RdVars w' v xs := RdSl.later h hb
theorem RdMoms.later {w w' : World} {v : Value} {ms : List PMom} (h : RdMoms w v ms) (hb : Below w.heap.size w w') : RdMoms w' v ms := by
  obtain ⟨vv, h1, h2⟩ := h
  exact ⟨vv, RdSl.later h1 hb, fun i hi => (h2 i hi).later hb⟩
theorem RdFrs.later {w w' : World} {v : Value} {xs : List PFr} (h : RdFrs w v xs) (hb : Below w.heap.size w w') : RdFrs w' v xs := RdSl.later h hb
theorem RdStops.later {w w' : World} {v : Value} {xs : List PStop} (h : RdStops w v xs) (hb : Below w.heap.size w w') : RdStops w' v xs := RdSl.later h hb
theorem RdAsks.later {w w' : World} {v : Value} {xs : List PAsk} (h : RdAsks w v xs) (hb : Below w.heap.size w w') : RdAsks w' v xs := RdSl.later h hb
theorem RdInts.later {w w' : World} {v : Value} {xs : List Int} (h : RdInts w v xs) (hb : Below w.heap.size w w') : RdInts w' v xs := RdSl.later h hb
theorem RdBools.later {w w' : World} {v : Value} {xs : List Bool} (h : RdBools w v xs) (hb : Below w.heap.size w w') : RdBools w' v xs := RdSl.later h hb
theorem RdTr.later {w w' : World} {v1 v2 : Value} {t : PTr} (h : RdTr w v1 v2 t) (hb : Below w.heap.size w w') : RdTr w' v1 v2 t := ⟨h.1.later hb, h.2.later hb⟩

/-! ### data that came in -/
section
variable {H : Type} {enc : TypeId × Value → H} {P : Program} {w : World} {base : Nat} {spare : Nat → Bool} {held : Bool}

theorem row_of_trod {e sz : Nat} {t : TypeId} {fuel : Nat} {cs : List Value} {x : DataW H × List MemPlace} (ht : P.underlying t = some (.slice e)) (hsz : P.cellsOf e = sz) (h0 : 0 < sz)
    (h : DataW.trod enc P w base spare held fuel t cs = some x) :
    ∃ v n, cs = [v] ∧ ∃ f, RdSl w sz n f v ∧ ∀ i, i < n → ∃ m cs' y, cs'.length = sz ∧ (∀ j, j < sz → cs'[j]? = some (f i j)) ∧ DataW.trod enc P w base spare held m e cs' = some y := by
  rcases Deep.open_slice ht h with ⟨rfl, _⟩ | ⟨a, len, cap, m, n, D, Pl, rfl, _, hl, hm, hme, _, hx⟩
  · exact ⟨_, 0, rfl, fun _ _ => undef, ⟨none, 0, rfl, by omega, fun h => absurd h (by omega)⟩, fun i hi => absurd hi (by omega)⟩
  · have hlm : len ≤ m := by rw [hme]; split <;> omega
    refine ⟨_, len, rfl, fun i j => ((w.cells? base (a.add (i * sz)) sz).getD []).getD j undef, ⟨some a, cap, rfl, by unfold maxLen at hm; omega, fun hp => ?_⟩, fun i hi => ?_⟩
    · have hspot : a.spot = none := by
        obtain ⟨cs', h1, _⟩ := hx 0 (by omega)
        rw [hsz] at h1
        obtain ⟨_, hlen, hc⟩ := World.cells?_some h1
        have h2 := hc 0 h0
        have h3 : (a.add (0 * sz)).add 0 = a := by simp [Addr.add]
        rw [h3, List.getElem?_eq_getElem (by omega)] at h2
        cases hs : a.spot with
        | none => rfl
        | some s =>
          exfalso
          unfold World.cell? at h2
          split at h2
          · simp [hs] at h2
          · cases h2
      obtain ⟨b, o, s⟩ := a
      simp only at hspot
      subst hspot
      refine ⟨b, o, rfl, fun i hi j hj => ?_⟩
      obtain ⟨cs', h1, _⟩ := hx i (by omega)
      rw [hsz] at h1
      obtain ⟨_, hlen, hc⟩ := World.cells?_some h1
      have h2 := hc j hj
      have h3 : (Addr.add ⟨b, o, none⟩ (i * sz)).add j = ⟨b, o + i * sz + j, none⟩ := by
        unfold Addr.add; split <;> split <;> simp_all
      rw [h3] at h2
      show _ = some (((w.cells? base (Addr.add ⟨b, o, none⟩ (i * sz)) sz).getD []).getD j undef)
      rw [h2, h1]
      simp only [Option.getD_some, List.getD_eq_getElem?_getD]
      rw [List.getElem?_eq_getElem (by omega)]
      rfl
    · obtain ⟨cs', h1, h2⟩ := hx i (by omega)
      rw [hsz] at h1
      obtain ⟨_, hlen, _⟩ := World.cells?_some h1
      refine ⟨n, cs', _, hlen, fun j hj => ?_, h2⟩
      show _ = some (((w.cells? base (a.add (i * sz)) sz).getD []).getD j undef)
      rw [h1]
      simp only [Option.getD_some, List.getD_eq_getElem?_getD]
      rw [List.getElem?_eq_getElem (by omega)]
      rfl
end

end Go.Proofs.Lens
