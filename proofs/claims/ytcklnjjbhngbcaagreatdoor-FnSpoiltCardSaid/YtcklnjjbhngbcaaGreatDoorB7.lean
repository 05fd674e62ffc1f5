/- Maps that a call makes, told as plain functions of their keys. -/
import Derived.Test.YtcklnjjbhngbcaaGreatDoorB6
import Derived.Maps.OwnSet
namespace Go.Proofs.Lens
open Go.RowKit

/-- What is asked of a map's types: how keys and elements are told. -/
structure MTy {α β : Type} (P : Program) (t kt et : TypeId) (kV : α → Value) (okK : α → Prop) (eV : β → Value) (eL : β → Lit) (okE : β → Prop) (z : β) : Prop where
  keyed : Go.Maps.Keyed P kt
  und : P.underlying t = some (.map kt et)
  key : ∀ x, okK x → ∃ l, keyOf P kt (kV x) = some l
  inj : ∀ x y, kV x = kV y → x = y
  elem : ∀ y, okE y → plainElem (H := Unit) P et (eV y) = some (.lit (eL y), [])
  back : ∀ v y ps, plainElem (H := Unit) P et v = some (.lit (eL y), ps) → v = eV y
  zero : ∀ w, (zeroValue et).run P w = .ok (eV z) w
  zok : okE z
def OwM {α β : Type} (P : Program) (kt et : TypeId) (kV : α → Value) (okK : α → Prop) (eL : β → Lit) (w : World) (b n : Nat) (M : α → Option β) : Prop :=
  ∃ D : DataW Unit, w.ownsMap P kt (plainElem P et) b n D ∧ ∀ x, okK x → ∀ l, keyOf P kt (kV x) = some l → ∀ zd, D.atKey l zd = match M x with | none => zd | some y => .lit (eL y)
section
variable {α β : Type} {P : Program} {t kt et : TypeId} {kV : α → Value} {okK : α → Prop} {eV : β → Value} {eL : β → Lit} {okE : β → Prop} {z : β}
theorem OwM.made (w : World) : OwM P kt et kV okK eL (w.alloc (.map #[] 0)) w.heap.size 0 (fun _ => none) := ⟨.map [], World.ownsMap_made _ _ _ _, fun _ _ _ _ _ => rfl⟩
theorem OwM.kept {w w' : World} {b n : Nat} {M : α → Option β} {row : Option Nat} (h : OwM P kt et kV okK eL w b n M) (hg : w.grownBy w' row) (hne : some b ≠ row) : OwM P kt et kV okK eL w' b n M := by
  obtain ⟨D, h1, h2⟩ := h
  exact ⟨D, h1.kept hg hne, h2⟩
theorem OwM.lt {w : World} {b n : Nat} {M : α → Option β} (h : OwM P kt et kV okK eL w b n M) : b < w.heap.size := by
  obtain ⟨D, h1, _⟩ := h
  exact h1.lt
theorem OwM.later {w w' : World} {b n : Nat} {M : α → Option β} (h : OwM P kt et kV okK eL w b n M) (hb : Below w.heap.size w w') : OwM P kt et kV okK eL w' b n M :=
  h.kept (row := none) ⟨hb.os, hb.tape, hb.output, hb.size, fun i hi _ => hb.block i hi⟩ (by simp)
theorem OwM.mv {w w' : World} {b n lo : Nat} {M : α → Option β} {ts : List TypeId} (h : OwM P kt et kV okK eL w b n M) (hm : Mv ts lo w w') : OwM P kt et kV okK eL w' b n M := by
  obtain ⟨D, ⟨es, c, h1, h2⟩, h3⟩ := h
  exact ⟨D, ⟨es, c, hm.kp b _ h1 (fun _ _ _ hh => by cases hh), h2⟩, h3⟩
theorem OwM.ne {w : World} {b n g N : Nat} {M : α → Option β} {e : TypeId} {f : Nat → Value} (h : OwM P kt et kV okK eL w b n M) (hB : Blk w g e N f) : g ≠ b := by
  rintro rfl
  obtain ⟨D, ⟨es, c, h1, _⟩, _⟩ := h
  obtain ⟨cur, h2, _⟩ := hB
  rw [h1] at h2
  cases h2
theorem OwM.congr {w : World} {b n : Nat} {M M' : α → Option β} (h : OwM P kt et kV okK eL w b n M) (he : ∀ x, okK x → M x = M' x) : OwM P kt et kV okK eL w b n M' := by
  obtain ⟨D, h1, h2⟩ := h
  exact ⟨D, h1, fun x hx l hl zd => by rw [h2 x hx l hl zd, he x hx]⟩
theorem OwM.look (T : MTy P t kt et kV okK eV eL okE z) {w : World} {b n : Nat} {M : α → Option β} (h : OwM P kt et kV okK eL w b n M) {x : α} (hx : okK x) :
    (Instr.lookup t (.map (some b)) (kV x) false).run P w = .ok (eV ((M x).getD z)) w := by
  obtain ⟨D, h1, h2⟩ := h
  obtain ⟨l, hl⟩ := T.key x hx
  obtain ⟨v, ps, hrun, hv⟩ := h1.lookup T.keyed T.und (T.zero w) (T.elem z T.zok) hl
  rw [hrun]
  rw [h2 x hx l hl] at hv
  cases hM : M x with
  | none => rw [hM] at hv; rw [T.back v z ps hv]; rfl
  | some y => rw [hM] at hv; rw [T.back v y ps hv]; rfl
theorem OwM.lookOk (T : MTy P t kt et kV okK eV eL okE z) {w : World} {b n : Nat} {M : α → Option β} (h : OwM P kt et kV okK eL w b n M) {x : α} (hx : okK x) :
    (Instr.lookup t (.map (some b)) (kV x) true).run P w = .ok (.tuple #[eV ((M x).getD z), .bool (M x).isSome]) w := by
  obtain ⟨D, h1, h2⟩ := h
  obtain ⟨l, hl⟩ := T.key x hx
  obtain ⟨v, ps, hrun, hv⟩ := h1.look_ok T.keyed T.und (T.zero w) (T.elem z T.zok) hl
  rw [hrun]
  have hat := h2 x hx l hl
  rw [hat] at hv
  cases hM : M x with
  | none =>
    rw [hM] at hv hat
    rw [T.back v z ps hv, Go.Maps.has_false_of_atKey hat]; rfl
  | some y =>
    rw [hM] at hv hat
    rw [T.back v y ps hv, Go.Maps.has_true_of_atKey hat]; rfl
open Classical in
noncomputable def setM (M : α → Option β) (x : α) (y : β) (i : α) : Option β := if i = x then some y else M i
theorem OwM.update (T : MTy P t kt et kV okK eV eL okE z) {w : World} {b n : Nat} {M : α → Option β} (h : OwM P kt et kV okK eL w b n M) {x : α} (hx : okK x) {y : β} (hy : okE y) (hn : n < maxLen) :
    ∃ w', (Instr.mapUpdate t (.map (some b)) (kV x) (eV y)).run P w = .ok () w' ∧ OwM P kt et kV okK eL w' b (n + 1) (setM M x y) ∧ w.grownBy w' (some b) := by
  obtain ⟨D, h1, h2⟩ := h
  obtain ⟨l, hl⟩ := T.key x hx
  obtain ⟨w', hrun, h3, hg⟩ := h1.update T.keyed T.und hn hl (T.elem y hy)
  refine ⟨w', hrun, ⟨_, h3, fun x' hx' l' hl' zd => ?_⟩, hg⟩
  unfold setM
  by_cases he : x' = x
  · subst he
    rw [hl] at hl'
    cases hl'
    rw [if_pos rfl, Go.Maps.atKey_put_same h1.isMap (T.keyed.key hl)]
  · rw [if_neg he, Go.Maps.atKey_put_other (show l' ≠ l from fun hll => he (T.inj _ _ (T.keyed.inj hl' (by rw [hll]; exact hl))))]
    exact h2 x' hx' l' hl' zd
end
/-- Whole numbers of 64 bits. -/
def ok64 (x : Int) : Prop := -9223372036854775808 ≤ x ∧ x ≤ 9223372036854775807
theorem wf64 {x : Int} (h : ok64 x) : (Lit.int .i64 x).wf = true := by
  have h1 : IntKind.min .i64 = -9223372036854775808 := by decide
  have h2 : IntKind.max .i64 = 9223372036854775807 := by decide
  simp only [Lit.wf, Bool.and_eq_true, decide_eq_true_eq]
  unfold ok64 at h
  omega
/-- The cells of a block stay what they are while a map is written. -/
theorem Blk.gm {w w' : World} {b g : Nat} {e : TypeId} {N : Nat} {f : Nat → Value} (h : Blk w b e N f) (hb : w.grownBy w' (some g)) (hne : b ≠ g) : Blk w' b e N f :=
  h.keep (hb.block b h.lt (fun e => hne (Option.some.inj e)))
end Go.Proofs.Lens
