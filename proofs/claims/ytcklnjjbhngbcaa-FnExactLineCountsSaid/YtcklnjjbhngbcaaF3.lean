/- A loop over a map, told as a plain function of the keys that are still to come; keys of two numbers read back. -/
import Derived.Test.YtcklnjjbhngbcaaF2
import Derived.Maps.Range
namespace Go.Proofs.Lens
open Go.RowKit

/-- A loop over a map under way: M is what the map holds, left says which keys are still to come. -/
def OwRg {α β : Type} (P : Program) (kt et : TypeId) (kV : α → Value) (okK : α → Prop) (eL : β → Lit) (w : World) (b r n : Nat) (M : α → Option β) (left : α → Bool) (cnt : Nat) : Prop :=
  ∃ (D : DataW Unit) (lf : Lit → Bool), w.ranges P kt (plainElem P et) b r n D lf cnt ∧ (∀ x, okK x → ∀ l, keyOf P kt (kV x) = some l → ∀ zd, D.atKey l zd = match M x with | none => zd | some y => .lit (eL y)) ∧ ∀ x, okK x → ∀ l, keyOf P kt (kV x) = some l → lf l = left x
section
variable {α β : Type} {P : Program} {t kt et : TypeId} {kV : α → Value} {okK : α → Prop} {eV : β → Value} {eL : β → Lit} {okE : β → Prop} {z : β}
theorem OwM.range (T : MTy P t kt et kV okK eV eL okE z) {w : World} {b n : Nat} {M : α → Option β} (h : OwM P kt et kV okK eL w b n M) :
    ∃ w' cnt, (Instr.range t (.map (some b))).run P w = .ok (.pointer (some ⟨w.heap.size, 0, none⟩)) w' ∧ OwRg P kt et kV okK eL w' b w.heap.size n M (fun x => (M x).isSome) cnt ∧ cnt ≤ n ∧ w.grownBy w' none ∧ w'.heap.size = w.heap.size + 1 := by
  obtain ⟨D, h1, h2⟩ := h
  obtain ⟨w', hrun, hr, hg, hs⟩ := h1.range T.keyed T.und
  refine ⟨w', _, hrun, ⟨D, _, hr, h2, fun x hx l hl => ?_⟩, h1.size_le, hg, hs⟩
  have hat := h2 x hx l hl
  cases hM : M x with
  | none => rw [hM] at hat; rw [Go.Maps.has_false_of_atKey hat]; show _ = (M x).isSome; rw [hM]; rfl
  | some y => rw [hM] at hat; rw [Go.Maps.has_true_of_atKey hat]; show _ = (M x).isSome; rw [hM]; rfl
theorem OwRg.kept {w w' : World} {b r n : Nat} {M : α → Option β} {left : α → Bool} {cnt : Nat} {row : Option Nat} (h : OwRg P kt et kV okK eL w b r n M left cnt) (hg : w.grownBy w' row) (h1 : some b ≠ row) (h2 : some r ≠ row) : OwRg P kt et kV okK eL w' b r n M left cnt := by
  obtain ⟨D, lf, hr, hd⟩ := h
  exact ⟨D, lf, hr.kept hg h1 h2, hd⟩
theorem OwRg.later {w w' : World} {b r n : Nat} {M : α → Option β} {left : α → Bool} {cnt : Nat} (h : OwRg P kt et kV okK eL w b r n M left cnt) (hb : Below w.heap.size w w') : OwRg P kt et kV okK eL w' b r n M left cnt :=
  h.kept (row := none) ⟨hb.os, hb.tape, hb.output, hb.size, fun i hi _ => hb.block i hi⟩ (by simp) (by simp)
theorem OwRg.left_eq {w : World} {b r n : Nat} {M : α → Option β} {left : α → Bool} {cnt : Nat} (h : OwRg P kt et kV okK eL w b r n M left cnt) : w.rangeLeft b r = cnt := by
  obtain ⟨D, lf, hr, -⟩ := h
  exact hr.left_eq
theorem OwRg.lt {w : World} {b r n : Nat} {M : α → Option β} {left : α → Bool} {cnt : Nat} (h : OwRg P kt et kV okK eL w b r n M left cnt) : r < w.heap.size := by
  obtain ⟨D, lf, hr, -⟩ := h
  exact hr.lt
theorem OwRg.ne {w : World} {b r n g N : Nat} {M : α → Option β} {left : α → Bool} {cnt : Nat} {e : TypeId} {f : Nat → Value} (h : OwRg P kt et kV okK eL w b r n M left cnt) (hB : Blk w g e N f) : g ≠ b ∧ g ≠ r := by
  obtain ⟨D, lf, ⟨es, clock, since, seen, c0, h1, h2, h3, h4, h5, h6⟩, -⟩ := h
  obtain ⟨cur, h7, -⟩ := hB
  constructor
  · rintro rfl
    rw [h1] at h7
    cases h7
  · rintro rfl
    rw [h5] at h7
    cases h7
theorem OwRg.next [DecidableEq α] (T : MTy P t kt et kV okK eV eL okE z) (hinv : ∀ v l, keyOf P kt v = some l → ∃ x, okK x ∧ v = kV x) {w : World} {b r n : Nat} {M : α → Option β} {left : α → Bool} {cnt : Nat} (h : OwRg P kt et kV okK eL w b r n M left cnt) (ty : TypeId) :
    ((∀ x, okK x → left x = false) ∧ (Instr.next (.pointer (some ⟨r, 0, none⟩)) false ty).run P w = .ok (.tuple #[.bool false]) w) ∨
    ∃ x y w' cnt', okK x ∧ left x = true ∧ M x = some y ∧ (Instr.next (.pointer (some ⟨r, 0, none⟩)) false ty).run P w = .ok (.tuple #[.bool true, kV x, eV y]) w' ∧
      OwRg P kt et kV okK eL w' b r n M (fun i => left i && !decide (i = x)) cnt' ∧ cnt' < cnt ∧ w.grownBy w' (some r) ∧ w'.heap.size = w.heap.size ∧ (Instr.entry (.pointer (some ⟨r, 0, none⟩))).run P w' = .ok (.tuple #[kV x, eV y]) w' := by
  obtain ⟨D, lf, hr, hd, hl⟩ := h
  rcases hr.next T.keyed ty with ⟨h0, hf, hrun⟩ | ⟨key, v, kl, y, w', cnt', hk, hlf, hv, hat, hrun, hr', hlt, hg, hs, hent⟩
  · exact .inl ⟨fun x hx => by obtain ⟨l, hkl⟩ := T.key x hx; rw [← hl x hx l hkl]; exact hf l, hrun⟩
  · obtain ⟨x, hx, rfl⟩ := hinv key kl hk
    have h2 := hd x hx kl hk
    cases hM : M x with
    | none =>
      rw [hM] at h2
      have e1 := (hat (.lit (.bool true))).symm.trans (h2 _)
      have e2 := (hat (.lit (.bool false))).symm.trans (h2 _)
      rw [e1] at e2
      cases e2
    | some yy =>
      rw [hM] at h2
      have e1 : y.1 = .lit (eL yy) := (hat .nil).symm.trans (h2 _)
      obtain rfl := T.back v yy y.2 (by rw [hv, ← e1])
      refine .inr ⟨x, yy, w', cnt', hx, by rw [← hl x hx kl hk]; exact hlf, hM, hrun, ⟨D, _, hr', hd, fun i hi l hil => ?_⟩, hlt, hg, hs, hent⟩
      show (lf l && !l.sameKey kl) = (left i && !decide (i = x))
      rw [hl i hi l hil]
      by_cases he : i = x
      · subst he
        rw [hk] at hil
        cases hil
        rw [WideAt.sameKey_self (T.keyed.key hk), decide_eq_true rfl]
      · rw [Go.Maps.sameKey_ne (fun e : l = kl => he (T.inj _ _ (T.keyed.inj hil (by rw [e]; exact hk)))), decide_eq_false he]
end
end Go.Proofs.Lens
namespace Go.Proofs.Ytcklnjjbhngbcaa
open Go.RowKit Go.Proofs.Lens
set_option maxRecDepth 100000 in
theorem lit_inv {d : Nat} {v : Value} {ls : List Lit} (h : Try.prog.keyLits (d + 1) 3 [v] = some ls) : ∃ a : Int, ok64 a ∧ v = .int .i64 a := by
  unfold Program.keyLits at h
  rw [Try.underlying3] at h
  cases v with
  | int q a =>
    dsimp only at h
    split at h
    · rename_i hc
      obtain ⟨rfl, hw⟩ := hc
      have h1 : IntKind.min .i64 = -9223372036854775808 := by decide
      have h2 : IntKind.max .i64 = 9223372036854775807 := by decide
      simp only [Lit.wf, Bool.and_eq_true, decide_eq_true_eq] at hw
      exact ⟨a, by unfold ok64; omega, rfl⟩
    · cases h
  | _ => simp at h
set_option maxRecDepth 100000 in
theorem keyOf2_inv {k : TypeId} {f0 f1 : Field} (hu : Try.prog.underlying k = some (.struct #[f0, f1])) (hc : Try.prog.cellsOf k = 2)
    (t0 : f0.type = 3) (t1 : f1.type = 3) (o0 : f0.offset = 0) (o1 : f1.offset = 1) {v : Value} {l : Lit} (h : keyOf Try.prog k v = some l) : ∃ p, okP p ∧ v = pairV p := by
  obtain ⟨d, hd⟩ : ∃ d, Try.prog.types.size + 1 = d + 2 := ⟨Try.prog.types.size - 1, by
    have : 0 < Try.prog.types.size := of_decide_eq_true (by kernel_rfl)
    omega⟩
  unfold keyOf at h
  rw [hu] at h
  dsimp only at h
  rw [hd] at h
  split at h
  · rename_i hf
    simp only [Bool.and_eq_true] at hf
    obtain ⟨-, hf⟩ := hf
    cases v with
    | agg cs =>
      simp only [Value.formed, hu, hc, beq_iff_eq] at hf
      obtain ⟨ls⟩ := cs
      match ls, hf with
      | [a, b], _ =>
        obtain ⟨ks, hks, -⟩ := Option.map_eq_some_iff.1 h
        rw [show d + 2 = (d + 1) + 1 from rfl] at hks
        unfold Program.keyLits at hks
        rw [hu] at hks
        dsimp only at hks
        split at hks
        · obtain ⟨kk, hkk, -⟩ := Option.map_eq_some_iff.1 hks
          simp only [List.mapM_cons, List.mapM_nil, t0, t1, o0, o1, c_int] at hkk
          obtain ⟨x0, e0, hkk⟩ := Option.bind_eq_some_iff.1 hkk
          obtain ⟨x1, e1, -⟩ := Option.bind_eq_some_iff.1 hkk
          obtain ⟨x1, e1, -⟩ := Option.bind_eq_some_iff.1 e1
          obtain ⟨p, hp, rfl⟩ := lit_inv (d := d) (v := a) e0
          obtain ⟨q, hq, rfl⟩ := lit_inv (d := d) (v := b) e1
          exact ⟨(p, q), ⟨hp, hq⟩, rfl⟩
        · cases hks
    | _ => simp [Value.formed, hu] at hf
  · cases h
set_option maxRecDepth 100000 in
theorem m_spot : MTy Try.prog 159 161 3 pairV okP (fun y : Int => .int .i64 y) (fun y => .int .i64 y) ok64 0 where
  keyed := Go.Maps.Keyed.of_law (deep_law_laid S0.laid (m := 2) (by omega) (of_decide_eq_true (by kernel_rfl)) (by kernel_rfl) (by kernel_rfl))
  und := Try.underlying159
  key x hx := keyOf2 Try.underlying161 (by kernel_rfl) (by decide) (by decide) rfl rfl rfl rfl (by kernel_rfl) hx.1 hx.2
  inj x y h := m_edge.inj x y h
  elem y hy := m_int.elem y hy
  back v y ps h := m_int.back v y ps h
  zero w := m_int.zero w
  zok := m_int.zok
theorem spot_inv (v : Value) (l : Lit) (h : keyOf Try.prog 161 v = some l) : ∃ x, okP x ∧ v = pairV x := keyOf2_inv Try.underlying161 (by kernel_rfl) rfl rfl rfl rfl h
abbrev OwMs (w : World) (b n : Nat) (M : Int × Int → Option Int) : Prop := OwM Try.prog 161 3 pairV okP (fun y => .int .i64 y) w b n M
abbrev OwRs (w : World) (b r n : Nat) (M : Int × Int → Option Int) (left : Int × Int → Bool) (cnt : Nat) : Prop := OwRg Try.prog 161 3 pairV okP (fun y => .int .i64 y) w b r n M left cnt
end Go.Proofs.Ytcklnjjbhngbcaa
