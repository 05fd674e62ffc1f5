/- Maps of whole numbers; what a map's store leaves of the walk. -/
import Derived.Test.YtcklnjjbhngbcaaGreatDoorI3
import Derived.Test.YtcklnjjbhngbcaaGreatDoorB7
import Derived.Test.YtcklnjjbhngbcaaGreatDoorF0
namespace Go.Proofs.YtcklnjjbhngbcaaGreatDoor
open Go.RowKit Go.Proofs.Lens

theorem m_int : MTy Tryz.prog 142 3 3 (fun x : Int => .int .i64 x) ok64 (fun y : Int => .int .i64 y) (fun y => .int .i64 y) ok64 0 where
  keyed := Go.Maps.int_keyed Tryz.underlying3
  und := Tryz.underlying142
  key x hx := ⟨_, Go.Maps.keyOf_int_mk Tryz.underlying3 (wf64 hx)⟩
  inj x y h := by simpa using h
  elem y hy := plainElem_int Tryz.underlying3 (wf64 hy)
  back v y ps h := by
    obtain ⟨a, rfl, h2, _⟩ := plainElem_int_inv Tryz.underlying3 h
    simp only [Prod.mk.injEq, DataW.lit.injEq, Lit.int.injEq, true_and] at h2
    rw [h2.1]
  zero w := by kernel_rfl
  zok := by unfold ok64; omega
abbrev OwMi (w : World) (b n : Nat) (M : Int → Option Int) : Prop := OwM Tryz.prog 3 3 (fun x : Int => .int .i64 x) ok64 (fun y => .int .i64 y) w b n M
theorem IsW.mv {w w' : World} {g lo : Nat} {v1 v2 : Value} {s : PS} {cl : List PFr} {f : Nat → Value} {ts : List TypeId} (h : IsW w g v1 v2 s cl f) (hm : Mv ts lo w w') (h1 : 146 ∉ ts) (h2 : 148 ∉ ts) : IsW w' g v1 v2 s cl f := by
  have hk : ∀ (b N : Nat) (f : Nat → Value), Blk w b 148 N f → w'.heap[b]? = w.heap[b]? := fun b N f hB => by
    obtain ⟨cur, h3, _⟩ := hB
    rw [h3]
    exact hm.kp b _ h3 (fun cur' e' fr' hh => by cases hh; exact h2)
  exact ⟨h.blk.mv hm h1, h.v1, h.v2, h.cur, fun i hi => by obtain ⟨p, a, b⟩ := h.stk i hi; exact ⟨p, a, b.keep hk⟩, by obtain ⟨c, a, b⟩ := h.cl; exact ⟨c, a, b.keep hk⟩⟩
theorem FrL.mv {w w' : World} {lo : Nat} {fs : List PFr} {p : Option Addr} {ts : List TypeId} (h : FrL w p fs) (hm : Mv ts lo w w') (h2 : 148 ∉ ts) : FrL w' p fs :=
  h.keep fun b N f hB => by
    obtain ⟨cur, h3, _⟩ := hB
    rw [h3]
    exact hm.kp b _ h3 (fun cur' e' fr' hh => by cases hh; exact h2)
theorem FrL.gm {w w' : World} {fs : List PFr} {p : Option Addr} {g : Nat} (h : FrL w p fs) (hg : w.grownBy w' (some g)) (hne : ∀ b e N f, Blk w b e N f → b ≠ g) : FrL w' p fs :=
  h.keep fun b N f hB => hg.block b hB.lt (fun hh => hne b _ N f hB (Option.some.inj hh))
theorem IsW.gm {w w' : World} {g gm : Nat} {v1 v2 : Value} {s : PS} {cl : List PFr} {f : Nat → Value} (h : IsW w g v1 v2 s cl f) (hg : w.grownBy w' (some gm)) (hne : ∀ b e N f, Blk w b e N f → b ≠ gm) : IsW w' g v1 v2 s cl f :=
  ⟨h.blk.gm hg (hne _ _ _ _ h.blk), h.v1, h.v2, h.cur, fun i hi => by obtain ⟨p, a, b⟩ := h.stk i hi; exact ⟨p, a, b.gm hg hne⟩, by obtain ⟨c, a, b⟩ := h.cl; exact ⟨c, a, b.gm hg hne⟩⟩

theorem bl_trans3 {lo : Nat} {a b c : World} (h : Below lo a b) (k : Below lo b c) : Below lo a c := ⟨k.os.trans h.os, k.tape.trans h.tape, k.output.trans h.output, Nat.le_trans h.size k.size, fun j hj => (k.block j hj).trans (h.block j hj)⟩
end Go.Proofs.YtcklnjjbhngbcaaGreatDoor
