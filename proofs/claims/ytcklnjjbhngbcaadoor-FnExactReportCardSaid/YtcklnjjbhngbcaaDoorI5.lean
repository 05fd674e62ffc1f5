/- seek; Into, Over, Out, Before. (Written by I5.py.) -/
import Derived.Test.YtcklnjjbhngbcaaDoorI4
namespace Go.Proofs.YtcklnjjbhngbcaaDoor
open Go.RowKit Go.Proofs.Lens

/-- A task's cell. -/
theorem IsW.at {w : World} {g : Nat} {v1 v2 : Value} {s : PS} {cl : List PFr} {f : Nat → Value} (h : IsW w g v1 v2 s cl f) {i : Int} (h0 : 0 ≤ i) (h1 : i ≤ 100) :
    ∃ p, w.cell? ⟨g, 3 + i.toNat, none⟩ = some (.pointer p) ∧ FrL w p (s.stk i) := by
  obtain ⟨p, e, hl⟩ := h.stk i.toNat (by omega)
  rw [Int.toNat_of_nonneg h0] at hl
  exact ⟨p, (h.blk.cell (by omega)).trans (by rw [e]), hl⟩
theorem igood_cur {t : PTr} {k : Int} (h : goodP t k = true) : Inv (atP t k) (atN t k) := (sound_iff (goodP_true h).1).inv _ (atN_le t k)

/-- What seek asks of moment i. -/
def skQ (t : PTr) (k : Int) (Q : PMom → Int → Int → Bool) (i : Nat) : Bool :=
  decide ((elt t.moms i).kind ≠ 7) && decide ((elt t.moms i).task = (atP t k).cur) && Q (elt t.moms i) ((stN t.moms (i + 1)).stk (atP t k).cur).length ((atP t k).stk (atP t k).cur).length
def Wants (F : Nat) (Q : PMom → Int → Int → Bool) : Prop :=
  ∀ (m : PMom) (Av : Option Addr) (cv : Nat) (a b : Int) (w : World), Calls Tryd.prog F #[.agg #[.int .i64 m.kind, .int .i64 m.task, .int .i64 m.fn, .int .i64 m.line, .string m.text, .slice Av m.vars.length cv], .int .i64 a, .int .i64 b] w
    fun e w' => e = .returned (.bool (Q m a b)) ∧ Below w.heap.size w w'
def intoW (m : PMom) (_ _ : Int) : Bool := m.kind == 1
theorem into_sk (t : PTr) (k : Int) (i : Nat) : skQ t k intoW i = intoQ t k i := by
  unfold skQ intoW intoQ
  grind
def overW (m : PMom) (a b : Int) : Bool := m.kind == 1 && decide (a ≤ b)
theorem over_sk (t : PTr) (k : Int) (i : Nat) : skQ t k overW i = overQ t k i := by
  unfold skQ overW overQ
  grind
def outW (m : PMom) (a b : Int) : Bool := m.kind == 3 && decide (a < b)
theorem out_sk (t : PTr) (k : Int) (i : Nat) : skQ t k outW i = outQ t k i := by
  unfold skQ outW outQ
  grind
end Go.Proofs.YtcklnjjbhngbcaaDoor
