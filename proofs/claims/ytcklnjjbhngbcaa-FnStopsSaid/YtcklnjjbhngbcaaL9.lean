/- What the laws on stops need: worlds that hold two boxes. -/
import Derived.Test.YtcklnjjbhngbcaaL1
import Derived.Test.YtcklnjjbhngbcaaI0
namespace Go.Proofs.Ytcklnjjbhngbcaa
open Go.RowKit Go.Proofs.Lens

/-- W behind w, and two boxes of w's. -/
def Held2 (w : World) (b1 : Nat) (vs1 : List Value) (b2 : Nat) (vs2 : List Value) (W : World) : Prop := Below w.heap.size w W ∧ BoxAt W b1 vs1 ∧ BoxAt W b2 vs2
theorem Held2.next {w W W' : World} {b1 b2 : Nat} {vs1 vs2 : List Value} (h : Held2 w b1 vs1 b2 vs2 W) (hb : Below W.heap.size W W') : Held2 w b1 vs1 b2 vs2 W' := ⟨bl_then h.1 hb, h.2.1.later hb, h.2.2.later hb⟩
theorem held4 {w W W' : World} {a1 a2 a3 a4 : Addr} {v1 v2 v3 v4 : Value} (h : Below w.heap.size w W ∧ W.cell? a1 = some v1 ∧ W.cell? a2 = some v2 ∧ W.cell? a3 = some v3 ∧ W.cell? a4 = some v4) (hb : Below W.heap.size W W') :
    Below w.heap.size w W' ∧ W'.cell? a1 = some v1 ∧ W'.cell? a2 = some v2 ∧ W'.cell? a3 = some v3 ∧ W'.cell? a4 = some v4 :=
  ⟨bl_then h.1 hb, cell_later hb h.2.1, cell_later hb h.2.2.1, cell_later hb h.2.2.2.1, cell_later hb h.2.2.2.2⟩
theorem held4_bl {w W : World} {a1 a2 a3 a4 : Addr} {v1 v2 v3 v4 : Value} (h : Below w.heap.size w W ∧ W.cell? a1 = some v1 ∧ W.cell? a2 = some v2 ∧ W.cell? a3 = some v3 ∧ W.cell? a4 = some v4) : Below w.heap.size w W := h.1
theorem held6 {w W W' : World} {a1 a2 a3 a4 a5 a6 : Addr} {v1 v2 v3 v4 v5 v6 : Value} (h : Below w.heap.size w W ∧ W.cell? a1 = some v1 ∧ W.cell? a2 = some v2 ∧ W.cell? a3 = some v3 ∧ W.cell? a4 = some v4 ∧ W.cell? a5 = some v5 ∧ W.cell? a6 = some v6) (hb : Below W.heap.size W W') :
    Below w.heap.size w W' ∧ W'.cell? a1 = some v1 ∧ W'.cell? a2 = some v2 ∧ W'.cell? a3 = some v3 ∧ W'.cell? a4 = some v4 ∧ W'.cell? a5 = some v5 ∧ W'.cell? a6 = some v6 :=
  ⟨bl_then h.1 hb, cell_later hb h.2.1, cell_later hb h.2.2.1, cell_later hb h.2.2.2.1, cell_later hb h.2.2.2.2.1, cell_later hb h.2.2.2.2.2.1, cell_later hb h.2.2.2.2.2.2⟩
theorem held6_bl {w W : World} {a1 a2 a3 a4 a5 a6 : Addr} {v1 v2 v3 v4 v5 v6 : Value} (h : Below w.heap.size w W ∧ W.cell? a1 = some v1 ∧ W.cell? a2 = some v2 ∧ W.cell? a3 = some v3 ∧ W.cell? a4 = some v4 ∧ W.cell? a5 = some v5 ∧ W.cell? a6 = some v6) : Below w.heap.size w W := h.1
theorem toStop_un (p : PStop) (w : World) : Calls Try.prog 27 #[.agg #[.int .i64 p.kind, .int .i64 p.fn, .int .i64 p.line, .string p.nm]] w fun e w' => e = .returned (.agg #[.int .i64 p.kind, .int .i64 p.fn, .int .i64 p.line, .string p.nm]) ∧ Below w.heap.size w w' := toStop_calls p w
theorem szStop_un (p : PStop) (left : Int) (w : World) (hz : szS p.nm) (h0 : 0 ≤ left) (h1 : left ≤ 1048576) :
    Calls Try.prog 25 #[.agg #[.int .i64 p.kind, .int .i64 p.fn, .int .i64 p.line, .string p.nm], .int .i64 left] w (SzPost left (p.nm.size ≤ 1048576) w) := szStop_calls p left w hz h0 h1
end Go.Proofs.Ytcklnjjbhngbcaa
