/- The laws' helper eq.. at lists of counts by line: of one datum read twice it answers true. (Written by L14.py.) -/
import Derived.Test.YtcklnjjbhngbcaaL5
import Derived.Test.YtcklnjjbhngbcaaP12
namespace Go.Proofs.Ytcklnjjbhngbcaa
open Go.RowKit Go.Proofs.Lens

def RdLcs (w : World) (v : Value) (xs : List PLc) : Prop := RdSl w 3 xs.length (lcC xs) v
theorem RdLcs.later {w w' : World} {v : Value} {xs : List PLc} (h : RdLcs w v xs) (hb : Below w.heap.size w w') : RdLcs w' v xs := RdSl.later h hb


set_option maxRecDepth 100000 in
set_option maxHeartbeats 400000 in
theorem eqLineCount_calls (p : PLc) (w : World) :
    Calls Try.prog 135 #[.agg #[.int .i64 p.fn, .int .i64 p.line, .int .i64 p.cnt], .agg #[.int .i64 p.fn, .int .i64 p.line, .int .i64 p.cnt]] w fun e w' => e = .returned (.bool true) ∧ Below w.heap.size w w' := by
  go_enter Try.func135, Try.ntmps135
  go_wp2
  go_ret
  exact ⟨rfl, bl_alloc (bl_alloc (Below.refl _ _) _) _⟩


set_option maxRecDepth 100000 in
set_option maxHeartbeats 400000 in
theorem eqLineCounts_calls (v1 v2 : Value) (xs : List PLc) (w : World) (h1 : RdLcs w v1 xs) (h2 : RdLcs w v2 xs) :
    Calls Try.prog 82 #[v1, v2] w fun e w' => e = .returned (.bool true) ∧ Below w.heap.size w w' := by
  have H1 := Lib.hid h1
  have H2 := Lib.hid h2
  obtain ⟨A, c, rfl, hn, hrow⟩ := h1
  obtain ⟨A2, c2, rfl, -, hrow2⟩ := h2
  clear hrow hrow2
  go_enter Try.func82, Try.ntmps82
  go_wp2
  go_loopw [5] (fun i wr => ∃ (k : Nat), k ≤ xs.length ∧ i = .int .i64 k ∧ Below w.heap.size w wr) (fun i _ => xs.length - (intOf i).toNat)
  case atStart => exact ⟨0, Nat.zero_le _, rfl, Below.refl _ _⟩
  case round =>
    obtain ⟨k, hk, rfl, hb⟩ := hrel
    have HL := Lib.hid hb
    by_cases hlt : k < xs.length
    · obtain ⟨A', c', he, _, hrow⟩ := H1.out.later hb
      obtain ⟨rfl, rfl⟩ : A = A' ∧ c = c' := by simpa using he
      obtain ⟨b, o, rfl, hc⟩ := hrow (by omega)
      obtain ⟨A', c', he', _, hrow'⟩ := H2.out.later hb
      obtain ⟨rfl, rfl⟩ : A2 = A' ∧ c2 = c' := by simpa using he'
      obtain ⟨b2, o2, rfl, hc2⟩ := hrow' (by omega)
      have x0 : wr.cell? ⟨b, o + k * 3, none⟩ = some (.int .i64 (elt xs k).fn) := hc k hlt 0 (by omega)
      have x1 : wr.cell? ⟨b, o + k * 3 + 1, none⟩ = some (.int .i64 (elt xs k).line) := hc k hlt 1 (by omega)
      have x2 : wr.cell? ⟨b, o + k * 3 + 2, none⟩ = some (.int .i64 (elt xs k).cnt) := hc k hlt 2 (by omega)
      have y0 : wr.cell? ⟨b2, o2 + k * 3, none⟩ = some (.int .i64 (elt xs k).fn) := hc2 k hlt 0 (by omega)
      have y1 : wr.cell? ⟨b2, o2 + k * 3 + 1, none⟩ = some (.int .i64 (elt xs k).line) := hc2 k hlt 1 (by omega)
      have y2 : wr.cell? ⟨b2, o2 + k * 3 + 2, none⟩ = some (.int .i64 (elt xs k).cnt) := hc2 k hlt 2 (by omega)
      clear hc hc2 he he' hrow hrow' hb
      go_wp2_with fail
      go_still_tail 8, (by kernel_rfl)
      go_wp2_with fail
      refine (eqLineCount_calls (elt xs k) _).mono ?_; rintro e w1 ⟨rfl, hb1⟩
      have HL1 := Lib.hid (bl_then (bl_drew HL.out) hb1)
      clear hb1
      go_wp2
      go_roundw
      case rel => exact ⟨k + 1, by omega, by go_num, HL1.out⟩
      case measure => simp [intOf]; omega
    · clear hb
      go_wp2
      go_ret
      exact ⟨rfl, HL.out⟩

end Go.Proofs.Ytcklnjjbhngbcaa
