/- The laws' helpers eq.. at lists of open calls, counts, branches, numbers: of one datum read twice they answer true. (Written by L7.py.) -/
import Derived.Test.YtcklnjjbhngbcaaL5
namespace Go.Proofs.Ytcklnjjbhngbcaa
open Go.RowKit Go.Proofs.Lens

def RdFcs (w : World) (v : Value) (xs : List PFc) : Prop := RdSl w 4 xs.length (fcRow xs) v
def RdBrs (w : World) (v : Value) (xs : List PBr) : Prop := RdSl w 4 xs.length (brC xs) v
theorem RdFcs.later {w w' : World} {v : Value} {xs : List PFc} (h : RdFcs w v xs) (hb : Below w.heap.size w w') : RdFcs w' v xs := RdSl.later h hb
theorem RdBrs.later {w w' : World} {v : Value} {xs : List PBr} (h : RdBrs w v xs) (hb : Below w.heap.size w w') : RdBrs w' v xs := RdSl.later h hb


set_option maxRecDepth 100000 in
set_option maxHeartbeats 400000 in
theorem eqFrame_calls (p : PFr) (w : World) :
    Calls Try.prog 121 #[.agg #[.int .i64 p.fn, .int .i64 p.line, .int .i64 p.frm], .agg #[.int .i64 p.fn, .int .i64 p.line, .int .i64 p.frm]] w fun e w' => e = .returned (.bool true) ∧ Below w.heap.size w w' := by
  go_enter Try.func121, Try.ntmps121
  go_wp2
  go_ret
  exact ⟨rfl, bl_alloc (bl_alloc (Below.refl _ _) _) _⟩


set_option maxRecDepth 100000 in
set_option maxHeartbeats 400000 in
theorem eqFrames_calls (v1 v2 : Value) (xs : List PFr) (w : World) (h1 : RdFrs w v1 xs) (h2 : RdFrs w v2 xs) :
    Calls Try.prog 59 #[v1, v2] w fun e w' => e = .returned (.bool true) ∧ Below w.heap.size w w' := by
  have H1 := Lib.hid h1
  have H2 := Lib.hid h2
  obtain ⟨A, c, rfl, hn, hrow⟩ := h1
  obtain ⟨A2, c2, rfl, -, hrow2⟩ := h2
  clear hrow hrow2
  go_enter Try.func59, Try.ntmps59
  go_wp2
  go_loopw [5] (fun i wr => ∃ (k : Nat), k ≤ xs.length ∧ i = .int .i64 k ∧ Below w.heap.size w wr) (fun i _ => xs.length - (intOf i).toNat)
  case atStart => exact ⟨0, Nat.zero_le _, rfl, Below.refl _ _⟩
  case round =>
    obtain ⟨k, hk, rfl, hb⟩ := hrel
    have HL := Lib.hid hb
    by_cases hlt : k < xs.length
    · obtain ⟨A', c', he, _, hrow⟩ := H1.out.later hb
      obtain ⟨rfl, rfl⟩ : A = A' ∧ c = c' := by simpa using he
      obtain ⟨b, o, rfl, hc⟩ := hrow (by omega)
      obtain ⟨A', c', he', _, hrow'⟩ := H2.out.later hb
      obtain ⟨rfl, rfl⟩ : A2 = A' ∧ c2 = c' := by simpa using he'
      obtain ⟨b2, o2, rfl, hc2⟩ := hrow' (by omega)
      have x0 : wr.cell? ⟨b, o + k * 3, none⟩ = some (.int .i64 (elt xs k).fn) := hc k hlt 0 (by omega)
      have x1 : wr.cell? ⟨b, o + k * 3 + 1, none⟩ = some (.int .i64 (elt xs k).line) := hc k hlt 1 (by omega)
      have x2 : wr.cell? ⟨b, o + k * 3 + 2, none⟩ = some (.int .i64 (elt xs k).frm) := hc k hlt 2 (by omega)
      have y0 : wr.cell? ⟨b2, o2 + k * 3, none⟩ = some (.int .i64 (elt xs k).fn) := hc2 k hlt 0 (by omega)
      have y1 : wr.cell? ⟨b2, o2 + k * 3 + 1, none⟩ = some (.int .i64 (elt xs k).line) := hc2 k hlt 1 (by omega)
      have y2 : wr.cell? ⟨b2, o2 + k * 3 + 2, none⟩ = some (.int .i64 (elt xs k).frm) := hc2 k hlt 2 (by omega)
      clear hc hc2 he he' hrow hrow' hb
      go_wp2_with fail
      go_still_tail 8, (by kernel_rfl)
      go_wp2_with fail
      refine (eqFrame_calls (elt xs k) _).mono ?_; rintro e w1 ⟨rfl, hb1⟩
      have HL1 := Lib.hid (bl_then (bl_drew HL.out) hb1)
      clear hb1
      go_wp2
      go_roundw
      case rel => exact ⟨k + 1, by omega, by go_num, HL1.out⟩
      case measure => simp [intOf]; omega
    · clear hb
      go_wp2
      go_ret
      exact ⟨rfl, HL.out⟩


set_option maxRecDepth 100000 in
set_option maxHeartbeats 400000 in
theorem eqFnCount_calls (p : PFc) (w : World) :
    Calls Try.prog 124 #[.agg #[.int .i64 p.fn, .int .i64 p.cal, .int .i64 p.slf, .int .i64 p.tot], .agg #[.int .i64 p.fn, .int .i64 p.cal, .int .i64 p.slf, .int .i64 p.tot]] w fun e w' => e = .returned (.bool true) ∧ Below w.heap.size w w' := by
  go_enter Try.func124, Try.ntmps124
  go_wp2
  go_ret
  exact ⟨rfl, bl_alloc (bl_alloc (Below.refl _ _) _) _⟩


set_option maxRecDepth 100000 in
set_option maxHeartbeats 400000 in
theorem eqFnCounts_calls (v1 v2 : Value) (xs : List PFc) (w : World) (h1 : RdFcs w v1 xs) (h2 : RdFcs w v2 xs) :
    Calls Try.prog 64 #[v1, v2] w fun e w' => e = .returned (.bool true) ∧ Below w.heap.size w w' := by
  have H1 := Lib.hid h1
  have H2 := Lib.hid h2
  obtain ⟨A, c, rfl, hn, hrow⟩ := h1
  obtain ⟨A2, c2, rfl, -, hrow2⟩ := h2
  clear hrow hrow2
  go_enter Try.func64, Try.ntmps64
  go_wp2
  go_loopw [5] (fun i wr => ∃ (k : Nat), k ≤ xs.length ∧ i = .int .i64 k ∧ Below w.heap.size w wr) (fun i _ => xs.length - (intOf i).toNat)
  case atStart => exact ⟨0, Nat.zero_le _, rfl, Below.refl _ _⟩
  case round =>
    obtain ⟨k, hk, rfl, hb⟩ := hrel
    have HL := Lib.hid hb
    by_cases hlt : k < xs.length
    · obtain ⟨A', c', he, _, hrow⟩ := H1.out.later hb
      obtain ⟨rfl, rfl⟩ : A = A' ∧ c = c' := by simpa using he
      obtain ⟨b, o, rfl, hc⟩ := hrow (by omega)
      obtain ⟨A', c', he', _, hrow'⟩ := H2.out.later hb
      obtain ⟨rfl, rfl⟩ : A2 = A' ∧ c2 = c' := by simpa using he'
      obtain ⟨b2, o2, rfl, hc2⟩ := hrow' (by omega)
      have x0 : wr.cell? ⟨b, o + k * 4, none⟩ = some (.int .i64 (elt xs k).fn) := hc k hlt 0 (by omega)
      have x1 : wr.cell? ⟨b, o + k * 4 + 1, none⟩ = some (.int .i64 (elt xs k).cal) := hc k hlt 1 (by omega)
      have x2 : wr.cell? ⟨b, o + k * 4 + 2, none⟩ = some (.int .i64 (elt xs k).slf) := hc k hlt 2 (by omega)
      have x3 : wr.cell? ⟨b, o + k * 4 + 3, none⟩ = some (.int .i64 (elt xs k).tot) := hc k hlt 3 (by omega)
      have y0 : wr.cell? ⟨b2, o2 + k * 4, none⟩ = some (.int .i64 (elt xs k).fn) := hc2 k hlt 0 (by omega)
      have y1 : wr.cell? ⟨b2, o2 + k * 4 + 1, none⟩ = some (.int .i64 (elt xs k).cal) := hc2 k hlt 1 (by omega)
      have y2 : wr.cell? ⟨b2, o2 + k * 4 + 2, none⟩ = some (.int .i64 (elt xs k).slf) := hc2 k hlt 2 (by omega)
      have y3 : wr.cell? ⟨b2, o2 + k * 4 + 3, none⟩ = some (.int .i64 (elt xs k).tot) := hc2 k hlt 3 (by omega)
      clear hc hc2 he he' hrow hrow' hb
      go_wp2_with fail
      go_still_tail 8, (by kernel_rfl)
      go_wp2_with fail
      refine (eqFnCount_calls (elt xs k) _).mono ?_; rintro e w1 ⟨rfl, hb1⟩
      have HL1 := Lib.hid (bl_then (bl_drew HL.out) hb1)
      clear hb1
      go_wp2
      go_roundw
      case rel => exact ⟨k + 1, by omega, by go_num, HL1.out⟩
      case measure => simp [intOf]; omega
    · clear hb
      go_wp2
      go_ret
      exact ⟨rfl, HL.out⟩


set_option maxRecDepth 100000 in
set_option maxHeartbeats 400000 in
theorem eqBranch_calls (p : PBr) (w : World) :
    Calls Try.prog 126 #[.agg #[.int .i64 p.fn, .int .i64 p.par, .int .i64 p.cal, .int .i64 p.slf], .agg #[.int .i64 p.fn, .int .i64 p.par, .int .i64 p.cal, .int .i64 p.slf]] w fun e w' => e = .returned (.bool true) ∧ Below w.heap.size w w' := by
  go_enter Try.func126, Try.ntmps126
  go_wp2
  go_ret
  exact ⟨rfl, bl_alloc (bl_alloc (Below.refl _ _) _) _⟩


set_option maxRecDepth 100000 in
set_option maxHeartbeats 400000 in
theorem eqBranchs_calls (v1 v2 : Value) (xs : List PBr) (w : World) (h1 : RdBrs w v1 xs) (h2 : RdBrs w v2 xs) :
    Calls Try.prog 69 #[v1, v2] w fun e w' => e = .returned (.bool true) ∧ Below w.heap.size w w' := by
  have H1 := Lib.hid h1
  have H2 := Lib.hid h2
  obtain ⟨A, c, rfl, hn, hrow⟩ := h1
  obtain ⟨A2, c2, rfl, -, hrow2⟩ := h2
  clear hrow hrow2
  go_enter Try.func69, Try.ntmps69
  go_wp2
  go_loopw [5] (fun i wr => ∃ (k : Nat), k ≤ xs.length ∧ i = .int .i64 k ∧ Below w.heap.size w wr) (fun i _ => xs.length - (intOf i).toNat)
  case atStart => exact ⟨0, Nat.zero_le _, rfl, Below.refl _ _⟩
  case round =>
    obtain ⟨k, hk, rfl, hb⟩ := hrel
    have HL := Lib.hid hb
    by_cases hlt : k < xs.length
    · obtain ⟨A', c', he, _, hrow⟩ := H1.out.later hb
      obtain ⟨rfl, rfl⟩ : A = A' ∧ c = c' := by simpa using he
      obtain ⟨b, o, rfl, hc⟩ := hrow (by omega)
      obtain ⟨A', c', he', _, hrow'⟩ := H2.out.later hb
      obtain ⟨rfl, rfl⟩ : A2 = A' ∧ c2 = c' := by simpa using he'
      obtain ⟨b2, o2, rfl, hc2⟩ := hrow' (by omega)
      have x0 : wr.cell? ⟨b, o + k * 4, none⟩ = some (.int .i64 (elt xs k).fn) := hc k hlt 0 (by omega)
      have x1 : wr.cell? ⟨b, o + k * 4 + 1, none⟩ = some (.int .i64 (elt xs k).par) := hc k hlt 1 (by omega)
      have x2 : wr.cell? ⟨b, o + k * 4 + 2, none⟩ = some (.int .i64 (elt xs k).cal) := hc k hlt 2 (by omega)
      have x3 : wr.cell? ⟨b, o + k * 4 + 3, none⟩ = some (.int .i64 (elt xs k).slf) := hc k hlt 3 (by omega)
      have y0 : wr.cell? ⟨b2, o2 + k * 4, none⟩ = some (.int .i64 (elt xs k).fn) := hc2 k hlt 0 (by omega)
      have y1 : wr.cell? ⟨b2, o2 + k * 4 + 1, none⟩ = some (.int .i64 (elt xs k).par) := hc2 k hlt 1 (by omega)
      have y2 : wr.cell? ⟨b2, o2 + k * 4 + 2, none⟩ = some (.int .i64 (elt xs k).cal) := hc2 k hlt 2 (by omega)
      have y3 : wr.cell? ⟨b2, o2 + k * 4 + 3, none⟩ = some (.int .i64 (elt xs k).slf) := hc2 k hlt 3 (by omega)
      clear hc hc2 he he' hrow hrow' hb
      go_wp2_with fail
      go_still_tail 8, (by kernel_rfl)
      go_wp2_with fail
      refine (eqBranch_calls (elt xs k) _).mono ?_; rintro e w1 ⟨rfl, hb1⟩
      have HL1 := Lib.hid (bl_then (bl_drew HL.out) hb1)
      clear hb1
      go_wp2
      go_roundw
      case rel => exact ⟨k + 1, by omega, by go_num, HL1.out⟩
      case measure => simp [intOf]; omega
    · clear hb
      go_wp2
      go_ret
      exact ⟨rfl, HL.out⟩


set_option maxRecDepth 100000 in
set_option maxHeartbeats 400000 in
theorem eqInts_calls (v1 v2 : Value) (xs : List Int) (w : World) (h1 : RdInts w v1 xs) (h2 : RdInts w v2 xs) :
    Calls Try.prog 72 #[v1, v2] w fun e w' => e = .returned (.bool true) ∧ Below w.heap.size w w' := by
  have H1 := Lib.hid h1
  have H2 := Lib.hid h2
  obtain ⟨A, c, rfl, hn, hrow⟩ := h1
  obtain ⟨A2, c2, rfl, -, hrow2⟩ := h2
  clear hrow hrow2
  go_enter Try.func72, Try.ntmps72
  go_wp2
  go_loopw [5] (fun i wr => ∃ (k : Nat), k ≤ xs.length ∧ i = .int .i64 k ∧ Below w.heap.size w wr) (fun i _ => xs.length - (intOf i).toNat)
  case atStart => exact ⟨0, Nat.zero_le _, rfl, Below.refl _ _⟩
  case round =>
    obtain ⟨k, hk, rfl, hb⟩ := hrel
    have HL := Lib.hid hb
    by_cases hlt : k < xs.length
    · obtain ⟨A', c', he, _, hrow⟩ := H1.out.later hb
      obtain ⟨rfl, rfl⟩ : A = A' ∧ c = c' := by simpa using he
      obtain ⟨b, o, rfl, hc⟩ := hrow (by omega)
      obtain ⟨A', c', he', _, hrow'⟩ := H2.out.later hb
      obtain ⟨rfl, rfl⟩ : A2 = A' ∧ c2 = c' := by simpa using he'
      obtain ⟨b2, o2, rfl, hc2⟩ := hrow' (by omega)
      have x0 : wr.cell? ⟨b, o + k, none⟩ = some (.int .i64 (elt xs k)) := by have := hc k hlt 0 (by omega); simp only [Nat.mul_one, Nat.add_zero] at this; exact this
      have y0 : wr.cell? ⟨b2, o2 + k, none⟩ = some (.int .i64 (elt xs k)) := by have := hc2 k hlt 0 (by omega); simp only [Nat.mul_one, Nat.add_zero] at this; exact this
      clear hc hc2 he he' hrow hrow' hb
      go_wp2_with fail
      go_quiet (fail)
      go_wp2
      go_roundw
      case rel => exact ⟨k + 1, by omega, by go_num, bl_drewN HL.out _⟩
      case measure => simp [intOf]; omega
    · clear hb
      go_wp2
      go_ret
      exact ⟨rfl, HL.out⟩

end Go.Proofs.Ytcklnjjbhngbcaa
