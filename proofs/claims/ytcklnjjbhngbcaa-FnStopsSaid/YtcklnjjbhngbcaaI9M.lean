/- Merged out of I9, I10, I11, I12. -/
import Derived.RangeFuncNested
import Derived.RangeFuncBound
import Derived.RangeFuncCalls
import Derived.RangeFuncLeaves
import Derived.RangeFuncBox
import Derived.Shelf.Abstract
import Derived.Shelf.RegionOpen
import Derived.WalkKit
import Derived.OwnWalkIn
import Derived.TacticsInMore
import Derived.LoopNIn
import Derived.LoopIn
import Derived.Test.YtcklnjjbhngbcaaI3
import Derived.Test.YtcklnjjbhngbcaaP5
import Derived.Test.YtcklnjjbhngbcaaI7a
import Derived.Test.YtcklnjjbhngbcaaI4
import Derived.Maps.StringElems
namespace Go.Proofs.Ytcklnjjbhngbcaa
open Go.RowKit Go.Proofs.Lens Go.Shelf

attribute [local go_sem] Oper.semAt_some

theorem valP_none {vs : List PVar} {nm : ByteArray} (h : ∀ j, j < vs.length → (elt vs j).nm ≠ nm) : valP vs nm = none := by
  induction vs with
  | nil => rfl
  | cons v r ih =>
    have hr := ih fun j hj => by have := h (j + 1) (by simp; omega); simpa [elt] using this
    have h0 := h 0 (by simp)
    have h0 : v.nm ≠ nm := by simpa [elt] using h0
    simp [valP, hr, h0]
theorem valP_hit {vs : List PVar} {nm : ByteArray} : ∀ {i : Nat}, i < vs.length → (∀ j, i < j → j < vs.length → (elt vs j).nm ≠ nm) → (elt vs i).nm = nm → valP vs nm = some (elt vs i).tx := by
  induction vs with
  | nil => intro i hi; exact absurd hi (by simp)
  | cons v r ih =>
    intro i hi h1 h2
    cases i with
    | zero =>
      have hr : valP r nm = none := valP_none fun j hj => by have := h1 (j + 1) (by omega) (by simp; omega); simpa [elt] using this
      have h2 : v.nm = nm := by simpa [elt] using h2
      simp [valP, hr, h2, elt]
    | succ i =>
      have := ih (i := i) (by simp at hi; omega) (fun j hj hj2 => by have := h1 (j + 1) (by omega) (by simp; omega); simpa [elt] using this) (by simpa [elt] using h2)
      simp [valP, this, elt]

def bkUp (vs : List PVar) (k : Nat) : List (Nat × PVar) := (List.range k).map fun j => (vs.length - 1 - j, elt vs (vs.length - 1 - j))
theorem bkUp_succ (vs : List PVar) (k : Nat) : bkUp vs (k + 1) = bkUp vs k ++ [(vs.length - 1 - k, elt vs (vs.length - 1 - k))] := by simp [bkUp, List.range_succ]
theorem bkUp_len (vs : List PVar) (k : Nat) : (bkUp vs k).length = k := by simp [bkUp]
abbrev bkEnc (x : Nat × PVar) : Array Value := #[.int .i64 (x.1 : Int), .agg #[.string x.2.nm, .string x.2.tx]]

set_option maxRecDepth 100000 in
set_option maxHeartbeats 2000000 in
/-- The closure of slices.Backward, over any body that keeps what lay below n₀. -/
theorem back1_in (F : Fence) (n : Nat) (h7 : F.fn 169) (hro : F.round = none) (hn : 1 ≤ n) (l Bs n₀ cap : Nat) (A : Option Addr) (vs : List PVar) (hsm : vs.length ≤ 9223372036854775807) (hBl : Bs < n₀)
    (J Jx : List (Nat × PVar) → World → Prop)
    (hY : ∀ pre x W, J pre W → pre.length < vs.length → YieldAt F (n - 1) Try.prog l (bkEnc x) W fun e W' =>
      (e = .returned (.bool true) ∧ J (pre ++ [x]) W' ∧ Below n₀ W W') ∨ (e = .returned (.bool false) ∧ Jx (pre ++ [x]) W'))
    (W : World) (hBs : W.cell? ⟨Bs, 0, none⟩ = some (.slice A vs.length cap)) (hc : 0 < vs.length → ∃ b o, A = some ⟨b, o, none⟩ ∧ b < n₀ ∧ ∀ i, i < vs.length → ∀ j, j < 2 → W.cell? ⟨b, o + i * 2 + j, none⟩ = some (varC vs i j)) (h0 : J [] W) :
    CallsIn F n Try.prog 169 #[.func (.yield l) #[] #[], .pointer (some ⟨Bs, 0, none⟩)] W fun e W' => (∃ v, e = .returned v) ∧
      ((∃ ys, ys = bkUp vs vs.length ∧ J ys W') ∨ (∃ pre, (∃ k, k ≤ vs.length ∧ pre = bkUp vs k) ∧ Jx pre W')) := by
  refine callsIn_of_wp Try.func169 rfl h7 ?_ hro
  simp only [Try.ntmps169, List.size_toArray, List.length_cons, List.length_nil, Nat.reduceAdd, Nat.reduceSub, Array.replicate_succ, Array.replicate_zero, List.push_toArray, List.append_toArray, List.nil_append, List.cons_append]
  gi_wp2
  gi_loopw [3] (fun i wr => ∃ k : Nat, k ≤ vs.length ∧ i = .int .i64 ((vs.length : Int) - 1 - k) ∧ J (bkUp vs k) wr ∧ Below n₀ W wr)
    (fun i _ => (intOf i + 1).toNat)
  case atStart => exact ⟨0, Nat.zero_le _, by simp, h0, Below.refl _ _⟩
  case round =>
    obtain ⟨k, hk, rfl, hJs, hnx⟩ := hrel
    have hBs' : wr.cell? ⟨Bs, 0, none⟩ = some (.slice A vs.length cap) := (hnx.cell (p := ⟨Bs, 0, none⟩) hBl).trans hBs
    by_cases hlt : k < vs.length
    · obtain ⟨b, o, rfl, hb, hcs⟩ := hc (by omega)
      obtain ⟨i, hi⟩ : ∃ i, vs.length - 1 - k = i := ⟨_, rfl⟩
      have hil : i < vs.length := by omega
      have c0 : wr.cell? ⟨b, o + i * 2, none⟩ = some (.string (elt vs i).nm) := (hnx.cell (p := ⟨b, o + i * 2, none⟩) hb).trans (hcs i hil 0 (by omega))
      have c1 : wr.cell? ⟨b, o + i * 2 + 1, none⟩ = some (.string (elt vs i).tx) := (hnx.cell (p := ⟨b, o + i * 2 + 1, none⟩) hb).trans (hcs i hil 1 (by omega))
      obtain ⟨fn, tmps, assign, body, hy, hR⟩ := hY _ (i, elt vs i) wr hJs (by rw [bkUp_len]; exact hlt)
      dsimp only [bkEnc] at hy
      have hi2 : (vs.length : Int) - 1 - k = (i : Int) := by omega
      have hil2 : (i : Int) < (vs.length : Int) := by omega
      rw [hi2]
      gi_wp2
      refine hR.mono ?_
      rintro e W3 (⟨rfl, hJ3, hk3⟩ | ⟨rfl, hJx3⟩)
      · gi_wp2
        go_roundw
        case rel => exact ⟨k + 1, by omega, by go_num, by rw [bkUp_succ, hi]; exact hJ3, hnx.trans hk3⟩
        case measure => simp [intOf] <;> omega
      · gi_wp2
        refine bodyPost_ret (results_none rfl _ _ _) rfl ?_
        exact ⟨⟨_, rfl⟩, .inr ⟨_, ⟨k + 1, by omega, by rw [bkUp_succ, hi]⟩, hJx3⟩⟩
    · obtain rfl : k = vs.length := by omega
      have hi2 : (vs.length : Int) - 1 - vs.length = -1 := by omega
      rw [hi2]
      gi_wp2
      go_end0
      exact ⟨⟨_, rfl⟩, .inl ⟨_, rfl, hJs⟩⟩
set_option maxHeartbeats 1000000 in
theorem back_in (F : Fence) (n : Nat) (h5 : F.fn 154) (hro : F.round = none) (a : Option Addr) (len cap : Nat) (w : World) :
    CallsIn F n Try.prog 154 #[.slice a len cap] w fun e w' => e = .returned (.func (.func 169) #[] #[.pointer (some ⟨w.heap.size, 0, none⟩)]) ∧ w' = w.alloc (.cells #[.slice a len cap] 36) := by
  refine callsIn_of_wp Try.func154 rfl h5 ?_ hro
  simp only [Try.ntmps154, List.size_toArray, List.length_cons, List.length_nil, Nat.reduceAdd, Nat.reduceSub, Array.replicate_succ, Array.replicate_zero, List.push_toArray, List.append_toArray, List.nil_append, List.cons_append]
  gi_wp2
  go_ret
  exact ⟨rfl, rfl⟩
theorem back_stops (F : Fence) (n : Nat) (h7 : F.fn 169) (hro : F.round = none) (hn : 1 ≤ n) (Bs cap : Nat) (A : Option Addr) (vs : List PVar) (hsm : vs.length ≤ 9223372036854775807) (w : World) (hBs : Bs < w.heap.size)
    (hc : w.cell? ⟨Bs, 0, none⟩ = some (.slice A vs.length cap)) (hR : RowR w A vs.length 2 (varC vs)) :
    SeqStopsK F n Try.prog 169 #[.pointer (some ⟨Bs, 0, none⟩)] bkEnc (Below w.heap.size) (fun ys => ys = bkUp vs vs.length) (fun pre => ∃ k, k ≤ vs.length ∧ pre = bkUp vs k) vs.length w := fun l J Jx W hW _ _ hY h0 => by
  have hc' := (hW.cell (p := ⟨Bs, 0, none⟩) hBs).trans hc
  refine back1_in F n h7 hro hn l Bs w.heap.size cap A vs hsm hBs J Jx hY W hc' (fun h => ?_) h0
  obtain ⟨b, o, rfl, hcs⟩ := hR h
  have hb : b < w.heap.size := World.block_lt_of_cell? _ _ (hcs 0 h 0 (by omega))
  exact ⟨b, o, rfl, hb, fun i hi j hj => (hW.cell (p := ⟨b, o + i * 2 + j, none⟩) hb).trans (hcs i hi j hj)⟩
set_option maxRecDepth 100000 in
set_option maxHeartbeats 4000000 in
theorem value_in (F : Fence) (n : Nat) (h3 : F.fn 137) (h5 : F.fn 154) (h7 : F.fn 169) (hro : F.round = none) (hn : 3 ≤ n) (m : PMom) (Av : Option Addr) (cv : Nat) (nm : ByteArray) (w : World) (hR : RdVars w (.slice Av m.vars.length cv) m.vars) :
    CallsIn F n Try.prog 137 #[.agg #[.int .i64 m.kind, .int .i64 m.task, .int .i64 m.fn, .int .i64 m.line, .string m.text, .slice Av m.vars.length cv], .string nm] w fun e W' =>
      e = .returned (.tuple #[.string ((valP m.vars nm).getD ⟨#[]⟩), .bool (valP m.vars nm).isSome]) ∧ Below w.heap.size w W' := by
  have h1 : 1 ≤ n := by omega
  refine callsIn_of_wp_marks Try.func137 rfl h3 ?_ hro
  simp only [Try.ntmps137, List.size_toArray, List.length_cons, List.length_nil, Nat.reduceAdd, Nat.reduceSub, Array.replicate_succ, Array.replicate_zero, List.push_toArray, List.append_toArray, List.nil_append, List.cons_append]
  gi_wp2_with (gi_at_call 154; refine (back_in F (n - 1) h5 hro _ _ _ _).mono ?_; rintro e w' ⟨rfl, rfl⟩)
  have bN := (((Boxed.new (w.alloc (.cells #[.int .i64 m.kind, .int .i64 m.task, .int .i64 m.fn, .int .i64 m.line, .string m.text, .slice Av m.vars.length cv] 38)) 9 (.string nm)).alloc (.cells #[.string ⟨#[]⟩] 9)).alloc (.cells #[.bool false] 4)).alloc (.cells #[.slice Av m.vars.length cv] 36)
  have bS := ((Boxed.new ((w.alloc (.cells #[.int .i64 m.kind, .int .i64 m.task, .int .i64 m.fn, .int .i64 m.line, .string m.text, .slice Av m.vars.length cv] 38)).alloc (.cells #[.string nm] 9)) 9 (.string ⟨#[]⟩)).alloc (.cells #[.bool false] 4)).alloc (.cells #[.slice Av m.vars.length cv] 36)
  have bO := (Boxed.new (((w.alloc (.cells #[.int .i64 m.kind, .int .i64 m.task, .int .i64 m.fn, .int .i64 m.line, .string m.text, .slice Av m.vars.length cv] 38)).alloc (.cells #[.string nm] 9)).alloc (.cells #[.string ⟨#[]⟩] 9)) 4 (.bool false)).alloc (.cells #[.slice Av m.vars.length cv] 36)
  have bX := Boxed.new ((((w.alloc (.cells #[.int .i64 m.kind, .int .i64 m.task, .int .i64 m.fn, .int .i64 m.line, .string m.text, .slice Av m.vars.length cv] 38)).alloc (.cells #[.string nm] 9)).alloc (.cells #[.string ⟨#[]⟩] 9)).alloc (.cells #[.bool false] 4)) 36 (.slice Av m.vars.length cv)
  simp only [World.size_alloc] at bN bS bO bX
  have hB0 : Below w.heap.size w (((((w.alloc (.cells #[.int .i64 m.kind, .int .i64 m.task, .int .i64 m.fn, .int .i64 m.line, .string m.text, .slice Av m.vars.length cv] 38)).alloc (.cells #[.string nm] 9)).alloc (.cells #[.string ⟨#[]⟩] 9)).alloc (.cells #[.bool false] 4)).alloc (.cells #[.slice Av m.vars.length cv] 36)) := (by repeat (with_reducible first | exact Below.refl _ _ | exact HL.out | refine bl_drewN ?_ _ | refine bl_drew ?_ | refine bl_alloc ?_ _ | refine bl_set ?_ (by dsimp only; omega) _))
  have hsz : (((((w.alloc (.cells #[.int .i64 m.kind, .int .i64 m.task, .int .i64 m.fn, .int .i64 m.line, .string m.text, .slice Av m.vars.length cv] 38)).alloc (.cells #[.string nm] 9)).alloc (.cells #[.string ⟨#[]⟩] 9)).alloc (.cells #[.bool false] 4)).alloc (.cells #[.slice Av m.vars.length cv] 36)).heap.size = w.heap.size + 5 := by simp
  generalize hW0 : World.alloc (World.alloc (World.alloc (World.alloc (World.alloc w _) _) _) _) _ = W0 at bN bS bO bX hB0 hsz ⊢
  clear hW0
  obtain ⟨a', c', he, hlm, hrow⟩ := hR.later hB0
  obtain ⟨rfl, -, rfl⟩ : Av = a' ∧ m.vars.length = m.vars.length ∧ cv = c' := by simpa using he
  refine wpIn_rangeFunc_ownH hro h1 (gf := 169) (lb := #[.pointer (some ⟨w.heap.size + 1 + 1 + 1 + 1, 0, none⟩)]) rfl h7 (enters_of Try.func169 (by kernel_rfl) rfl)
    (back_stops F (n - 1) h7 hro (by omega) (w.heap.size + 1 + 1 + 1 + 1) cv Av m.vars hlm W0 (by omega) bX.cell hrow) belowK_t (belowK_b (Nat.le_refl _)) (Below.refl _ _) (fun _ => rfl)
    (fun pre W => (((∀ y ∈ pre, y.2.nm ≠ nm) ∧ Boxed W (w.heap.size + 1) 9 (.string nm) ∧ Boxed W (w.heap.size + 1 + 1 + 1 + 1) 36 (.slice Av m.vars.length cv)) ∧ Boxed W (w.heap.size + 1 + 1) 9 (.string ⟨#[]⟩) ∧ Boxed W (w.heap.size + 1 + 1 + 1) 4 (.bool false)) ∧ Below w.heap.size w W)
    (fun c pre W => (c = .ret ∧ ∃ ini last, pre = ini ++ [last] ∧ (∀ y ∈ ini, y.2.nm ≠ nm) ∧ last.2.nm = nm ∧ Boxed W (w.heap.size + 1 + 1) 9 (.string last.2.tx) ∧ Boxed W (w.heap.size + 1 + 1 + 1) 4 (.bool true)) ∧ Below w.heap.size w W)
    (OwnFrom.and (OwnFrom.and (OwnFrom.and (ownFrom_pure _ _) (OwnFrom.and (Own.from (boxed_own _ _ _) _) (Own.from (boxed_own _ _ _) _))) (OwnFrom.and (Own.from (boxed_own _ _ _) _) (Own.from (boxed_own _ _ _) _))) (ownFrom_below (Nat.le_refl _) (by omega)))
    (fun c => OwnFrom.and (fun s X Y row hs hg hr => by
      obtain ⟨hc, ini, last, e1, e2, e3, e4, e5⟩ := hs
      exact ⟨hc, ini, last, e1, e2, e3, boxed_own _ _ (fun (_ : Unit) => Value.string last.2.tx) () X Y row e4 hg (fun r e => (hr r e).2), boxed_own _ _ (fun (_ : Unit) => Value.bool true) () X Y row e5 hg (fun r e => (hr r e).2)⟩) (ownFrom_below (Nat.le_refl _) (by omega)))
    ⟨⟨⟨by simp, bN, bX⟩, bS, bO⟩, hB0⟩
    (fun x a' W => ∃ Bx, w.heap.size + 4 < Bx ∧ W.cell? ⟨Bx, 0, none⟩ = some (.string x.2.nm) ∧ W.cell? ⟨Bx, 1, none⟩ = some (.string x.2.tx) ∧
      a' = { tmps := #[.agg #[.int .i64 m.kind, .int .i64 m.task, .int .i64 m.fn, .int .i64 m.line, .string m.text, .slice Av m.vars.length cv], .string nm, .pointer (some ⟨w.heap.size, 0, none⟩), .pointer (some ⟨w.heap.size + 1, 0, none⟩), .pointer (some ⟨w.heap.size + 1 + 1, 0, none⟩), .pointer (some ⟨w.heap.size + 1 + 1 + 1, 0, none⟩), undef, .pointer (some ⟨Bx, 0, none⟩), .pointer (some ⟨w.heap.size, 5, none⟩), .slice Av m.vars.length cv, .func (.func 169) #[] #[.pointer (some ⟨w.heap.size + 1 + 1 + 1 + 1, 0, none⟩)], .int .i64 (x.1 : Int), .agg #[.string x.2.nm, .string x.2.tx], undef, undef, undef, undef, undef, undef], defers := [] })
    (fun x a' _ X Y row hs hg hr => by
      obtain ⟨Bx, h1, h2, h3, h4⟩ := hs
      exact ⟨Bx, h1, cell_kept h2 hg (fun r e => (hr r e).2), cell_kept h3 hg (fun r e => (hr r e).2), h4⟩)
    ?assign ?body ?done ?stop
  case assign =>
    rintro l pre x W K ⟨⟨⟨hp, bN1, bX1⟩, bS1, bO1⟩, hB1⟩ hK
    have hlt := bX1.lt
    gi_wp2
    exact hK _ _ ((KeepsOthers.alloc _ _).from _) ((Below.refl _ W).alloc (by omega) _) ⟨⟨⟨hp, bN1.alloc _, bX1.alloc _⟩, bS1.alloc _, bO1.alloc _⟩, hB1.alloc hB1.size _⟩ ⟨W.heap.size, by omega, (Blk.made W #[.string x.2.nm, .string x.2.tx] 42).cell (j := 0) (by simp), (Blk.made W #[.string x.2.nm, .string x.2.tx] 42).cell (j := 1) (by simp), rfl⟩
  case body =>
    rintro l pre x a' W hl ⟨r, hr⟩ ⟨⟨⟨hp, bN1, bX1⟩, bS1, bO1⟩, hB1⟩ ⟨Bx, hBx, x0, x1, rfl⟩ hlt
    have cN := bN1.cell
    have cS := bS1.cell
    have fS := bS1.frozen
    have cO := bO1.cell
    have fO := bO1.frozen
    gi_wp2
    · have hx : x.2.nm = nm := by rename_i hx; exact ba_eq (eq_of_beq hx)
      exact ⟨((KeepsOthers.setCell _ _ _).trans (KeepsOthers.setCell _ _ _)).from _, ⟨rfl, pre, x, rfl, hp, hx, (bS1.set _).other (by omega) _, (bO1.other (by omega) _).set _⟩, (hB1.setCell (p := ⟨w.heap.size + 1 + 1, 0, none⟩) (by simp; omega) _).setCell (p := ⟨w.heap.size + 1 + 1 + 1, 0, none⟩) (by simp; omega) _⟩
    · have hx : x.2.nm ≠ nm := by rename_i hx; exact fun hh => by rw [hh] at hx; simp at hx
      exact ⟨KeepsFrom.refl _ _, Below.refl _ _, ⟨⟨fun y hy => (List.mem_append.1 hy).elim (hp y) (fun e => by simp at e; subst e; exact hx), bN1, bX1⟩, bS1, bO1⟩, hB1⟩
  case done =>
    rintro D ys W hD rfl ⟨⟨⟨hne, _⟩, bS1, bO1⟩, hB⟩ hK
    have cS := bS1.cell
    have fS := bS1.frozen
    have cO := bO1.cell
    have fO := bO1.frozen
    gi_wp2
    have hK' := ((KeepsOthers.setCell W ⟨w.heap.size + 1 + 1, 0, none⟩ (.string ⟨#[]⟩)).trans (KeepsOthers.setCell _ ⟨w.heap.size + 1 + 1 + 1, 0, none⟩ (.bool false))).same D _ hK rfl
    refine ⟨by simp, .inl ⟨_, _, rfl, run_takeDeferred hK', ?_⟩⟩
    have hc5 := cell_kept ((bS1.set (.string ⟨#[]⟩)).other (B' := w.heap.size + 1 + 1 + 1) (by omega) (.bool false)).cell (grownBy_putObj' _ D (.deferred none)) (fun r e => by cases e; exact ⟨_, hK', rfl⟩)
    have hc6 := cell_kept ((bO1.other (B' := w.heap.size + 1 + 1) (by omega) (.string ⟨#[]⟩)).set (.bool false)).cell (grownBy_putObj' _ D (.deferred none)) (fun r e => by cases e; exact ⟨_, hK', rfl⟩)
    have hv : valP m.vars nm = none := valP_none fun j hj => hne (j, elt m.vars j) (by
      simp only [bkUp, List.mem_map, List.mem_range]
      exact ⟨m.vars.length - 1 - j, by omega, by rw [show m.vars.length - 1 - (m.vars.length - 1 - j) = j by omega]⟩)
    refine ⟨.tuple #[.string ⟨#[]⟩, .bool false], ?_, by rw [hv]; rfl, ((hB.setCell (p := ⟨w.heap.size + 1 + 1, 0, none⟩) (by simp; omega) _).setCell (p := ⟨w.heap.size + 1 + 1 + 1, 0, none⟩) (by simp; omega) _).trans (belowK_b (w := w) (Nat.le_refl _) _ D _ _ (by omega) hK' rfl rfl)⟩
    simp [results, Try.f137, go_sem, hc5, hc6]
  case stop =>
    rintro D c pre W hD ⟨k, hk, rfl⟩ ⟨⟨rfl, ini, last, e1, e2, e3, bS1, bO1⟩, hB⟩ hK
    gi_wp2
    refine ⟨by simp, .inl ⟨_, _, rfl, run_takeDeferred hK, ?_⟩⟩
    have hc5 := cell_kept bS1.cell (grownBy_putObj' _ D (.deferred none)) (fun r e => by cases e; exact ⟨_, hK, rfl⟩)
    have hc6 := cell_kept bO1.cell (grownBy_putObj' _ D (.deferred none)) (fun r e => by cases e; exact ⟨_, hK, rfl⟩)
    obtain ⟨k', rfl⟩ : ∃ k', k = k' + 1 := by
      cases k with
      | zero => simp [bkUp] at e1
      | succ k' => exact ⟨k', rfl⟩
    rw [bkUp_succ] at e1
    obtain ⟨rfl, e5⟩ := List.append_inj' e1 rfl
    obtain rfl : (m.vars.length - 1 - k', elt m.vars (m.vars.length - 1 - k')) = last := by simpa using e5
    have hv := valP_hit (vs := m.vars) (nm := nm) (i := m.vars.length - 1 - k') (by omega) (fun j hj hj2 => e2 (j, elt m.vars j) (by
      simp only [bkUp, List.mem_map, List.mem_range]
      exact ⟨m.vars.length - 1 - j, by omega, by rw [show m.vars.length - 1 - (m.vars.length - 1 - j) = j by omega]⟩)) e3
    refine ⟨.tuple #[.string (elt m.vars (m.vars.length - 1 - k')).tx, .bool true], ?_, by rw [hv]; rfl, hB.trans (belowK_b (w := w) (Nat.le_refl _) W D _ _ (by omega) hK rfl rfl)⟩
    simp [results, Try.f137, go_sem, hc5, hc6]
theorem value_calls (m : PMom) (Av : Option Addr) (cv : Nat) (nm : ByteArray) (w : World) (hR : RdVars w (.slice Av m.vars.length cv) m.vars) :
    Calls Try.prog 137 #[.agg #[.int .i64 m.kind, .int .i64 m.task, .int .i64 m.fn, .int .i64 m.line, .string m.text, .slice Av m.vars.length cv], .string nm] w fun e W' =>
      e = .returned (.tuple #[.string ((valP m.vars nm).getD ⟨#[]⟩), .bool (valP m.vars nm).isSome]) ∧ Below w.heap.size w W' :=
  callsIn_wide.1 (value_in Fence.wide 3 trivial trivial trivial rfl (Nat.le_refl _) m Av cv nm w hR)
end Go.Proofs.Ytcklnjjbhngbcaa

namespace Go.Proofs.Ytcklnjjbhngbcaa
open Go.RowKit Go.Proofs.Lens

theorem m_str : MTy Try.prog 166 3 9 (fun x : Int => .int .i64 x) ok64 (fun y : ByteArray => .string y) (fun y => .string y.data.toList) (fun y => y.size ≤ maxLen) ⟨#[]⟩ where
  keyed := Go.Maps.int_keyed Try.underlying3
  und := Try.underlying166
  key x hx := ⟨_, Go.Maps.keyOf_int_mk Try.underlying3 (wf64 hx)⟩
  inj x y h := by simpa using h
  elem y hy := Go.plainElem_string Try.underlying9 hy
  back v y ps h := by
    obtain ⟨s, rfl, h2, _⟩ := Go.plainElem_string_inv Try.underlying9 h
    simp only [Prod.mk.injEq, DataW.lit.injEq, Lit.string.injEq] at h2
    rw [Go.WideShapes.bytes_inj h2.1]
  zero w := by kernel_rfl
  zok := by decide
abbrev OwMs (w : World) (b n : Nat) (M : Int → Option ByteArray) : Prop := OwM Try.prog 3 9 (fun x : Int => .int .i64 x) ok64 (fun y : ByteArray => .string y.data.toList) w b n M

/-- A list of frames, told by its head. -/
def ShPost (w : World) (L : List PFr) (e : Ending) (w' : World) : Prop := ∃ p, e = .returned (.pointer p) ∧ FrL w' p L ∧ Below w.heap.size w w'
set_option maxRecDepth 100000 in
set_option maxHeartbeats 2000000 in
theorem shown_calls (g : Nat) (v1 v2 : Value) (s : PS) (cl L : List PFr) (f : Nat → Value) (w : World) (h : IsW w g v1 v2 s cl f) (h0 : 0 ≤ s.cur) (h1 : s.cur ≤ 100) (hL : (cl = [] → L = s.top) ∧ (cl ≠ [] → L = cl)) :
    Calls Try.prog 136 #[.pointer (some ⟨g, 0, none⟩)] w (ShPost w L) := by
  obtain ⟨c, ec, hc⟩ := h.cl
  obtain ⟨hL1, hL2⟩ := hL
  have xc : w.cell? ⟨g, 104, none⟩ = some (.pointer c) := (h.blk.cell (by omega)).trans (by rw [ec])
  cases cl with
  | nil =>
    obtain rfl : c = none := hc
    obtain rfl : L = s.top := hL1 rfl
    obtain ⟨p, cp, hl⟩ := h.top h0 h1
    have cc : w.cell? ⟨g, 2, none⟩ = some (.int .i64 s.cur) := (h.blk.cell (by omega)).trans (by rw [h.cur])
    have hcx : s.cur < 101 := by omega
    have HL := Lib.hid hl
    clear h hL1 hL2 hl ec
    go_enter Try.func136, Try.ntmps136
    go_upto_region 3 with fail
    go_quiet (fail)
    go_wp2
    go_ret
    exact ⟨_, rfl, HL.out.later (bl_drewN (Below.refl _ _) _), bl_drewN (Below.refl _ _) _⟩
  | cons fr r =>
    obtain rfl : L = fr :: r := hL2 (by simp)
    have HL := Lib.hid hc
    obtain ⟨b, nx, rfl, -, -⟩ := hc
    clear h hL1 hL2 ec
    go_enter Try.func136, Try.ntmps136
    go_wp2
    go_ret
    exact ⟨_, rfl, HL.out, Below.refl _ _⟩
/-- What the program's walk shows behind moment n. -/
theorem shown_list {t : PTr} (h : Sound t) {n : Nat} (hn : n < t.moms.length) :
    (closedP (stN t.moms n) (elt t.moms n) = [] → (shownS t.moms n).top = (stN t.moms (n + 1)).top) ∧ (closedP (stN t.moms n) (elt t.moms n) ≠ [] → (shownS t.moms n).top = closedP (stN t.moms n) (elt t.moms n)) := by
  unfold closedP shownS
  by_cases k3 : (elt t.moms n).kind = 3
  · rw [if_pos k3, if_pos k3]
    exact ⟨fun hh => absurd hh (chk_ne (h.moves n hn) (.inr k3)), fun _ => rfl⟩
  · rw [if_neg k3, if_neg k3]
    exact ⟨fun _ => rfl, fun hh => absurd rfl hh⟩
theorem shown_some {ms : List PMom} {n : Nat} {f : PFr} {r : List PFr} (h : (shownS ms n).top = f :: r) : shownP ms n = some ((shownS ms n).cur, f) := by unfold shownP; rw [h]
theorem shown_none {ms : List PMom} {n : Nat} (h : (shownS ms n).top = []) : shownP ms n = none := by unfold shownP; rw [h]

def hdC (ms : List PMom) (s : PStop) (i _j : Nat) : Value := .bool (holdsP ms s i)
def hdN (ms : List PMom) (s : PStop) (n i _j : Nat) : Value := .bool (decide (i < n) && holdsP ms s i)
theorem hdN_set {w : World} {lo b cap n N : Nat} {ms : List PMom} {s : PStop} {u : Bool} (h : OwR w lo 4 1 N (hdN ms s n) (.slice (some ⟨b, 0, none⟩) N cap)) (hn : n < N) (hu : holdsP ms s n = u) :
    OwR (w.setCell ⟨b, n, none⟩ (.bool u)) lo 4 1 N (hdN ms s (n + 1)) (.slice (some ⟨b, 0, none⟩) N cap) := by
  have := h.set (C' := hdN ms s (n + 1)) (i0 := n) (j0 := 0) (u := .bool u) hn (by omega) (fun i j hi hj hne => by
    unfold hdN
    have : i ≠ n := by omega
    have e : decide (i < n + 1) = decide (i < n) := by by_cases h1 : i < n <;> simp [h1] <;> omega
    rw [e]) (by unfold hdN; simp [hu])
  simpa using this
theorem hdN_skip {w : World} {lo n N : Nat} {ms : List PMom} {s : PStop} {v : Value} (h : OwR w lo 4 1 N (hdN ms s n) v) (hu : holdsP ms s n = false) : OwR w lo 4 1 N (hdN ms s (n + 1)) v :=
  h.congr fun i hi j hj => by
    unfold hdN
    by_cases h1 : i = n
    · rw [h1, hu]; simp
    · have e : decide (i < n + 1) = decide (i < n) := by by_cases h2 : i < n <;> simp [h2] <;> omega
      rw [e]
/-- What the program's two maps hold. -/
structure WatOk (ms : List PMom) (s : PStop) (n : Nat) (L : Int → Option ByteArray) (H : Int → Option Int) : Prop where
  wat : s.kind = 3 → L = watN ms s.nm s.fn n
  had : ∀ x, ((H x).getD 0 = 0 ↔ L x = none) ∧ 0 ≤ (H x).getD 0 ∧ (H x).getD 0 ≤ n
theorem watOk0 (ms : List PMom) (s : PStop) : WatOk ms s 0 (fun _ => none) (fun _ => none) := ⟨fun _ => rfl, fun x => by simp⟩
theorem WatOk.skip {ms : List PMom} {s : PStop} {n : Nat} {L : Int → Option ByteArray} {H : Int → Option Int} (h : WatOk ms s n L H) (hk : s.kind = 3 → watN ms s.nm s.fn (n + 1) = watN ms s.nm s.fn n) : WatOk ms s (n + 1) L H :=
  ⟨fun k => by rw [hk k]; exact h.wat k, fun x => by have := h.had x; refine ⟨this.1, this.2.1, by omega⟩⟩
theorem WatOk.put {ms : List PMom} {s : PStop} {n : Nat} {L : Int → Option ByteArray} {H : Int → Option Int} {tk : Int} {f : PFr} {tx : ByteArray} (h : WatOk ms s n L H) (hs : shownP ms n = some (tk, f)) (hv : valP (elt ms n).vars s.nm = some tx) (hf : f.fn = s.fn) :
    WatOk ms s (n + 1) (setM L f.frm tx) (setM H f.frm ((H f.frm).getD 0 + 1)) := by
  refine ⟨fun k => ?_, fun x => ?_⟩
  · funext x
    simp only [watN, watStep, hs, hv]
    unfold setM
    rw [h.wat k]
    by_cases hx : x = f.frm
    · rw [if_pos hx, if_pos ⟨hf, hx⟩]
    · rw [if_neg hx, if_neg (fun hh => hx hh.2)]
  · have h1 := h.had x
    have h2 := h.had f.frm
    unfold setM
    by_cases hx : x = f.frm
    · rw [if_pos hx, if_pos hx]
      simp only [Option.getD_some]
      refine ⟨⟨fun hh => by omega, fun hh => by cases hh⟩, by omega, by omega⟩
    · rw [if_neg hx, if_neg hx]
      exact ⟨h1.1, h1.2.1, by omega⟩
theorem mom_valP {t : PTr} (hsm : smTr t) {n : Nat} (hn : n < t.moms.length) {nm tx : ByteArray} (h : valP (elt t.moms n).vars nm = some tx) : tx.size ≤ 1048576 := by
  obtain ⟨-, -, h2⟩ := hsm
  obtain ⟨-, -, h3⟩ := h2 n hn
  generalize (elt t.moms n).vars = vs at h h3
  induction vs with
  | nil => cases h
  | cons v r ih =>
    have h30 := h3 0 (by simp)
    simp only [valP] at h
    cases hr : valP r nm with
    | some x =>
      rw [hr] at h
      cases h
      exact ih hr fun i hi => by have := h3 (i + 1) (by simp; omega); simpa [elt] using this
    | none =>
      rw [hr] at h
      simp only at h
      split at h
      · cases h
        have : smVar v := by simpa [elt] using h30
        exact this.2
      · cases h
theorem stopOk_kind {s : PStop} (h : stopOk s = true) : (s.kind = 1 ∨ s.kind = 2 ∨ s.kind = 3 ∨ s.kind = 4) ∧ 0 ≤ s.fn ∧ s.fn ≤ 299 := by
  unfold stopOk at h
  simp only [Bool.and_eq_true] at h
  obtain ⟨h1, h2⟩ := h
  refine ⟨?_, (inB_true.1 h1)⟩
  by_cases k1 : s.kind = 1
  · exact .inl k1
  by_cases k2 : s.kind = 2
  · exact .inr (.inl k2)
  by_cases k3 : s.kind = 3
  · exact .inr (.inr (.inl k3))
  by_cases k4 : s.kind = 4
  · exact .inr (.inr (.inr k4))
  rw [if_neg k1, if_neg k2, if_neg k3, if_neg k4] at h2
  cases h2
set_option maxRecDepth 100000 in
set_option maxHeartbeats 8000000 in
theorem holds_calls (v1 v2 : Value) (t : PTr) (s : PStop) (w : World) (h : RdTr w v1 v2 t) (hsm : smTr t) (hs : soundP t = true) (hst : stopOk s = true) :
    Calls Try.prog 88 #[.agg #[v1, v2], stopV s] w (OwRet w 4 1 t.moms.length (hdC t.moms s)) := by
  have HT := Lib.hid h
  have HS := Lib.hid hsm
  obtain ⟨⟨A1, c1, rfl, hn1, -⟩, ⟨vv, ⟨A2, c2, rfl, hn2, -⟩, -⟩⟩ := h
  have hso := sound_iff hs
  obtain ⟨nf0, nf1, nm1⟩ := sound_fns hso
  have SO := Lib.hid hso
  obtain ⟨hkd, hf0, hf1⟩ := stopOk_kind hst
  obtain ⟨C, hC, hc, hmk⟩ := make_law (P := Try.prog) 101 4 Try.underlying101 i_bool t.moms.length (by omega) (by omega)
  have hmm := @run_makeMap Try.prog
  have HC := Lib.hid hC
  have Hc := Lib.hid hc
  have HKD := Lib.hid hkd
  unfold stopV
  clear hs hsm hso hC hc hst hkd
  go_enter Try.func88, Try.ntmps88
  go_upto_region 2 with fail
  generalize hW : World.alloc (World.alloc w _) _ = W
  have hX : Blk W w.heap.size 35 2 (fun j => #[Value.slice A1 t.fns.length c1, .slice A2 t.moms.length c2].getD j undef) := by rw [← hW]; exact (Blk.made w #[.slice A1 t.fns.length c1, .slice A2 t.moms.length c2] 35).later (by repeat (with_reducible first | exact Below.refl _ _ | exact HL.out | refine bl_drewN ?_ _ | refine bl_drew ?_ | refine bl_alloc ?_ _ | refine bl_set ?_ (by dsimp only; omega) _))
  have hS : Blk W (w.heap.size + 1) 27 4 (fun j => #[Value.int .i64 s.kind, .int .i64 s.fn, .int .i64 s.line, .string s.nm].getD j undef) := by
    rw [← hW]
    have := Blk.made (w.alloc (.cells #[.slice A1 t.fns.length c1, .slice A2 t.moms.length c2] 35)) #[.int .i64 s.kind, .int .i64 s.fn, .int .i64 s.line, .string s.nm] 27
    rw [World.size_alloc] at this
    exact this
  have hB : Below w.heap.size w W := by rw [← hW]; exact (by repeat (with_reducible first | exact Below.refl _ _ | exact HL.out | refine bl_drewN ?_ _ | refine bl_drew ?_ | refine bl_alloc ?_ _ | refine bl_set ?_ (by dsimp only; omega) _))
  have hsz : W.heap.size = w.heap.size + 1 + 1 := by rw [← hW]; simp
  clear hW
  have hO : OwR (W.alloc (.cells C 4)) W.heap.size 4 1 t.moms.length (hdN t.moms s 0) (.slice (some ⟨W.heap.size, 0, none⟩) t.moms.length t.moms.length) :=
    OwR.made HC.out Hc.out (by rfl) (by simp only [maxLen]; omega) _ (fun i hi j hj => by
      obtain rfl : j = 0 := by omega
      simp only [hdN, Nat.not_lt_zero, decide_false, Bool.false_and]
      rfl)
  rw [hsz] at hO
  have hX2 := hX.alloc (.cells C 4)
  have hS2 := hS.alloc (.cells C 4)
  have hB2 := bl_alloc hB (.cells C 4)
  generalize hW1 : W.alloc (.cells C 4) = W1 at hO hX2 hS2 hB2 ⊢
  have hs1 : W1.heap.size = w.heap.size + 1 + 1 + 1 := by rw [← hW1]; simp; omega
  have hM : OwMs (W1.alloc (.map #[] 0)) W1.heap.size 0 (fun _ => none) := OwM.made W1
  have hN : OwMi ((W1.alloc (.map #[] 0)).alloc (.map #[] 0)) (W1.heap.size + 1) 0 (fun _ => none) := by
    have := @OwM.made Int Int Try.prog 3 3 (fun x : Int => .int .i64 x) ok64 (fun y => .int .i64 y) (W1.alloc (.map #[] 0))
    rw [World.size_alloc] at this
    exact this
  rw [hs1] at hM hN
  have hbl : Below W1.heap.size W1 ((W1.alloc (.map #[] 0)).alloc (.map #[] 0)) := bl_alloc (bl_alloc (Below.refl _ _) _) _
  have HO := Lib.hid (hO.later hbl)
  have HX := Lib.hid (hX2.later hbl)
  have HSB := Lib.hid (hS2.later hbl)
  have HB := Lib.hid (bl_then hB2 hbl)
  have HM := Lib.hid (hM.later (bl_alloc (Below.refl _ _) (.map #[] 0)))
  have HN := Lib.hid hN
  clear hW1 hO hX2 hS2 hB2 hX hS hB hM hN hbl
  go_upto_region 4 with fail
  generalize World.alloc (World.alloc W1 _) _ = W2 at *
  have x0 : W2.cell? ⟨w.heap.size, 0, none⟩ = some (.slice A1 t.fns.length c1) := HX.out.cell (j := 0) (by simp)
  have x1 : W2.cell? ⟨w.heap.size, 1, none⟩ = some (.slice A2 t.moms.length c2) := HX.out.cell (j := 1) (by simp)
  generalize hgo : w.heap.size + 1 + 1 = go at *
  go_wp2_with fail
  refine (newWalk_calls _ _ _).mono ?_; rintro e w2 ⟨g, f, rfl, hW, hgs, hb⟩
  have HW := Lib.hid hW
  have HGS : Hid (go < g) := Lib.hid (by have := HO.out.blt; omega)
  replace HM := Lib.hid (HM.out.later hb)
  replace HN := Lib.hid (HN.out.later hb)
  clear hW hgs x0 x1
  replace HB := Lib.hid (bl_then HB.out hb); replace HX := Lib.hid (HX.out.later hb); replace HO := Lib.hid (HO.out.later hb); replace HSB := Lib.hid (HSB.out.later hb); clear hb
  have x1 : w2.cell? ⟨w.heap.size, 1, none⟩ = some (.slice A2 t.moms.length c2) := HX.out.cell (j := 1) (by simp)
  go_wp2_with fail
  clear x1
  go_loopw [25] (fun i wr => ∃ (n mn hn : Nat) (cl : List PFr) (f : Nat → Value) (L : Int → Option ByteArray) (H : Int → Option Int), n ≤ t.moms.length ∧ i = .int .i64 n ∧
    IsW wr g (.slice A1 t.fns.length c1) (.slice A2 t.moms.length c2) (stN t.moms n) cl f ∧
    OwR wr go 4 1 t.moms.length (hdN t.moms s n) (.slice (some ⟨go, 0, none⟩) t.moms.length t.moms.length) ∧
    OwMs wr (go + 1) mn L ∧ mn ≤ n ∧ OwMi wr (go + 1 + 1) hn H ∧ hn ≤ n ∧ WatOk t.moms s n L H ∧ Below w.heap.size w wr ∧
    Blk wr w.heap.size 35 2 (fun j => #[Value.slice A1 t.fns.length c1, .slice A2 t.moms.length c2].getD j undef) ∧
    Blk wr (w.heap.size + 1) 27 4 (fun j => #[Value.int .i64 s.kind, .int .i64 s.fn, .int .i64 s.line, .string s.nm].getD j undef)) (fun i _ => t.moms.length - (intOf i).toNat)
  case atStart => exact ⟨0, 0, 0, [], f, _, _, Nat.zero_le _, rfl, HW.out, HO.out, HM.out, Nat.le_refl _, HN.out, Nat.le_refl _, watOk0 _ _, HB.out, HX.out, HSB.out⟩
  case round =>
    obtain ⟨n, mn, hn, cl, f, L, H, hnn, rfl, hW, hO, hM, hmn, hN, hhn, hwt, hB, hX, hSB⟩ := hrel
    clear HW HO HB HX HM HN HSB
    have HW := Lib.hid hW
    have HO := Lib.hid hO
    have HB := Lib.hid hB
    have HX := Lib.hid hX
    have HM := Lib.hid hM
    have HN := Lib.hid hN
    have HSB := Lib.hid hSB
    have HWT := Lib.hid hwt
    clear hW hO hB hX hM hN hSB hwt
    by_cases h2 : n < t.moms.length
    · obtain ⟨b, o, vk, hA, d0, d1, d2, d3, d4, d5, hvk⟩ := rd_moment HT.out.2 h2
      replace d0 := cell_later HB.out d0
      replace d1 := cell_later HB.out d1
      replace d2 := cell_later HB.out d2
      replace d3 := cell_later HB.out d3
      replace d4 := cell_later HB.out d4
      replace d5 := cell_later HB.out d5
      have HVK := Lib.hid hvk
      obtain ⟨Av, cv, rfl, -⟩ := hvk
      subst hA
      go_upto_region 8 with fail
      have HMB : Hid (Blk (wr.alloc _) wr.heap.size 38 6 _) := Lib.hid (Blk.made wr #[.int .i64 (elt t.moms n).kind, .int .i64 (elt t.moms n).task, .int .i64 (elt t.moms n).fn, .int .i64 (elt t.moms n).line, .string (elt t.moms n).text, .slice Av (elt t.moms n).vars.length cv] 38)
      generalize hW2 : World.alloc wr _ = W3 at HMB ⊢
      have hbl : Below wr.heap.size wr W3 := by rw [← hW2]; exact bl_alloc (Below.refl _ _) _
      have hmb : w.heap.size + 1 < wr.heap.size := HSB.out.lt
      have hgob : go < wr.heap.size := HO.out.blt.2
      clear hW2 d0 d1 d2 d3 d4 d5
      have HI := Lib.hid (SO.out.inv n hnn)
      replace HM := Lib.hid (HM.out.later hbl)
      replace HN := Lib.hid (HN.out.later hbl)
      replace HB := Lib.hid (bl_then HB.out hbl); replace HX := Lib.hid (HX.out.later hbl); replace HO := Lib.hid (HO.out.later hbl); replace HW := Lib.hid (HW.out.later hbl); replace HSB := Lib.hid (HSB.out.later hbl); clear hbl
      go_wp2_with fail
      refine (step_calls g _ _ _ _ _ t.moms n t.fns.length _ HW.out (HT.out.2.later HB.out) h2 HI.out (SO.out.moms n h2) (SO.out.moves n h2)).mono ?_
      rintro e w3 ⟨rfl, ⟨f', hW3⟩, hgb⟩
      have hmv : Mv [110] w.heap.size W3 w3 := (Mv.refl _ _ _).grown HB.out.size hgb (fun b hb => by cases hb; exact ⟨by have := HGS.out; omega, _, _, _, HW.out.blk, by decide⟩)
      replace HMB := Lib.hid (HMB.out.mv hmv (by decide))
      replace HX := Lib.hid (HX.out.mv hmv (by decide))
      replace HSB := Lib.hid (HSB.out.mv hmv (by decide))
      replace HO := Lib.hid (HO.out.mv hmv (by decide))
      replace HM := Lib.hid (HM.out.mv hmv)
      replace HN := Lib.hid (HN.out.mv hmv)
      replace HB := Lib.hid (bl_grown HB.out hgb (by have := HGS.out; omega))
      clear HW
      have HW := Lib.hid hW3
      clear hmv hW3 hgb
      have y0 : w3.cell? ⟨wr.heap.size, 0, none⟩ = some (.int .i64 (elt t.moms n).kind) := HMB.out.cell (j := 0) (by simp)
      have y1 : w3.cell? ⟨wr.heap.size, 1, none⟩ = some (.int .i64 (elt t.moms n).task) := HMB.out.cell (j := 1) (by simp)
      have y2 : w3.cell? ⟨wr.heap.size, 2, none⟩ = some (.int .i64 (elt t.moms n).fn) := HMB.out.cell (j := 2) (by simp)
      have y3 : w3.cell? ⟨wr.heap.size, 3, none⟩ = some (.int .i64 (elt t.moms n).line) := HMB.out.cell (j := 3) (by simp)
      have y4 : w3.cell? ⟨wr.heap.size, 4, none⟩ = some (.string (elt t.moms n).text) := HMB.out.cell (j := 4) (by simp)
      have y5 : w3.cell? ⟨wr.heap.size, 5, none⟩ = some (.slice Av (elt t.moms n).vars.length cv) := HMB.out.cell (j := 5) (by simp)
      have s0 : w3.cell? ⟨w.heap.size + 1, 0, none⟩ = some (.int .i64 s.kind) := HSB.out.cell (j := 0) (by simp)
      have s1 : w3.cell? ⟨w.heap.size + 1, 1, none⟩ = some (.int .i64 s.fn) := HSB.out.cell (j := 1) (by simp)
      have s2 : w3.cell? ⟨w.heap.size + 1, 2, none⟩ = some (.int .i64 s.line) := HSB.out.cell (j := 2) (by simp)
      have s3 : w3.cell? ⟨w.heap.size + 1, 3, none⟩ = some (.string s.nm) := HSB.out.cell (j := 3) (by simp)
      have z2 := HO.out.free n
      have z3 : w3.cell? ⟨go, n, none⟩ = some (.bool false) := by
        have := HO.out.cells h2 (j := 0) (by omega)
        simpa [hdN] using this
      have h2' : (n : Int) < (t.moms.length : Int) := by omega
      by_cases k3 : s.kind = 3
      · have hq1 : (s.kind == 1) = false := by simp [k3]
        have hq2 : (s.kind == 2) = false := by simp [k3]
        have hq4 : (s.kind == 4) = false := by simp [k3]
        have hq3 : (s.kind == 3) = true := by simp [k3]
        have HK3 := Lib.hid k3
        clear k3
        have HMV : Hid ((wr.heap.size : Nat) < w3.heap.size) := Lib.hid HMB.out.lt
        have HSI := SO.out.inv (n + 1) (by omega)
        have HSL := Lib.hid (shown_list SO.out h2)
        have HRV : Hid (RdVars w3 (.slice Av (elt t.moms n).vars.length cv) (elt t.moms n).vars) := Lib.hid (HVK.out.later HB.out)
        clear y0 y1 y2 y3 y4 y5 s0 s1 s2 s3 z2 z3
        obtain ⟨LL, hLL⟩ : ∃ LL, (shownS t.moms n).top = LL := ⟨_, rfl⟩
        rw [hLL] at HSL
        have HLL := Lib.hid hLL
        clear hLL
        have s0 : w3.cell? ⟨w.heap.size + 1, 0, none⟩ = some (.int .i64 s.kind) := HSB.out.cell (j := 0) (by simp)
        go_wp2_with fail
        refine (shown_calls g _ _ _ _ LL _ _ HW.out HSI.lo HSI.hi HSL.out).mono ?_
        rintro e w4 ⟨pp, rfl, hl, hb⟩
        clear HSI HSL s0
        have HFL := Lib.hid hl
        replace HM := Lib.hid (HM.out.later hb)
        replace HN := Lib.hid (HN.out.later hb)
        clear hl
        replace HB := Lib.hid (bl_then HB.out hb); replace HX := Lib.hid (HX.out.later hb); replace HO := Lib.hid (HO.out.later hb); replace HW := Lib.hid (HW.out.later hb); replace HSB := Lib.hid (HSB.out.later hb); replace HMB := Lib.hid (HMB.out.later hb); replace HRV := Lib.hid (HRV.out.later hb); clear hb
        have y0 : w4.cell? ⟨wr.heap.size, 0, none⟩ = some (.int .i64 (elt t.moms n).kind) := HMB.out.cell (j := 0) (by simp)
        have y1 : w4.cell? ⟨wr.heap.size, 1, none⟩ = some (.int .i64 (elt t.moms n).task) := HMB.out.cell (j := 1) (by simp)
        have y2 : w4.cell? ⟨wr.heap.size, 2, none⟩ = some (.int .i64 (elt t.moms n).fn) := HMB.out.cell (j := 2) (by simp)
        have y3 : w4.cell? ⟨wr.heap.size, 3, none⟩ = some (.int .i64 (elt t.moms n).line) := HMB.out.cell (j := 3) (by simp)
        have y4 : w4.cell? ⟨wr.heap.size, 4, none⟩ = some (.string (elt t.moms n).text) := HMB.out.cell (j := 4) (by simp)
        have y5 : w4.cell? ⟨wr.heap.size, 5, none⟩ = some (.slice Av (elt t.moms n).vars.length cv) := HMB.out.cell (j := 5) (by simp)
        have s3 : w4.cell? ⟨w.heap.size + 1, 3, none⟩ = some (.string s.nm) := HSB.out.cell (j := 3) (by simp)
        go_wp2_with fail
        refine (value_calls (elt t.moms n) Av cv s.nm _ HRV.out).mono ?_
        rintro e w5 ⟨rfl, hb⟩
        replace HM := Lib.hid (HM.out.later hb)
        replace HN := Lib.hid (HN.out.later hb)
        clear y0 y1 y2 y3 y4 y5 s3 HMB HRV
        replace HFL := Lib.hid (HFL.out.later hb)
        replace HB := Lib.hid (bl_then HB.out hb); replace HX := Lib.hid (HX.out.later hb); replace HO := Lib.hid (HO.out.later hb); replace HW := Lib.hid (HW.out.later hb); replace HSB := Lib.hid (HSB.out.later hb); clear hb
        have s1 : w5.cell? ⟨w.heap.size + 1, 1, none⟩ = some (.int .i64 s.fn) := HSB.out.cell (j := 1) (by simp)
        obtain ⟨vo, hvo⟩ : ∃ vo, valP (elt t.moms n).vars s.nm = vo := ⟨_, rfl⟩
        have HVO := Lib.hid hvo
        rw [hvo]
        clear hvo
        go_upto_region 19 with fail
        cases LL with
        | nil =>
          obtain rfl : pp = none := HFL.out
          have HWN : Hid (watN t.moms s.nm s.fn (n + 1) = watN t.moms s.nm s.fn n) := Lib.hid (by funext x; simp only [watN, watStep, shown_none HLL.out])
          have HH : Hid (holdsP t.moms s n = false) := Lib.hid (by unfold holdsP; rw [if_neg (by have := HK3.out; omega), if_neg (by have := HK3.out; omega), if_pos HK3.out, shown_none HLL.out]; rfl)
          cases vo
          all_goals
            dsimp only [Option.getD_none, Option.getD_some, Option.isSome_none, Option.isSome_some]
            go_quiet (fail)
            generalize hW6 : World.drewN w5 _ = w6
            have hbl : Below w5.heap.size w5 w6 := by rw [← hW6]; exact bl_drewN (Below.refl _ _) _
            clear hW6
            replace HM := Lib.hid (HM.out.later hbl)
            replace HN := Lib.hid (HN.out.later hbl)
            replace HB := Lib.hid (bl_then HB.out hbl); replace HX := Lib.hid (HX.out.later hbl); replace HO := Lib.hid (HO.out.later hbl); replace HW := Lib.hid (HW.out.later hbl); replace HSB := Lib.hid (HSB.out.later hbl); clear hbl
            go_wp2
            go_roundw
            case rel =>
              refine ⟨n + 1, mn, hn, closedP (stN t.moms n) (elt t.moms n), f', L, H, by omega, by go_num, HW.out, hdN_skip HO.out HH.out, HM.out, by omega, HN.out, by omega, HWT.out.skip (fun _ => HWN.out), HB.out, HX.out, HSB.out⟩
            case measure => simp [intOf]; omega
        | cons fr r =>
          have hfl := HFL.out
          obtain ⟨bf, nx, rfl, hBf, -⟩ := hfl
          have u0 : w5.cell? ⟨bf, 0, none⟩ = some (.int .i64 fr.fn) := hBf.cell (j := 0) (by omega)
          have HBF := Lib.hid hBf
          have HSH := Lib.hid (shown_some HLL.out)
          clear hBf HFL
          obtain ⟨q1, hq1'⟩ : ∃ q1, (fr.fn == s.fn) = q1 := ⟨_, rfl⟩
          have hq1n : (fr.fn != s.fn) = !q1 := by rw [bne, hq1']
          cases vo with
          | none =>
            have HWN : Hid (watN t.moms s.nm s.fn (n + 1) = watN t.moms s.nm s.fn n) := Lib.hid (by funext x; simp only [watN, watStep, HSH.out, HVO.out])
            have HH : Hid (holdsP t.moms s n = false) := Lib.hid (by unfold holdsP; rw [if_neg (by have := HK3.out; omega), if_neg (by have := HK3.out; omega), if_pos HK3.out, HSH.out, HVO.out]; rfl)
            dsimp only [Option.getD_none, Option.getD_some, Option.isSome_none, Option.isSome_some]
            cases q1
            all_goals
              simp only [Bool.not_true, Bool.not_false] at hq1n
              go_quiet (fail)
              generalize hW6 : World.drewN w5 _ = w6
              have hbl : Below w5.heap.size w5 w6 := by rw [← hW6]; exact bl_drewN (Below.refl _ _) _
              clear hW6
              replace HM := Lib.hid (HM.out.later hbl)
              replace HN := Lib.hid (HN.out.later hbl)
              replace HB := Lib.hid (bl_then HB.out hbl); replace HX := Lib.hid (HX.out.later hbl); replace HO := Lib.hid (HO.out.later hbl); replace HW := Lib.hid (HW.out.later hbl); replace HSB := Lib.hid (HSB.out.later hbl); clear hbl
              go_wp2
              go_roundw
              case rel =>
                refine ⟨n + 1, mn, hn, closedP (stN t.moms n) (elt t.moms n), f', L, H, by omega, by go_num, HW.out, hdN_skip HO.out HH.out, HM.out, by omega, HN.out, by omega, HWT.out.skip (fun _ => HWN.out), HB.out, HX.out, HSB.out⟩
              case measure => simp [intOf]; omega
          | some tx =>
            dsimp only [Option.getD_none, Option.getD_some, Option.isSome_none, Option.isSome_some]
            have HF : Hid ((fr.fn == s.fn) = q1) := Lib.hid hq1'
            cases q1 with
            | false =>
              simp only [Bool.not_false] at hq1n
              have hne : fr.fn ≠ s.fn := by have := HF.out; simpa using this
              have HWN : Hid (watN t.moms s.nm s.fn (n + 1) = watN t.moms s.nm s.fn n) := Lib.hid (by
                funext x
                simp only [watN, watStep, HSH.out, HVO.out]
                rw [if_neg (fun hh => hne hh.1)])
              have HH : Hid (holdsP t.moms s n = false) := Lib.hid (by unfold holdsP; rw [if_neg (by have := HK3.out; omega), if_neg (by have := HK3.out; omega), if_pos HK3.out, HSH.out, HVO.out]; simp [watHit, hne])
              clear hne
              go_quiet (fail)
              generalize hW6 : World.drewN w5 _ = w6
              have hbl : Below w5.heap.size w5 w6 := by rw [← hW6]; exact bl_drewN (Below.refl _ _) _
              clear hW6
              replace HM := Lib.hid (HM.out.later hbl)
              replace HN := Lib.hid (HN.out.later hbl)
              replace HB := Lib.hid (bl_then HB.out hbl); replace HX := Lib.hid (HX.out.later hbl); replace HO := Lib.hid (HO.out.later hbl); replace HW := Lib.hid (HW.out.later hbl); replace HSB := Lib.hid (HSB.out.later hbl); clear hbl
              go_wp2
              go_roundw
              case rel =>
                refine ⟨n + 1, mn, hn, closedP (stN t.moms n) (elt t.moms n), f', L, H, by omega, by go_num, HW.out, hdN_skip HO.out HH.out, HM.out, by omega, HN.out, by omega, HWT.out.skip (fun _ => HWN.out), HB.out, HX.out, HSB.out⟩
              case measure => simp [intOf]; omega
            | true =>
              simp only [Bool.not_true] at hq1n
              go_quiet (fail)
              generalize hW6 : World.drewN w5 _ = w6
              have hbl : Below w5.heap.size w5 w6 := by rw [← hW6]; exact bl_drewN (Below.refl _ _) _
              clear hW6
              replace HM := Lib.hid (HM.out.later hbl)
              replace HN := Lib.hid (HN.out.later hbl)
              have heq : fr.fn = s.fn := by have := HF.out; simpa using this
              replace HBF := Lib.hid (HBF.out.later hbl)
              replace HB := Lib.hid (bl_then HB.out hbl); replace HX := Lib.hid (HX.out.later hbl); replace HO := Lib.hid (HO.out.later hbl); replace HW := Lib.hid (HW.out.later hbl); replace HSB := Lib.hid (HSB.out.later hbl); clear hbl
              have okf : ok64 fr.frm := by
                unfold ok64
                rcases SO.out.shown h2 HSH.out with ⟨hh, -⟩ | ⟨j, hh, hj, -⟩ <;> omega
              have u2 : w6.cell? ⟨bf, 2, none⟩ = some (.int .i64 fr.frm) := HBF.out.cell (j := 2) (by omega)
              obtain ⟨hw1, hw2, hw3⟩ := HWT.out.had fr.frm
              obtain ⟨hh, hhh⟩ : ∃ hh, (H fr.frm).getD 0 = hh := ⟨_, rfl⟩
              have HHH := Lib.hid hhh
              obtain ⟨u, hu⟩ : ∃ u, (L fr.frm).getD ⟨#[]⟩ = u := ⟨_, rfl⟩
              have hlk1 := HN.out.look m_int okf
              have hlk2 := HM.out.look m_str okf
              rw [hhh] at hlk1
              rw [hu] at hlk2
              replace hlk1 : (Instr.lookup 106 (.map (some (go + 1 + 1))) (.int .i64 fr.frm) false).run Try.prog w6 = .ok (.int .i64 hh) w6 := hlk1
              replace hlk2 : (Instr.lookup 166 (.map (some (go + 1))) (.int .i64 fr.frm) false).run Try.prog w6 = .ok (.string u) w6 := hlk2
              have HH : Hid (holdsP t.moms s n = ((hh == 0) || !(u.toList == tx.toList))) := Lib.hid (by
                unfold holdsP
                rw [if_neg (by have := HK3.out; omega), if_neg (by have := HK3.out; omega), if_pos HK3.out, HSH.out, HVO.out, ba_beq]
                rw [hhh] at hw1
                unfold watHit
                dsimp only
                rw [← HWT.out.wat HK3.out]
                cases hl : L fr.frm with
                | none =>
                  rw [hl] at hw1
                  have : hh = 0 := hw1.2 rfl
                  simp [heq, this]
                | some u' =>
                  rw [hl] at hw1 hu
                  have : ¬ hh = 0 := fun hx => by cases hw1.1 hx
                  obtain rfl : u' = u := hu
                  simp [heq, this])
              have HEQ := Lib.hid heq
              have z2 := HO.out.free n
              have z3 : w6.cell? ⟨go, n, none⟩ = some (.bool false) := by
                have := HO.out.cells h2 (j := 0) (by omega)
                simpa [hdN] using this
              rw [hhh] at hw2 hw3
              clear heq hhh hw1 hu u0 s1
              generalize hb1 : (hh == 0) = b1 at HH
              generalize hb2 : (u.toList == tx.toList) = b2 at HH
              have hh4 : hh ≤ 3000 := by omega
              have okh : ok64 (hh + 1) := by unfold ok64; omega
              have oktx : tx.size ≤ maxLen := by have := mom_valP HS.out h2 HVO.out; simp only [maxLen]; omega
              go_upto_region 20 with fail
              cases b1 <;> cases b2
              all_goals
                go_upto_region 21 with fail
                generalize hW7 : World.setCell w6 _ _ = w7
                have hset : Mv [4] w.heap.size w6 w7 := by rw [← hW7]; exact (Mv.refl [4] w.heap.size w6).setO HO.out (by omega) (by decide) n _
                have hO7 : OwR w7 go 4 1 t.moms.length (hdN t.moms s (n + 1)) (.slice (some ⟨go, 0, none⟩) t.moms.length t.moms.length) := by rw [← hW7]; exact hdN_set HO.out h2 HH.out
                have hW7 := HW.out.mv hset (by decide) (by decide)
                have hX7 := HX.out.mv hset (by decide)
                have hS7 := HSB.out.mv hset (by decide)
                have hM7 := HM.out.mv hset
                have hN7 := HN.out.mv hset
                have hB7 := bl_trans3 HB.out hset.bl
                have hBF7 := HBF.out.mv hset (by decide)
                clear HO HW HX HSB HM HN HB HBF hset z2 z3 hlk1 hlk2 u2
                have hlk3 := hN7.look m_int okf
                rw [HHH.out] at hlk3
                replace hlk3 : (Instr.lookup 106 (.map (some (go + 1 + 1))) (.int .i64 fr.frm) false).run Try.prog w7 = .ok (.int .i64 hh) w7 := hlk3
                obtain ⟨w8, hup1, hN8, hg8⟩ := OwM.update m_int hN7 okf (y := hh + 1) okh (by simp only [maxLen]; omega)
                replace hup1 : (Instr.mapUpdate 106 (.map (some (go + 1 + 1))) (.int .i64 fr.frm) (.int .i64 (hh + 1))).run Try.prog w7 = .ok () w8 := hup1
                have hnem := fun b' e N f' (hBk : Blk w7 b' e N f') => hN7.ne hBk
                have hO8 := hO7.grown hg8 (fun b' hb' hh => by obtain ⟨N, F, hBk⟩ := hO7.block hb'; exact hnem _ _ _ _ hBk (Option.some.inj hh).symm)
                have hW8 := hW7.gm hg8 hnem
                have hX8 := hX7.gm hg8 (hnem _ _ _ _ hX7)
                have hS8 := hS7.gm hg8 (hnem _ _ _ _ hS7)
                have hBF8 := hBF7.gm hg8 (hnem _ _ _ _ hBF7)
                have hM8 := hM7.kept hg8 (fun hh => by have := Option.some.inj hh; omega)
                have hB8 := bl_grown hB7 hg8 (by omega)
                have u7 : w7.cell? ⟨bf, 2, none⟩ = some (.int .i64 fr.frm) := hBF7.cell (j := 2) (by omega)
                have u8 : w8.cell? ⟨bf, 2, none⟩ = some (.int .i64 fr.frm) := hBF8.cell (j := 2) (by omega)
                obtain ⟨w9, hup2, hM9, hg9⟩ := OwM.update m_str hM8 okf (y := tx) oktx (by simp only [maxLen]; omega)
                replace hup2 : (Instr.mapUpdate 166 (.map (some (go + 1))) (.int .i64 fr.frm) (.string tx)).run Try.prog w8 = .ok () w9 := hup2
                have hnem9 := fun b' e N f' (hBk : Blk w8 b' e N f') => hM8.ne hBk
                have HO := Lib.hid (hO8.grown hg9 (fun b' hb' hh => by obtain ⟨N, F, hBk⟩ := hO8.block hb'; exact hnem9 _ _ _ _ hBk (Option.some.inj hh).symm))
                have HW := Lib.hid (hW8.gm hg9 hnem9)
                have HX := Lib.hid (hX8.gm hg9 (hnem9 _ _ _ _ hX8))
                have HSB := Lib.hid (hS8.gm hg9 (hnem9 _ _ _ _ hS8))
                have HN := Lib.hid (hN8.kept hg9 (fun hh => by have := Option.some.inj hh; omega))
                have HB := Lib.hid (bl_grown hB8 hg9 (by omega))
                have HM := Lib.hid hM9
                clear hO7 hW7 hX7 hS7 hM7 hN7 hB7 hBF7 hN8 hg8 hnem hO8 hW8 hX8 hS8 hBF8 hM8 hB8 hM9 hg9 hnem9
                go_wp2
                go_roundw
                case rel =>
                  refine ⟨n + 1, mn + 1, hn + 1, closedP (stN t.moms n) (elt t.moms n), f', setM L fr.frm tx, setM H fr.frm (hh + 1), by omega, by go_num, HW.out, HO.out, HM.out, by omega, HN.out, by omega, ?_, HB.out, HX.out, HSB.out⟩
                  rw [← HHH.out]
                  exact HWT.out.put HSH.out HVO.out HEQ.out
                case measure => simp [intOf]; omega
      · have hq3 : (s.kind == 3) = false := by simp [k3]
        have HK3 := Lib.hid k3
        clear y1 y4 y5 s3
        by_cases k1 : s.kind = 1
        · have hq1 : (s.kind == 1) = true := by simp [k1]
          have HH : Hid (holdsP t.moms s n = (((elt t.moms n).kind == 1) && ((elt t.moms n).fn == s.fn) && ((elt t.moms n).line == s.line))) := Lib.hid (by unfold holdsP; rw [if_pos k1, Bool.beq_eq_decide_eq, Bool.beq_eq_decide_eq, Bool.beq_eq_decide_eq])
          generalize hk1 : ((elt t.moms n).kind == 1) = r1 at HH
          generalize hk2 : ((elt t.moms n).fn == s.fn) = r2 at HH
          generalize hk3 : ((elt t.moms n).line == s.line) = r3 at HH
          clear k1 k3
          cases r1 <;> cases r2 <;> cases r3
          all_goals
            go_wp2
            go_roundw
            case rel =>
              have hset := (Mv.refl [4] w.heap.size w3).setO HO.out (by omega) (by decide) n (.bool (holdsP t.moms s n))
              have hO2 := hdN_set HO.out h2 rfl
              rw [HH.out] at hset hO2
              refine ⟨n + 1, mn, hn, closedP (stN t.moms n) (elt t.moms n), f', L, H, by omega, by go_num, HW.out.mv hset (by decide) (by decide), hO2, HM.out.mv hset, by omega, HN.out.mv hset, by omega, HWT.out.skip (fun hk => absurd hk HK3.out), bl_trans3 HB.out hset.bl, HX.out.mv hset (by decide), HSB.out.mv hset (by decide)⟩
            case measure => simp [intOf]; omega
        · have hq1 : (s.kind == 1) = false := by simp [k1]
          by_cases k2 : s.kind = 2
          · have hq2 : (s.kind == 2) = true := by simp [k2]
            have HH : Hid (holdsP t.moms s n = (((elt t.moms n).kind == 2) && ((elt t.moms n).fn == s.fn))) := Lib.hid (by unfold holdsP; rw [if_neg k1, if_pos k2, Bool.beq_eq_decide_eq, Bool.beq_eq_decide_eq])
            generalize hk1 : ((elt t.moms n).kind == 2) = r1 at HH
            generalize hk2 : ((elt t.moms n).fn == s.fn) = r2 at HH
            clear k1 k2 k3
            cases r1 <;> cases r2
            all_goals
              go_wp2
              go_roundw
              case rel =>
                have hset := (Mv.refl [4] w.heap.size w3).setO HO.out (by omega) (by decide) n (.bool (holdsP t.moms s n))
                have hO2 := hdN_set HO.out h2 rfl
                rw [HH.out] at hset hO2
                refine ⟨n + 1, mn, hn, closedP (stN t.moms n) (elt t.moms n), f', L, H, by omega, by go_num, HW.out.mv hset (by decide) (by decide), hO2, HM.out.mv hset, by omega, HN.out.mv hset, by omega, HWT.out.skip (fun hk => absurd hk HK3.out), bl_trans3 HB.out hset.bl, HX.out.mv hset (by decide), HSB.out.mv hset (by decide)⟩
              case measure => simp [intOf]; omega
          · have hq2 : (s.kind == 2) = false := by simp [k2]
            have hq4 : (s.kind == 4) = true := by have := HKD.out; simp; omega
            have HH : Hid (holdsP t.moms s n = ((elt t.moms n).kind == 4)) := Lib.hid (by unfold holdsP; rw [if_neg k1, if_neg k2, if_neg k3, Bool.beq_eq_decide_eq])
            generalize hk1 : ((elt t.moms n).kind == 4) = r1 at HH
            clear k1 k2 k3
            cases r1
            all_goals
              go_wp2
              go_roundw
              case rel =>
                have hset := (Mv.refl [4] w.heap.size w3).setO HO.out (by omega) (by decide) n (.bool (holdsP t.moms s n))
                have hO2 := hdN_set HO.out h2 rfl
                rw [HH.out] at hset hO2
                refine ⟨n + 1, mn, hn, closedP (stN t.moms n) (elt t.moms n), f', L, H, by omega, by go_num, HW.out.mv hset (by decide) (by decide), hO2, HM.out.mv hset, by omega, HN.out.mv hset, by omega, HWT.out.skip (fun hk => absurd hk HK3.out), bl_trans3 HB.out hset.bl, HX.out.mv hset (by decide), HSB.out.mv hset (by decide)⟩
              case measure => simp [intOf]; omega
    · obtain rfl : n = t.moms.length := by omega
      go_wp2
      go_ret
      refine ⟨_, rfl, ?_, HB.out⟩
      exact (HO.out.lower (by omega)).congr fun i hi j hj => by simp [hdN, hdC, hi]
end Go.Proofs.Ytcklnjjbhngbcaa

namespace Go.Proofs.Ytcklnjjbhngbcaa
open Go.RowKit Go.Proofs.Lens

theorem impl_StopOk_is (p : PStop) (w : World) {b : Bool} (h : stopOk p = b) : Calls Try.prog 28 #[stopV p] w fun e w' => e = .returned (.bool b) ∧ Below w.heap.size w w' := h ▸ impl_StopOk_calls p w
theorem impl_StopOk_un (p : PStop) (w : World) {b : Bool} (h : stopOk p = b) : Calls Try.prog 28 #[.agg #[.int .i64 p.kind, .int .i64 p.fn, .int .i64 p.line, .string p.nm]] w fun e w' => e = .returned (.bool b) ∧ Below w.heap.size w w' := impl_StopOk_is p w h
theorem holds_un (v1 v2 : Value) (t : PTr) (s : PStop) (w : World) (h : RdTr w v1 v2 t) (hsm : smTr t) (hs : soundP t = true) (hst : stopOk s = true) :
    Calls Try.prog 88 #[.agg #[v1, v2], .agg #[.int .i64 s.kind, .int .i64 s.fn, .int .i64 s.line, .string s.nm]] w (OwRet w 4 1 t.moms.length (hdC t.moms s)) := holds_calls v1 v2 t s w h hsm hs hst
set_option maxRecDepth 100000 in
set_option maxHeartbeats 2000000 in
theorem impl_StopsAt_calls (v1 v2 : Value) (t : PTr) (s : PStop) (k : Int) (w : World) (h : RdTr w v1 v2 t) (hsm : smTr t) :
    Calls Try.prog 56 #[.agg #[v1, v2], stopV s, .int .i64 k] w fun e w' => e = .returned (.bool (stopsAtP t s k)) ∧ Below w.heap.size w w' := by
  have HT := Lib.hid h
  have HS := Lib.hid hsm
  obtain ⟨⟨A1, c1, rfl, hn1, -⟩, ⟨vv, ⟨A2, c2, rfl, hn2, -⟩, -⟩⟩ := h
  have hsz := hsm.2.1
  clear hsm
  unfold stopV
  cases hs : soundP t with
  | false =>
    have HR : Hid (stopsAtP t s k = false) := Lib.hid (by unfold stopsAtP; rw [hs]; rfl)
    have HQ := Lib.hid hs
    clear hs
    go_enter Try.func56, Try.ntmps56
    go_wp2_with fail
    refine (sound_is _ _ t _ (HT.out.later (by repeat (with_reducible first | exact Below.refl _ _ | exact HL.out | refine bl_drewN ?_ _ | refine bl_drew ?_ | refine bl_alloc ?_ _ | refine bl_set ?_ (by dsimp only; omega) _))) HS.out HQ.out).mono ?_; rintro e w1 ⟨rfl, hb⟩
    have HB := Lib.hid (bl_then (bl_alloc (bl_alloc (Below.refl _ w) _) _) hb)
    clear hb
    go_wp2
    go_ret
    exact ⟨by rw [HR.out]; rfl, HB.out⟩
  | true =>
    have HQ := Lib.hid hs
    cases hst : stopOk s with
    | false =>
      have HR : Hid (stopsAtP t s k = false) := Lib.hid (by unfold stopsAtP; rw [hs, hst]; rfl)
      have HP := Lib.hid hst
      clear hs hst
      go_enter Try.func56, Try.ntmps56
      go_wp2_with fail
      refine (sound_is _ _ t _ (HT.out.later (by repeat (with_reducible first | exact Below.refl _ _ | exact HL.out | refine bl_drewN ?_ _ | refine bl_drew ?_ | refine bl_alloc ?_ _ | refine bl_set ?_ (by dsimp only; omega) _))) HS.out HQ.out).mono ?_; rintro e w1 ⟨rfl, hb⟩
      have HB := Lib.hid (bl_then (bl_alloc (bl_alloc (Below.refl _ w) _) _) hb)
      have HX := Lib.hid (((Blk.made w #[.slice A1 t.fns.length c1, .slice A2 t.moms.length c2] 35).alloc (.cells #[.int .i64 s.kind, .int .i64 s.fn, .int .i64 s.line, .string s.nm] 27)).later hb)
      have hY := (Blk.made (w.alloc (.cells #[.slice A1 t.fns.length c1, .slice A2 t.moms.length c2] 35)) #[.int .i64 s.kind, .int .i64 s.fn, .int .i64 s.line, .string s.nm] 27).later hb
      rw [World.size_alloc] at hY
      have HY := Lib.hid hY
      clear hb hY
      have y0 : w1.cell? ⟨w.heap.size + 1, 0, none⟩ = some (.int .i64 s.kind) := HY.out.cell (j := 0) (by simp)
      have y1 : w1.cell? ⟨w.heap.size + 1, 1, none⟩ = some (.int .i64 s.fn) := HY.out.cell (j := 1) (by simp)
      have y2 : w1.cell? ⟨w.heap.size + 1, 2, none⟩ = some (.int .i64 s.line) := HY.out.cell (j := 2) (by simp)
      have y3 : w1.cell? ⟨w.heap.size + 1, 3, none⟩ = some (.string s.nm) := HY.out.cell (j := 3) (by simp)
      go_wp2_with fail
      refine (impl_StopOk_un s _ HP.out).mono ?_; rintro e w2 ⟨rfl, hb⟩
      replace HB := Lib.hid (bl_then HB.out hb); clear hb
      go_wp2
      go_ret
      exact ⟨by rw [HR.out]; rfl, HB.out⟩
    | true =>
      have HR : Hid (stopsAtP t s k = (inB k 0 ((t.moms.length : Int) - 1) && holdsP t.moms s k.toNat)) := Lib.hid (by unfold stopsAtP; rw [hs, hst]; rfl)
      have HP := Lib.hid hst
      have hso := sound_iff hs
      obtain ⟨nf0, nf1, nm1⟩ := sound_fns hso
      clear hs hst hso
      go_enter Try.func56, Try.ntmps56
      go_wp2_with fail
      refine (sound_is _ _ t _ (HT.out.later (by repeat (with_reducible first | exact Below.refl _ _ | exact HL.out | refine bl_drewN ?_ _ | refine bl_drew ?_ | refine bl_alloc ?_ _ | refine bl_set ?_ (by dsimp only; omega) _))) HS.out HQ.out).mono ?_; rintro e w1 ⟨rfl, hb⟩
      have HB := Lib.hid (bl_then (bl_alloc (bl_alloc (Below.refl _ w) _) _) hb)
      have HX := Lib.hid (((Blk.made w #[.slice A1 t.fns.length c1, .slice A2 t.moms.length c2] 35).alloc (.cells #[.int .i64 s.kind, .int .i64 s.fn, .int .i64 s.line, .string s.nm] 27)).later hb)
      have hY := (Blk.made (w.alloc (.cells #[.slice A1 t.fns.length c1, .slice A2 t.moms.length c2] 35)) #[.int .i64 s.kind, .int .i64 s.fn, .int .i64 s.line, .string s.nm] 27).later hb
      rw [World.size_alloc] at hY
      have HY := Lib.hid hY
      clear hb hY
      have y0 : w1.cell? ⟨w.heap.size + 1, 0, none⟩ = some (.int .i64 s.kind) := HY.out.cell (j := 0) (by simp)
      have y1 : w1.cell? ⟨w.heap.size + 1, 1, none⟩ = some (.int .i64 s.fn) := HY.out.cell (j := 1) (by simp)
      have y2 : w1.cell? ⟨w.heap.size + 1, 2, none⟩ = some (.int .i64 s.line) := HY.out.cell (j := 2) (by simp)
      have y3 : w1.cell? ⟨w.heap.size + 1, 3, none⟩ = some (.string s.nm) := HY.out.cell (j := 3) (by simp)
      go_wp2_with fail
      refine (impl_StopOk_un s _ HP.out).mono ?_; rintro e w2 ⟨rfl, hb⟩
      clear y0 y1 y2 y3
      replace HB := Lib.hid (bl_then HB.out hb); replace HX := Lib.hid (HX.out.later hb); replace HY := Lib.hid (HY.out.later hb); clear hb
      have x1 : w2.cell? ⟨w.heap.size, 1, none⟩ = some (.slice A2 t.moms.length c2) := HX.out.cell (j := 1) (by simp)
      go_wp2_with fail
      clear x1
      cases hin : inB k 0 ((t.moms.length : Int) - 1) with
      | false =>
        have HI := Lib.hid hin
        clear hin
        refine (inside_is _ _ _ _ HI.out).mono ?_; rintro e w3 ⟨rfl, rfl⟩
        go_wp2
        go_ret
        exact ⟨by rw [HR.out, HI.out]; rfl, HB.out⟩
      | true =>
        have HI := Lib.hid hin
        obtain ⟨hk0, hk1⟩ := inB_true.1 hin
        obtain ⟨n, rfl⟩ : ∃ n : Nat, k = (n : Int) := ⟨k.toNat, by omega⟩
        have hnl : n < t.moms.length := by omega
        clear hin
        refine (inside_is _ _ _ _ HI.out).mono ?_; rintro e w3 ⟨rfl, rfl⟩
        have x0 : w2.cell? ⟨w.heap.size, 0, none⟩ = some (.slice A1 t.fns.length c1) := HX.out.cell (j := 0) (by simp)
        have x1 : w2.cell? ⟨w.heap.size, 1, none⟩ = some (.slice A2 t.moms.length c2) := HX.out.cell (j := 1) (by simp)
        have y0 : w2.cell? ⟨w.heap.size + 1, 0, none⟩ = some (.int .i64 s.kind) := HY.out.cell (j := 0) (by simp)
        have y1 : w2.cell? ⟨w.heap.size + 1, 1, none⟩ = some (.int .i64 s.fn) := HY.out.cell (j := 1) (by simp)
        have y2 : w2.cell? ⟨w.heap.size + 1, 2, none⟩ = some (.int .i64 s.line) := HY.out.cell (j := 2) (by simp)
        have y3 : w2.cell? ⟨w.heap.size + 1, 3, none⟩ = some (.string s.nm) := HY.out.cell (j := 3) (by simp)
        go_wp2_with fail
        refine (holds_un _ _ t s _ (HT.out.later HB.out) HS.out HQ.out HP.out).mono ?_; rintro e w4 ⟨v, rfl, hO, hb⟩
        obtain ⟨A0, k0, rfl, hc1, hc2⟩ := hO.cap
        obtain ⟨A7, c7, e7, hop⟩ := hO.open'
        obtain ⟨b7, e8, -, -, hc, -⟩ := hop (by omega)
        cases e7
        subst e8
        have z : w4.cell? ⟨b7, n, none⟩ = some (.bool (holdsP t.moms s n)) := by
          have := hc n hnl 0 (by omega)
          simpa [hdC] using this
        replace HB := Lib.hid (bl_then HB.out hb); clear hb
        clear x0 x1 y0 y1 y2 y3 hO hop hc
        have h9 : (n : Int) < (t.moms.length : Int) := by omega
        go_wp2
        go_ret
        exact ⟨by rw [HR.out, HI.out]; simp, HB.out⟩
theorem intC_last (r : List Int) (x : Int) (j : Nat) : intC (r ++ [x]) r.length j = .int .i64 x := by
  unfold intC
  rw [elt_eq (by simp)]; simp
theorem intC_old (r : List Int) (x : Int) {i : Nat} (hi : i < r.length) (j : Nat) : intC (r ++ [x]) i j = intC r i j := by
  unfold intC
  rw [elt_eq (by simp; omega), elt_eq hi, List.getElem_append_left hi]
set_option maxRecDepth 100000 in
set_option maxHeartbeats 4000000 in
theorem impl_Hits_calls (v1 v2 : Value) (t : PTr) (s : PStop) (w : World) (h : RdTr w v1 v2 t) (hsm : smTr t) :
    Calls Try.prog 31 #[.agg #[v1, v2], stopV s] w (OwRet w 3 1 (hitsP t s).length (intC (hitsP t s))) := by
  have HT := Lib.hid h
  have HS := Lib.hid hsm
  obtain ⟨⟨A1, c1, rfl, hn1, -⟩, ⟨vv, ⟨A2, c2, rfl, hn2, -⟩, -⟩⟩ := h
  have hsz := hsm.2.1
  clear hsm
  unfold stopV
  cases hs : soundP t with
  | false =>
    have HR : Hid (hitsP t s = []) := Lib.hid (by unfold hitsP; rw [hs]; rfl)
    have HQ := Lib.hid hs
    clear hs
    go_enter Try.func31, Try.ntmps31
    go_wp2_with fail
    refine (sound_is _ _ t _ (HT.out.later (by repeat (with_reducible first | exact Below.refl _ _ | exact HL.out | refine bl_drewN ?_ _ | refine bl_drew ?_ | refine bl_alloc ?_ _ | refine bl_set ?_ (by dsimp only; omega) _))) HS.out HQ.out).mono ?_; rintro e w1 ⟨rfl, hb⟩
    have HB := Lib.hid (bl_then (bl_alloc (bl_alloc (Below.refl _ w) _) _) hb)
    clear hb
    go_wp2
    go_ret
    rw [HR.out]
    exact ⟨_, rfl, OwR.nil, HB.out⟩
  | true =>
    have HQ := Lib.hid hs
    have hso := sound_iff hs
    obtain ⟨nf0, nf1, nm1⟩ := sound_fns hso
    cases hst : stopOk s
    all_goals
      have HP := Lib.hid hst
      go_enter Try.func31, Try.ntmps31
      go_wp2_with fail
      refine (sound_is _ _ t _ (HT.out.later (by repeat (with_reducible first | exact Below.refl _ _ | exact HL.out | refine bl_drewN ?_ _ | refine bl_drew ?_ | refine bl_alloc ?_ _ | refine bl_set ?_ (by dsimp only; omega) _))) HS.out HQ.out).mono ?_; rintro e w1 ⟨rfl, hb⟩
      have HB := Lib.hid (bl_then (bl_alloc (bl_alloc (Below.refl _ w) _) _) hb)
      have HX := Lib.hid (((Blk.made w #[.slice A1 t.fns.length c1, .slice A2 t.moms.length c2] 35).alloc (.cells #[.int .i64 s.kind, .int .i64 s.fn, .int .i64 s.line, .string s.nm] 27)).later hb)
      have hY := (Blk.made (w.alloc (.cells #[.slice A1 t.fns.length c1, .slice A2 t.moms.length c2] 35)) #[.int .i64 s.kind, .int .i64 s.fn, .int .i64 s.line, .string s.nm] 27).later hb
      rw [World.size_alloc] at hY
      have HY := Lib.hid hY
      clear hb hY
      have y0 : w1.cell? ⟨w.heap.size + 1, 0, none⟩ = some (.int .i64 s.kind) := HY.out.cell (j := 0) (by simp)
      have y1 : w1.cell? ⟨w.heap.size + 1, 1, none⟩ = some (.int .i64 s.fn) := HY.out.cell (j := 1) (by simp)
      have y2 : w1.cell? ⟨w.heap.size + 1, 2, none⟩ = some (.int .i64 s.line) := HY.out.cell (j := 2) (by simp)
      have y3 : w1.cell? ⟨w.heap.size + 1, 3, none⟩ = some (.string s.nm) := HY.out.cell (j := 3) (by simp)
      go_wp2_with fail
      refine (impl_StopOk_un s _ HP.out).mono ?_; rintro e w2 ⟨rfl, hb⟩
      replace HB := Lib.hid (bl_then HB.out hb); replace HX := Lib.hid (HX.out.later hb); replace HY := Lib.hid (HY.out.later hb); clear hb
      clear y0 y1 y2 y3
    · have HR : Hid (hitsP t s = []) := Lib.hid (by unfold hitsP; rw [hs, hst]; rfl)
      clear hs hst
      go_wp2
      go_ret
      rw [HR.out]
      exact ⟨_, rfl, OwR.nil, HB.out⟩
    · have HR : Hid (hitsP t s = hitsN t.moms s t.moms.length) := Lib.hid (by unfold hitsP; rw [hs, hst]; rfl)
      clear hs hst
      have x0 : w2.cell? ⟨w.heap.size, 0, none⟩ = some (.slice A1 t.fns.length c1) := HX.out.cell (j := 0) (by simp)
      have x1 : w2.cell? ⟨w.heap.size, 1, none⟩ = some (.slice A2 t.moms.length c2) := HX.out.cell (j := 1) (by simp)
      have y0 : w2.cell? ⟨w.heap.size + 1, 0, none⟩ = some (.int .i64 s.kind) := HY.out.cell (j := 0) (by simp)
      have y1 : w2.cell? ⟨w.heap.size + 1, 1, none⟩ = some (.int .i64 s.fn) := HY.out.cell (j := 1) (by simp)
      have y2 : w2.cell? ⟨w.heap.size + 1, 2, none⟩ = some (.int .i64 s.line) := HY.out.cell (j := 2) (by simp)
      have y3 : w2.cell? ⟨w.heap.size + 1, 3, none⟩ = some (.string s.nm) := HY.out.cell (j := 3) (by simp)
      have hs2 := HB.out.size
      go_wp2_with fail
      refine (holds_un _ _ t s _ (HT.out.later HB.out) HS.out HQ.out HP.out).mono ?_; rintro e w4 ⟨v, rfl, hO, hb⟩
      obtain ⟨A0, k0, rfl, hc1, hc2⟩ := hO.cap
      have HH := Lib.hid hO
      clear x0 x1 y0 y1 y2 y3 hO HX HY
      replace HB := Lib.hid (bl_then HB.out hb); clear hb
      go_wp2_with fail
      go_loopw [5, 20] (fun ov i wr => ∃ q : Nat, q ≤ t.moms.length ∧ i = .int .i64 q ∧ OwR wr w.heap.size 3 1 (hitsN t.moms s q).length (intC (hitsN t.moms s q)) ov ∧ OwR wr w2.heap.size 4 1 t.moms.length (hdC t.moms s) (.slice A0 t.moms.length k0) ∧ Below w.heap.size w wr) (fun _ i _ => t.moms.length - (intOf i).toNat)
      case atStart => exact ⟨0, Nat.zero_le _, rfl, OwR.nil, HH.out, HB.out⟩
      case round =>
        obtain ⟨q, hq, rfl, hO, hH, hB⟩ := hrel
        clear HH HB
        have HO := Lib.hid hO
        have HB := Lib.hid hB
        have hsr := hB.size
        obtain ⟨A3, c3, rfl, -⟩ := hO.cap
        have hln := hitsN_len t.moms s q
        by_cases hlt : q < t.moms.length
        · obtain ⟨A7, c7, e7, hop⟩ := hH.open'
          obtain ⟨b7, e8, -, -, hc, -⟩ := hop (by omega)
          cases e7
          subst e8
          have z : wr.cell? ⟨b7, q, none⟩ = some (.bool (holdsP t.moms s q)) := by
            have := hc q hlt 0 (by omega)
            simpa [hdC] using this
          have HH := Lib.hid hH
          clear hO hH hB hop hc
          cases hd : holdsP t.moms s q with
          | false =>
            have HN : Hid (hitsN t.moms s (q + 1) = hitsN t.moms s q) := Lib.hid (by show (if _ then _ else _) = _; rw [hd]; rfl)
            rw [hd] at z
            clear hd
            go_wp2
            go_roundw
            case rel => exact ⟨q + 1, by omega, by go_num, by rw [HN.out]; exact HO.out, HH.out, HB.out⟩
            case measure => simp [intOf]; omega
          | true =>
            have HN : Hid (hitsN t.moms s (q + 1) = hitsN t.moms s q ++ [(q : Int)]) := Lib.hid (by show (if _ then _ else _) = _; rw [hd]; rfl)
            rw [hd] at z
            clear hd
            generalize hitsN t.moms s q = r at HO hln HN ⊢
            obtain ⟨nr, hnr⟩ : ∃ nr, r.length = nr := ⟨_, rfl⟩
            have HNR := Lib.hid hnr
            rw [hnr] at HO hln ⊢
            clear hnr
            go_wp2_with (at_builtin; refine stopped ?_)
            unfold Stopped
            refine wpList_append1 _ (by rfl) _ _ 39 (by rfl) w.heap.size 3 _ 1 8 Try.underlying39 i_int rfl (by omega) _ nr _ (intC (r ++ [(q : Int)])) (by rfl) HO.out [.int .i64 (q : Int)] rfl (by simp [Value.oneCell']) (by rfl) (fun i hi j _ => (intC_old r q (by rw [HNR.out]; exact hi) j).symm) ?hN hsr (by omega) (by omega) ?_
            case hN =>
              intro j hj
              obtain rfl : j = 0 := by omega
              have := intC_last r q 0
              rw [HNR.out] at this
              rw [this]; rfl
            intro ga cap w5 hO5 hG5 _ _
            have HB5 := Lib.hid (bl_own HB.out hsr HO.out hG5)
            have hm : Mv [3] w.heap.size wr w5 := (Mv.refl _ _ _).grown hsr hG5 (fun b hb => by obtain ⟨N, F, hBk⟩ := HO.out.block hb; exact ⟨(HO.out.lt b hb).1, _, N, F, hBk, by decide⟩)
            have HH5 := Lib.hid (HH.out.mv hm (by decide))
            have HO5 := Lib.hid hO5
            clear hO5 hG5 hm z
            go_wp2
            go_roundw
            case rel => exact ⟨q + 1, by omega, by go_num, by rw [HN.out, List.length_append, HNR.out]; exact HO5.out, HH5.out, HB5.out⟩
            case measure => simp [intOf]; omega
        · obtain rfl : q = t.moms.length := by omega
          go_wp2
          go_ret
          rw [HR.out]
          exact ⟨_, rfl, HO.out, HB.out⟩
end Go.Proofs.Ytcklnjjbhngbcaa

namespace Go.Proofs.Ytcklnjjbhngbcaa
open Go.RowKit Go.Proofs.Lens

def anyN (ms : List PMom) (ss : List PStop) (q i : Nat) : Bool := (ss.take q).any fun s => holdsP ms s i
def anyC (ms : List PMom) (ss : List PStop) (i _j : Nat) : Value := .bool (anyP ms ss i)
def anM (ms : List PMom) (ss : List PStop) (q r i _j : Nat) : Value := .bool (if i < r then anyN ms ss (q + 1) i else anyN ms ss q i)
theorem anyN_succ (ms : List PMom) (ss : List PStop) {q : Nat} (hq : q < ss.length) (i : Nat) : anyN ms ss (q + 1) i = (anyN ms ss q i || holdsP ms (elt ss q) i) := by
  unfold anyN
  rw [take_snoc hq, List.any_append]
  simp
theorem anM_set {w : World} {lo b cap q r N : Nat} {ms : List PMom} {ss : List PStop} {u : Bool} (h : OwR w lo 4 1 N (anM ms ss q r) (.slice (some ⟨b, 0, none⟩) N cap)) (hr : r < N) (hu : anyN ms ss (q + 1) r = u) :
    OwR (w.setCell ⟨b, r, none⟩ (.bool u)) lo 4 1 N (anM ms ss q (r + 1)) (.slice (some ⟨b, 0, none⟩) N cap) := by
  have := h.set (C' := anM ms ss q (r + 1)) (i0 := r) (j0 := 0) (u := .bool u) hr (by omega) (fun i j hi hj hne => by
    unfold anM
    have : i ≠ r := by omega
    by_cases h1 : i < r
    · rw [if_pos h1, if_pos (by omega)]
    · rw [if_neg h1, if_neg (by omega)]) (by unfold anM; rw [if_pos (by omega), hu])
  simpa using this
theorem all_take {ss : List PStop} {q : Nat} (hq : q < ss.length) (h : (ss.take q).all stopOk = true) : (ss.take (q + 1)).all stopOk = stopOk (elt ss q) := by
  rw [take_snoc hq, List.all_append, h]; simp
theorem all_of {ss : List PStop} {q : Nat} (hq : q < ss.length) (h : stopOk (elt ss q) = false) : ss.all stopOk = false := by
  cases ha : ss.all stopOk with
  | false => rfl
  | true =>
    rw [List.all_eq_true] at ha
    have := ha (elt ss q) (by rw [elt_eq hq]; exact List.getElem_mem _)
    rw [h] at this; cases this
theorem stop_cells {w : World} {A : Option Addr} {ss : List PStop} (h : RowR w A ss.length 4 (stopC ss)) {q : Nat} (hq : q < ss.length) :
    ∃ b o, A = some ⟨b, o, none⟩ ∧ w.cell? ⟨b, o + q * 4, none⟩ = some (.int .i64 (elt ss q).kind) ∧ w.cell? ⟨b, o + q * 4 + 1, none⟩ = some (.int .i64 (elt ss q).fn) ∧
      w.cell? ⟨b, o + q * 4 + 2, none⟩ = some (.int .i64 (elt ss q).line) ∧ w.cell? ⟨b, o + q * 4 + 3, none⟩ = some (.string (elt ss q).nm) := by
  obtain ⟨b, o, rfl, hc⟩ := h (by omega)
  exact ⟨b, o, rfl, hc q hq 0 (by omega), hc q hq 1 (by omega), hc q hq 2 (by omega), hc q hq 3 (by omega)⟩
/-- What merged answers. -/
def MgPost (w : World) (t : PTr) (ss : List PStop) (k : Int) (e : Ending) (w' : World) : Prop :=
  ∃ v, e = .returned (.tuple #[v, .bool (stopsGood t ss k)]) ∧ (stopsGood t ss k = true → OwR w' w.heap.size 4 1 t.moms.length (anyC t.moms ss) v) ∧ Below w.heap.size w w'
set_option maxRecDepth 100000 in
set_option maxHeartbeats 4000000 in
theorem merged_calls (v1 v2 v3 : Value) (t : PTr) (ss : List PStop) (k : Int) (w : World) (h : RdTr w v1 v2 t) (hsm : smTr t) (hss : RdStops w v3 ss) :
    Calls Try.prog 120 #[.agg #[v1, v2], v3, .int .i64 k] w (MgPost w t ss k) := by
  have HT := Lib.hid h
  have HS := Lib.hid hsm
  obtain ⟨⟨A1, c1, rfl, hn1, -⟩, ⟨vv, ⟨A2, c2, rfl, hn2, -⟩, -⟩⟩ := h
  obtain ⟨A3, c3, rfl, hn3, hrow⟩ := hss
  have HROW := Lib.hid hrow
  have hsz := hsm.2.1
  clear hsm hrow
  cases hs : soundP t with
  | false =>
    have HR : Hid (stopsGood t ss k = false) := Lib.hid (by unfold stopsGood; rw [hs]; rfl)
    have HQ := Lib.hid hs
    clear hs
    go_enter Try.func120, Try.ntmps120
    go_wp2_with fail
    refine (sound_is _ _ t _ (HT.out.later (by repeat (with_reducible first | exact Below.refl _ _ | exact HL.out | refine bl_drewN ?_ _ | refine bl_drew ?_ | refine bl_alloc ?_ _ | refine bl_set ?_ (by dsimp only; omega) _))) HS.out HQ.out).mono ?_; rintro e w1 ⟨rfl, hb⟩
    have HB := Lib.hid (bl_then (bl_alloc (Below.refl _ w) _) hb)
    clear hb
    go_wp2
    go_ret2
    unfold MgPost
    rw [HR.out]
    exact ⟨_, rfl, (fun hh => by cases hh), HB.out⟩
  | true =>
    have HQ := Lib.hid hs
    have hso := sound_iff hs
    obtain ⟨nf0, nf1, nm1⟩ := sound_fns hso
    by_cases hl : ss.length ≤ 50
    · cases hp : placeOk t k with
      | false =>
        have HR : Hid (stopsGood t ss k = false) := Lib.hid (by unfold stopsGood; rw [hs, hp]; rfl)
        have HP : Hid (inB k (-1) (t.moms.length : Int) = false) := Lib.hid hp
        clear hs hso hp
        go_enter Try.func120, Try.ntmps120
        go_wp2_with fail
        refine (sound_is _ _ t _ (HT.out.later (by repeat (with_reducible first | exact Below.refl _ _ | exact HL.out | refine bl_drewN ?_ _ | refine bl_drew ?_ | refine bl_alloc ?_ _ | refine bl_set ?_ (by dsimp only; omega) _))) HS.out HQ.out).mono ?_; rintro e w1 ⟨rfl, hb⟩
        have HX := Lib.hid ((Blk.made w #[.slice A1 t.fns.length c1, .slice A2 t.moms.length c2] 35).later hb)
        have HB := Lib.hid (bl_then (bl_alloc (Below.refl _ w) _) hb)
        have x1 : w1.cell? ⟨w.heap.size, 1, none⟩ = some (.slice A2 t.moms.length c2) := HX.out.cell (j := 1) (by simp)
        clear hb
        go_wp2_with fail
        refine (inside_is _ _ _ _ HP.out).mono ?_; rintro e w2 ⟨rfl, rfl⟩
        go_wp2
        go_ret2
        unfold MgPost
        rw [HR.out]
        exact ⟨_, rfl, (fun hh => by cases hh), HB.out⟩
      | true =>
        have HG : Hid (stopsGood t ss k = ss.all stopOk) := Lib.hid (by unfold stopsGood; rw [hs, hp]; simp [hl])
        have HP : Hid (inB k (-1) (t.moms.length : Int) = true) := Lib.hid hp
        obtain ⟨C, hC, hc, hmk⟩ := make_law (P := Try.prog) 101 4 Try.underlying101 i_bool t.moms.length (by omega) (by omega)
        have HC := Lib.hid hC
        have Hc := Lib.hid hc
        clear hs hso hp hC hc
        go_enter Try.func120, Try.ntmps120
        go_wp2_with fail
        refine (sound_is _ _ t _ (HT.out.later (by repeat (with_reducible first | exact Below.refl _ _ | exact HL.out | refine bl_drewN ?_ _ | refine bl_drew ?_ | refine bl_alloc ?_ _ | refine bl_set ?_ (by dsimp only; omega) _))) HS.out HQ.out).mono ?_; rintro e w1 ⟨rfl, hb⟩
        have HX := Lib.hid ((Blk.made w #[.slice A1 t.fns.length c1, .slice A2 t.moms.length c2] 35).later hb)
        have HB := Lib.hid (bl_then (bl_alloc (Below.refl _ w) _) hb)
        have hw1 : w.heap.size < w1.heap.size := HX.out.lt
        have x1 : w1.cell? ⟨w.heap.size, 1, none⟩ = some (.slice A2 t.moms.length c2) := HX.out.cell (j := 1) (by simp)
        clear hb
        go_wp2_with fail
        refine (inside_is _ _ _ _ HP.out).mono ?_; rintro e w2 ⟨rfl, rfl⟩
        go_wp2_with fail
        clear x1
        go_loopw [35] (fun i wr => ∃ q : Nat, q ≤ ss.length ∧ i = .int .i64 q ∧ (ss.take q).all stopOk = true ∧ OwR wr w1.heap.size 4 1 t.moms.length (anM t.moms ss q 0) (.slice (some ⟨w1.heap.size, 0, none⟩) t.moms.length t.moms.length) ∧ Below w.heap.size w wr ∧
          Blk wr w.heap.size 35 2 (fun j => #[Value.slice A1 t.fns.length c1, .slice A2 t.moms.length c2].getD j undef)) (fun i _ => ss.length - (intOf i).toNat)
        case atStart =>
          exact ⟨0, Nat.zero_le _, rfl, by simp, OwR.made HC.out Hc.out (by rfl) (by simp only [maxLen]; omega) _ (fun i hi j hj => by
            obtain rfl : j = 0 := by omega
            simp only [anM, Nat.not_lt_zero, if_false, anyN, List.take_zero, List.any_nil]
            rfl), bl_alloc HB.out _, HX.out.alloc _⟩
        case round =>
          obtain ⟨q, hq, rfl, hall, hO, hB, hX⟩ := hrel
          clear HB HX
          have HO := Lib.hid hO
          have HB := Lib.hid hB
          have HX := Lib.hid hX
          have HALL := Lib.hid hall
          clear hO hB hX hall
          by_cases hlt : q < ss.length
          · obtain ⟨bs, os, rfl, c0, c1', c2', c3'⟩ := stop_cells (HROW.out.later HB.out) hlt
            go_upto_region 7 with fail
            have HSB : Hid (Blk (wr.alloc _) wr.heap.size 27 4 _) := Lib.hid (Blk.made wr #[.int .i64 (elt ss q).kind, .int .i64 (elt ss q).fn, .int .i64 (elt ss q).line, .string (elt ss q).nm] 27)
            generalize hW2 : World.alloc wr _ = W3 at HSB ⊢
            have hbl : Below wr.heap.size wr W3 := by rw [← hW2]; exact bl_alloc (Below.refl _ _) _
            clear hW2 c0 c1' c2' c3'
            replace HB := Lib.hid (bl_then HB.out hbl); replace HX := Lib.hid (HX.out.later hbl); replace HO := Lib.hid (HO.out.later hbl); clear hbl
            have y0 : W3.cell? ⟨wr.heap.size, 0, none⟩ = some (.int .i64 (elt ss q).kind) := HSB.out.cell (j := 0) (by simp)
            have y1 : W3.cell? ⟨wr.heap.size, 1, none⟩ = some (.int .i64 (elt ss q).fn) := HSB.out.cell (j := 1) (by simp)
            have y2 : W3.cell? ⟨wr.heap.size, 2, none⟩ = some (.int .i64 (elt ss q).line) := HSB.out.cell (j := 2) (by simp)
            have y3 : W3.cell? ⟨wr.heap.size, 3, none⟩ = some (.string (elt ss q).nm) := HSB.out.cell (j := 3) (by simp)
            go_wp2_with fail
            clear y0 y1 y2 y3
            cases hst : stopOk (elt ss q) with
            | false =>
              have HST := Lib.hid hst
              have HR : Hid (stopsGood t ss k = false) := Lib.hid (by rw [HG.out]; exact all_of hlt hst)
              clear hst
              refine (impl_StopOk_un _ _ HST.out).mono ?_; rintro e w4 ⟨rfl, hb⟩
              replace HB := Lib.hid (bl_then HB.out hb); clear hb
              go_wp2
              go_ret2
              unfold MgPost
              rw [HR.out]
              exact ⟨_, rfl, (fun hh => by cases hh), HB.out⟩
            | true =>
              have HST := Lib.hid hst
              clear hst
              refine (impl_StopOk_un _ _ HST.out).mono ?_; rintro e w4 ⟨rfl, hb⟩
              replace HB := Lib.hid (bl_then HB.out hb); replace HX := Lib.hid (HX.out.later hb); replace HO := Lib.hid (HO.out.later hb); replace HSB := Lib.hid (HSB.out.later hb); clear hb
              have x0 : w4.cell? ⟨w.heap.size, 0, none⟩ = some (.slice A1 t.fns.length c1) := HX.out.cell (j := 0) (by simp)
              have x1 : w4.cell? ⟨w.heap.size, 1, none⟩ = some (.slice A2 t.moms.length c2) := HX.out.cell (j := 1) (by simp)
              have y0 : w4.cell? ⟨wr.heap.size, 0, none⟩ = some (.int .i64 (elt ss q).kind) := HSB.out.cell (j := 0) (by simp)
              have y1 : w4.cell? ⟨wr.heap.size, 1, none⟩ = some (.int .i64 (elt ss q).fn) := HSB.out.cell (j := 1) (by simp)
              have y2 : w4.cell? ⟨wr.heap.size, 2, none⟩ = some (.int .i64 (elt ss q).line) := HSB.out.cell (j := 2) (by simp)
              have y3 : w4.cell? ⟨wr.heap.size, 3, none⟩ = some (.string (elt ss q).nm) := HSB.out.cell (j := 3) (by simp)
              go_wp2_with fail
              refine (holds_un _ _ t (elt ss q) _ (HT.out.later HB.out) HS.out HQ.out HST.out).mono ?_; rintro e w5 ⟨v, rfl, hO, hb⟩
              obtain ⟨A0, k0, rfl, -⟩ := hO.cap
              have hlt4 : w1.heap.size < w4.heap.size := HO.out.blt.2
              have HH := Lib.hid hO
              clear x0 x1 y0 y1 y2 y3 hO HSB
              replace HB := Lib.hid (bl_then HB.out hb); replace HX := Lib.hid (HX.out.later hb); replace HO := Lib.hid (HO.out.later hb); clear hb
              go_wp2_with fail
              go_loopw [46] (fun i wx => ∃ r : Nat, r ≤ t.moms.length ∧ i = .int .i64 r ∧ OwR wx w1.heap.size 4 1 t.moms.length (anM t.moms ss q r) (.slice (some ⟨w1.heap.size, 0, none⟩) t.moms.length t.moms.length) ∧ OwR wx w4.heap.size 4 1 t.moms.length (hdC t.moms (elt ss q)) (.slice A0 t.moms.length k0) ∧ Below w.heap.size w wx ∧
                Blk wx w.heap.size 35 2 (fun j => #[Value.slice A1 t.fns.length c1, .slice A2 t.moms.length c2].getD j undef)) (fun i _ => t.moms.length - (intOf i).toNat)
              case atStart => exact ⟨0, Nat.zero_le _, rfl, HO.out, HH.out, HB.out, HX.out⟩
              case round =>
                obtain ⟨r, hr, rfl, hO, hH, hB, hX⟩ := hrel
                clear HO HH HB HX
                have HO := Lib.hid hO
                have HB := Lib.hid hB
                have HX := Lib.hid hX
                by_cases hrl : r < t.moms.length
                · obtain ⟨A7, c7, e7, hop⟩ := hH.open'
                  obtain ⟨b7, e8, hb7, -, hc, -⟩ := hop (by omega)
                  cases e7
                  subst e8
                  have z : wr.cell? ⟨b7, r, none⟩ = some (.bool (holdsP t.moms (elt ss q) r)) := by
                    have := hc r hrl 0 (by omega)
                    simpa [hdC] using this
                  have z1 : wr.cell? ⟨w1.heap.size, r, none⟩ = some (.bool (anyN t.moms ss q r)) := by
                    have := HO.out.cells hrl (j := 0) (by omega)
                    simpa [anM] using this
                  have z2 := HO.out.free r
                  have HA := Lib.hid (anyN_succ t.moms ss hlt r)
                  have HH := Lib.hid hH
                  clear hO hH hB hX hop hc
                  generalize hdh : holdsP t.moms (elt ss q) r = q1 at z HA
                  generalize hda : anyN t.moms ss q r = q2 at z1 HA
                  clear hdh hda
                  cases q2 <;> cases q1
                  all_goals
                    go_wp2
                    go_roundw
                    case rel =>
                      refine ⟨r + 1, by omega, by go_num, anM_set HO.out hrl HA.out, ?_, bl_set HB.out (by dsimp only; omega) _, HX.out.far (by dsimp only; omega) _⟩
                      exact HH.out.far (p := ⟨w1.heap.size, r, none⟩) (fun hh => by have := Option.some.inj hh; dsimp only at this; omega) _
                    case measure => simp [intOf]; omega
                · obtain rfl : r = t.moms.length := by omega
                  clear hO hH hB hX
                  go_wp2
                  go_roundw
                  case rel =>
                    refine ⟨q + 1, by omega, by go_num, by rw [all_take hlt HALL.out]; exact HST.out, ?_, HB.out, HX.out⟩
                    exact HO.out.congr fun i hi j hj => by simp [anM, hi]
                  case measure => simp [intOf]; omega
          · obtain rfl : q = ss.length := by omega
            have HR : Hid (stopsGood t ss k = true) := Lib.hid (by rw [HG.out]; have := HALL.out; rwa [List.take_length] at this)
            go_wp2
            go_ret2
            unfold MgPost
            rw [HR.out]
            refine ⟨_, rfl, fun _ => ?_, HB.out⟩
            exact (HO.out.lower (Nat.le_of_lt hw1)).congr fun i hi j hj => by simp [anM, anyC, anyN, anyP]
    · have HR : Hid (stopsGood t ss k = false) := Lib.hid (by unfold stopsGood; simp [hl])
      clear hs hso
      go_enter Try.func120, Try.ntmps120
      go_wp2_with fail
      refine (sound_is _ _ t _ (HT.out.later (by repeat (with_reducible first | exact Below.refl _ _ | exact HL.out | refine bl_drewN ?_ _ | refine bl_drew ?_ | refine bl_alloc ?_ _ | refine bl_set ?_ (by dsimp only; omega) _))) HS.out HQ.out).mono ?_; rintro e w1 ⟨rfl, hb⟩
      have HB := Lib.hid (bl_then (bl_alloc (Below.refl _ w) _) hb)
      clear hb
      have hl' : ¬ ((ss.length : Int) ≤ 50) := by omega
      go_wp2
      go_ret2
      unfold MgPost
      rw [HR.out]
      exact ⟨_, rfl, (fun hh => by cases hh), HB.out⟩
theorem anyP_hd {ms : List PMom} {ss : List PStop} {n : Nat} {w : World} {lo : Nat} {v : Value} (h : OwR w lo 4 1 n (anyC ms ss) v) : ∃ A c, v = .slice A n c ∧ n ≤ c ∧ c ≤ 9223372036854775807 ∧ ∀ i, i < n → ∃ b, A = some ⟨b, 0, none⟩ ∧ w.cell? ⟨b, i, none⟩ = some (.bool (anyP ms ss i)) := by
  obtain ⟨A0, k0, rfl, h1, h2⟩ := h.cap
  refine ⟨A0, k0, rfl, h1, h2, fun i hi => ?_⟩
  obtain ⟨A7, c7, e7, hop⟩ := h.open'
  obtain ⟨b7, e8, -, -, hc, -⟩ := hop (by omega)
  cases e7
  subst e8
  have := hc i hi 0 (by omega)
  exact ⟨b7, rfl, by simpa [anyC] using this⟩
set_option maxRecDepth 100000 in
set_option maxHeartbeats 2000000 in
theorem impl_Next_calls (v1 v2 v3 : Value) (t : PTr) (ss : List PStop) (k : Int) (w : World) (h : RdTr w v1 v2 t) (hsm : smTr t) (hss : RdStops w v3 ss) :
    Calls Try.prog 57 #[.agg #[v1, v2], v3, .int .i64 k] w fun e w' => e = .returned (.int .i64 (nextP t ss k)) ∧ Below w.heap.size w w' := by
  have HT := Lib.hid h
  have HS := Lib.hid hsm
  have HSS := Lib.hid hss
  have hsz := hsm.2.1
  clear hsm hss
  go_enter Try.func57, Try.ntmps57
  go_wp2_with fail
  refine (merged_calls _ _ _ t ss k _ (HT.out.later (by repeat (with_reducible first | exact Below.refl _ _ | exact HL.out | refine bl_drewN ?_ _ | refine bl_drew ?_ | refine bl_alloc ?_ _ | refine bl_set ?_ (by dsimp only; omega) _))) HS.out (HSS.out.later (by repeat (with_reducible first | exact Below.refl _ _ | exact HL.out | refine bl_drewN ?_ _ | refine bl_drew ?_ | refine bl_alloc ?_ _ | refine bl_set ?_ (by dsimp only; omega) _)))).mono ?_; rintro e w1 ⟨v, rfl, hO, hb⟩
  have HB := Lib.hid (bl_then (bl_alloc (Below.refl _ w) _) hb)
  clear hb
  cases hg : stopsGood t ss k with
  | false =>
    have HR : Hid (nextP t ss k = -2) := Lib.hid (by unfold nextP; rw [hg]; rfl)
    clear hO hg
    go_wp2
    go_ret
    exact ⟨by rw [HR.out]; rfl, HB.out⟩
  | true =>
    obtain ⟨A0, k0, rfl, hk1, hk2, hc⟩ := anyP_hd (hO hg)
    have HC := Lib.hid hc
    have hp : placeOk t k = true := by unfold stopsGood at hg; simp only [Bool.and_eq_true] at hg; exact hg.1.1.2
    obtain ⟨p0, p1⟩ := inB_true.1 hp
    have HR : Hid (nextP t ss k = (firstB (anyP t.moms ss) t.moms.length (t.moms.length - (k + 1).toNat) (k + 1).toNat : Nat)) := Lib.hid (by unfold nextP; rw [if_pos hg])
    obtain ⟨m, hm⟩ : ∃ m : Nat, k + 1 = (m : Int) := ⟨(k + 1).toNat, by omega⟩
    rw [hm] at HR
    rw [Int.toNat_natCast] at HR
    clear hO hg hc hp
    go_upto_region 4 with fail
    go_upto_region 5 with fail
    go_loopw [9] (fun i wr => ∃ q : Nat, i = .int .i64 q ∧ m ≤ q ∧ firstB (anyP t.moms ss) t.moms.length (t.moms.length - q) q = firstB (anyP t.moms ss) t.moms.length (t.moms.length - m) m ∧ wr = w1) (fun i _ => t.moms.length - (intOf i).toNat)
    case atStart => exact ⟨m, rfl, Nat.le_refl _, rfl, rfl⟩
    case round =>
      obtain ⟨q, rfl, hmq, hf, rfl⟩ := hrel
      have HF := Lib.hid hf
      clear hf
      by_cases hlt : q < t.moms.length
      · obtain ⟨b, rfl, z⟩ := HC.out q hlt
        cases ha : anyP t.moms ss q with
        | true =>
          have HA := Lib.hid ha
          rw [ha] at z
          clear ha
          go_wp2
          go_ret
          exact ⟨by rw [HR.out, ← HF.out, firstB_hit hlt HA.out]; rfl, HB.out⟩
        | false =>
          have HA := Lib.hid ha
          rw [ha] at z
          clear ha
          go_wp2
          go_roundw
          case rel => exact ⟨q + 1, by go_num, by omega, by rw [← HF.out, firstB_skip hlt HA.out], trivial⟩
          case measure => simp [intOf]; omega
      · have hge : t.moms.length ≤ q := by omega
        go_wp2
        go_ret
        exact ⟨by rw [HR.out, ← HF.out, firstB_end hge]; rfl, HB.out⟩
set_option maxRecDepth 100000 in
set_option maxHeartbeats 2000000 in
theorem impl_Last_calls (v1 v2 v3 : Value) (t : PTr) (ss : List PStop) (k : Int) (w : World) (h : RdTr w v1 v2 t) (hsm : smTr t) (hss : RdStops w v3 ss) :
    Calls Try.prog 58 #[.agg #[v1, v2], v3, .int .i64 k] w fun e w' => e = .returned (.int .i64 (lastP t ss k)) ∧ Below w.heap.size w w' := by
  have HT := Lib.hid h
  have HS := Lib.hid hsm
  have HSS := Lib.hid hss
  have hsz := hsm.2.1
  clear hsm hss
  go_enter Try.func58, Try.ntmps58
  go_wp2_with fail
  refine (merged_calls _ _ _ t ss k _ (HT.out.later (by repeat (with_reducible first | exact Below.refl _ _ | exact HL.out | refine bl_drewN ?_ _ | refine bl_drew ?_ | refine bl_alloc ?_ _ | refine bl_set ?_ (by dsimp only; omega) _))) HS.out (HSS.out.later (by repeat (with_reducible first | exact Below.refl _ _ | exact HL.out | refine bl_drewN ?_ _ | refine bl_drew ?_ | refine bl_alloc ?_ _ | refine bl_set ?_ (by dsimp only; omega) _)))).mono ?_; rintro e w1 ⟨v, rfl, hO, hb⟩
  have HB := Lib.hid (bl_then (bl_alloc (Below.refl _ w) _) hb)
  clear hb
  cases hg : stopsGood t ss k with
  | false =>
    have HR : Hid (lastP t ss k = -2) := Lib.hid (by unfold lastP; rw [hg]; rfl)
    clear hO hg
    go_wp2
    go_ret
    exact ⟨by rw [HR.out]; rfl, HB.out⟩
  | true =>
    obtain ⟨A0, k0, rfl, hk1, hk2, hc⟩ := anyP_hd (hO hg)
    have HC := Lib.hid hc
    have hp : placeOk t k = true := by unfold stopsGood at hg; simp only [Bool.and_eq_true] at hg; exact hg.1.1.2
    obtain ⟨p0, p1⟩ := inB_true.1 hp
    have HR : Hid (lastP t ss k = lastB (anyP t.moms ss) k.toNat) := Lib.hid (by unfold lastP; rw [if_pos hg])
    clear hO hg hc hp
    go_upto_region 4 with fail
    go_upto_region 5 with fail
    go_loopw [9] (fun i wr => ∃ x : Int, i = .int .i64 x ∧ -2 ≤ x ∧ x < t.moms.length ∧ lastB (anyP t.moms ss) k.toNat = lastB (anyP t.moms ss) (x + 1).toNat ∧ wr = w1) (fun i _ => (intOf i + 2).toNat)
    case atStart => exact ⟨k - 1, rfl, by omega, by omega, by congr 1; omega, rfl⟩
    case round =>
      obtain ⟨x, rfl, x0, x1, hf, rfl⟩ := hrel
      have HF := Lib.hid hf
      clear hf
      by_cases hx : 0 ≤ x
      · obtain ⟨q, rfl⟩ : ∃ q : Nat, x = (q : Int) := ⟨x.toNat, by omega⟩
        have hlt : q < t.moms.length := by omega
        have HE : Hid (((q : Int) + 1).toNat = q + 1) := Lib.hid (by omega)
        obtain ⟨b, rfl, z⟩ := HC.out q hlt
        cases ha : anyP t.moms ss q with
        | true =>
          have HA := Lib.hid ha
          rw [ha] at z
          clear ha
          go_wp2
          go_ret
          exact ⟨by rw [HR.out, HF.out, HE.out, lastB, if_pos HA.out]; rfl, HB.out⟩
        | false =>
          have HA := Lib.hid ha
          rw [ha] at z
          clear ha
          go_wp2
          go_roundw
          case rel => exact ⟨(q : Int) - 1, by go_num, by omega, by omega, by rw [HF.out, HE.out, lastB, if_neg (by rw [HA.out]; simp)]; congr 1; omega, trivial⟩
          case measure => simp [intOf]; omega
      · have HE : Hid ((x + 1).toNat = 0) := Lib.hid (by omega)
        go_wp2
        go_ret
        exact ⟨by rw [HR.out, HF.out, HE.out]; rfl, HB.out⟩
end Go.Proofs.Ytcklnjjbhngbcaa
