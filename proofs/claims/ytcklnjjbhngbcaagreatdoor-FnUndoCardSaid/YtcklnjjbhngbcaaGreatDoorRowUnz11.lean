/- Lemmas and contracts of functions that the theorem of this claim leans on (texts I9). -/
import Derived.RangeFuncNested
import Derived.RangeFuncBound
import Derived.RangeFuncCalls
import Derived.RangeFuncLeaves
import Derived.RangeFuncBox
import Derived.Shelf.Abstract
import Derived.Shelf.RegionOpen
import Derived.WalkKit
import Derived.OwnWalkIn
import Derived.TacticsInMore
import Derived.LoopNIn
import Derived.LoopIn
import Derived.Test.YtcklnjjbhngbcaaGreatDoorRowUnz10
import Derived.Test.YtcklnjjbhngbcaaGreatDoorRowUnz02
namespace Go.Proofs.YtcklnjjbhngbcaaGreatDoor
open Go.RowKit Go.Proofs.Lens Go.Shelf

attribute [local go_sem] Oper.semAt_some

theorem valP_none {vs : List PVar} {nm : ByteArray} (h : ∀ j, j < vs.length → (elt vs j).nm ≠ nm) : valP vs nm = none := by
  induction vs with
  | nil => rfl
  | cons v r ih =>
    have hr := ih fun j hj => by have := h (j + 1) (by simp; omega); simpa [elt] using this
    have h0 := h 0 (by simp)
    have h0 : v.nm ≠ nm := by simpa [elt] using h0
    simp [valP, hr, h0]
theorem valP_hit {vs : List PVar} {nm : ByteArray} : ∀ {i : Nat}, i < vs.length → (∀ j, i < j → j < vs.length → (elt vs j).nm ≠ nm) → (elt vs i).nm = nm → valP vs nm = some (elt vs i).tx := by
  induction vs with
  | nil => intro i hi; exact absurd hi (by simp)
  | cons v r ih =>
    intro i hi h1 h2
    cases i with
    | zero =>
      have hr : valP r nm = none := valP_none fun j hj => by have := h1 (j + 1) (by omega) (by simp; omega); simpa [elt] using this
      have h2 : v.nm = nm := by simpa [elt] using h2
      simp [valP, hr, h2, elt]
    | succ i =>
      have := ih (i := i) (by simp at hi; omega) (fun j hj hj2 => by have := h1 (j + 1) (by omega) (by simp; omega); simpa [elt] using this) (by simpa [elt] using h2)
      simp [valP, this, elt]

def bkUp (vs : List PVar) (k : Nat) : List (Nat × PVar) := (List.range k).map fun j => (vs.length - 1 - j, elt vs (vs.length - 1 - j))
theorem bkUp_succ (vs : List PVar) (k : Nat) : bkUp vs (k + 1) = bkUp vs k ++ [(vs.length - 1 - k, elt vs (vs.length - 1 - k))] := by simp [bkUp, List.range_succ]
theorem bkUp_len (vs : List PVar) (k : Nat) : (bkUp vs k).length = k := by simp [bkUp]
abbrev bkEnc (x : Nat × PVar) : Array Value := #[.int .i64 (x.1 : Int), .agg #[.string x.2.nm, .string x.2.tx]]

set_option maxRecDepth 100000 in
set_option maxHeartbeats 2000000 in
/-- The closure of slices.Backward, over any body that keeps what lay below n₀. -/
theorem back1_in (F : Fence) (n : Nat) (h7 : F.fn 186) (hro : F.round = none) (hn : 1 ≤ n) (l Bs n₀ cap : Nat) (A : Option Addr) (vs : List PVar) (hsm : vs.length ≤ 9223372036854775807) (hBl : Bs < n₀)
    (J Jx : List (Nat × PVar) → World → Prop)
    (hY : ∀ pre x W, J pre W → pre.length < vs.length → YieldAt F (n - 1) Tryz.prog l (bkEnc x) W fun e W' =>
      (e = .returned (.bool true) ∧ J (pre ++ [x]) W' ∧ Below n₀ W W') ∨ (e = .returned (.bool false) ∧ Jx (pre ++ [x]) W'))
    (W : World) (hBs : W.cell? ⟨Bs, 0, none⟩ = some (.slice A vs.length cap)) (hc : 0 < vs.length → ∃ b o, A = some ⟨b, o, none⟩ ∧ b < n₀ ∧ ∀ i, i < vs.length → ∀ j, j < 2 → W.cell? ⟨b, o + i * 2 + j, none⟩ = some (varC vs i j)) (h0 : J [] W) :
    CallsIn F n Tryz.prog 186 #[.func (.yield l) #[] #[], .pointer (some ⟨Bs, 0, none⟩)] W fun e W' => (∃ v, e = .returned v) ∧
      ((∃ ys, ys = bkUp vs vs.length ∧ J ys W') ∨ (∃ pre, (∃ k, k ≤ vs.length ∧ pre = bkUp vs k) ∧ Jx pre W')) := by
  refine callsIn_of_wp Tryz.func186 rfl h7 ?_ hro
  simp only [Tryz.ntmps186, List.size_toArray, List.length_cons, List.length_nil, Nat.reduceAdd, Nat.reduceSub, Array.replicate_succ, Array.replicate_zero, List.push_toArray, List.append_toArray, List.nil_append, List.cons_append]
  gi_wp2
  gi_loopw [3] (fun i wr => ∃ k : Nat, k ≤ vs.length ∧ i = .int .i64 ((vs.length : Int) - 1 - k) ∧ J (bkUp vs k) wr ∧ Below n₀ W wr)
    (fun i _ => (intOf i + 1).toNat)
  case atStart => exact ⟨0, Nat.zero_le _, by simp, h0, Below.refl _ _⟩
  case round =>
    obtain ⟨k, hk, rfl, hJs, hnx⟩ := hrel
    have hBs' : wr.cell? ⟨Bs, 0, none⟩ = some (.slice A vs.length cap) := (hnx.cell (p := ⟨Bs, 0, none⟩) hBl).trans hBs
    by_cases hlt : k < vs.length
    · obtain ⟨b, o, rfl, hb, hcs⟩ := hc (by omega)
      obtain ⟨i, hi⟩ : ∃ i, vs.length - 1 - k = i := ⟨_, rfl⟩
      have hil : i < vs.length := by omega
      have c0 : wr.cell? ⟨b, o + i * 2, none⟩ = some (.string (elt vs i).nm) := (hnx.cell (p := ⟨b, o + i * 2, none⟩) hb).trans (hcs i hil 0 (by omega))
      have c1 : wr.cell? ⟨b, o + i * 2 + 1, none⟩ = some (.string (elt vs i).tx) := (hnx.cell (p := ⟨b, o + i * 2 + 1, none⟩) hb).trans (hcs i hil 1 (by omega))
      obtain ⟨fn, tmps, assign, body, hy, hR⟩ := hY _ (i, elt vs i) wr hJs (by rw [bkUp_len]; exact hlt)
      dsimp only [bkEnc] at hy
      have hi2 : (vs.length : Int) - 1 - k = (i : Int) := by omega
      have hil2 : (i : Int) < (vs.length : Int) := by omega
      rw [hi2]
      gi_wp2
      refine hR.mono ?_
      rintro e W3 (⟨rfl, hJ3, hk3⟩ | ⟨rfl, hJx3⟩)
      · gi_wp2
        go_roundw
        case rel => exact ⟨k + 1, by omega, by go_num, by rw [bkUp_succ, hi]; exact hJ3, hnx.trans hk3⟩
        case measure => simp [intOf] <;> omega
      · gi_wp2
        refine bodyPost_ret (results_none rfl _ _ _) rfl ?_
        exact ⟨⟨_, rfl⟩, .inr ⟨_, ⟨k + 1, by omega, by rw [bkUp_succ, hi]⟩, hJx3⟩⟩
    · obtain rfl : k = vs.length := by omega
      have hi2 : (vs.length : Int) - 1 - vs.length = -1 := by omega
      rw [hi2]
      gi_wp2
      go_end0
      exact ⟨⟨_, rfl⟩, .inl ⟨_, rfl, hJs⟩⟩
set_option maxHeartbeats 1000000 in
theorem back_in (F : Fence) (n : Nat) (h5 : F.fn 168) (hro : F.round = none) (a : Option Addr) (len cap : Nat) (w : World) :
    CallsIn F n Tryz.prog 168 #[.slice a len cap] w fun e w' => e = .returned (.func (.func 186) #[] #[.pointer (some ⟨w.heap.size, 0, none⟩)]) ∧ w' = w.alloc (.cells #[.slice a len cap] 36) := by
  refine callsIn_of_wp Tryz.func168 rfl h5 ?_ hro
  simp only [Tryz.ntmps168, List.size_toArray, List.length_cons, List.length_nil, Nat.reduceAdd, Nat.reduceSub, Array.replicate_succ, Array.replicate_zero, List.push_toArray, List.append_toArray, List.nil_append, List.cons_append]
  gi_wp2
  go_ret
  exact ⟨rfl, rfl⟩
theorem back_stops (F : Fence) (n : Nat) (h7 : F.fn 186) (hro : F.round = none) (hn : 1 ≤ n) (Bs cap : Nat) (A : Option Addr) (vs : List PVar) (hsm : vs.length ≤ 9223372036854775807) (w : World) (hBs : Bs < w.heap.size)
    (hc : w.cell? ⟨Bs, 0, none⟩ = some (.slice A vs.length cap)) (hR : RowR w A vs.length 2 (varC vs)) :
    SeqStopsK F n Tryz.prog 186 #[.pointer (some ⟨Bs, 0, none⟩)] bkEnc (Below w.heap.size) (fun ys => ys = bkUp vs vs.length) (fun pre => ∃ k, k ≤ vs.length ∧ pre = bkUp vs k) vs.length w := fun l J Jx W hW _ _ hY h0 => by
  have hc' := (hW.cell (p := ⟨Bs, 0, none⟩) hBs).trans hc
  refine back1_in F n h7 hro hn l Bs w.heap.size cap A vs hsm hBs J Jx hY W hc' (fun h => ?_) h0
  obtain ⟨b, o, rfl, hcs⟩ := hR h
  have hb : b < w.heap.size := World.block_lt_of_cell? _ _ (hcs 0 h 0 (by omega))
  exact ⟨b, o, rfl, hb, fun i hi j hj => (hW.cell (p := ⟨b, o + i * 2 + j, none⟩) hb).trans (hcs i hi j hj)⟩
set_option maxRecDepth 100000 in
set_option maxHeartbeats 4000000 in
theorem value_in (F : Fence) (n : Nat) (h3 : F.fn 154) (h5 : F.fn 168) (h7 : F.fn 186) (hro : F.round = none) (hn : 3 ≤ n) (m : PMom) (Av : Option Addr) (cv : Nat) (nm : ByteArray) (w : World) (hR : RdVars w (.slice Av m.vars.length cv) m.vars) :
    CallsIn F n Tryz.prog 154 #[.agg #[.int .i64 m.kind, .int .i64 m.task, .int .i64 m.fn, .int .i64 m.line, .string m.text, .slice Av m.vars.length cv], .string nm] w fun e W' =>
      e = .returned (.tuple #[.string ((valP m.vars nm).getD ⟨#[]⟩), .bool (valP m.vars nm).isSome]) ∧ Below w.heap.size w W' := by
  have h1 : 1 ≤ n := by omega
  refine callsIn_of_wp_marks Tryz.func154 rfl h3 ?_ hro
  simp only [Tryz.ntmps154, List.size_toArray, List.length_cons, List.length_nil, Nat.reduceAdd, Nat.reduceSub, Array.replicate_succ, Array.replicate_zero, List.push_toArray, List.append_toArray, List.nil_append, List.cons_append]
  gi_wp2_with (gi_at_call 168; refine (back_in F (n - 1) h5 hro _ _ _ _).mono ?_; rintro e w' ⟨rfl, rfl⟩)
  have bN := (((Boxed.new (w.alloc (.cells #[.int .i64 m.kind, .int .i64 m.task, .int .i64 m.fn, .int .i64 m.line, .string m.text, .slice Av m.vars.length cv] 114)) 9 (.string nm)).alloc (.cells #[.string ⟨#[]⟩] 9)).alloc (.cells #[.bool false] 4)).alloc (.cells #[.slice Av m.vars.length cv] 36)
  have bS := ((Boxed.new ((w.alloc (.cells #[.int .i64 m.kind, .int .i64 m.task, .int .i64 m.fn, .int .i64 m.line, .string m.text, .slice Av m.vars.length cv] 114)).alloc (.cells #[.string nm] 9)) 9 (.string ⟨#[]⟩)).alloc (.cells #[.bool false] 4)).alloc (.cells #[.slice Av m.vars.length cv] 36)
  have bO := (Boxed.new (((w.alloc (.cells #[.int .i64 m.kind, .int .i64 m.task, .int .i64 m.fn, .int .i64 m.line, .string m.text, .slice Av m.vars.length cv] 114)).alloc (.cells #[.string nm] 9)).alloc (.cells #[.string ⟨#[]⟩] 9)) 4 (.bool false)).alloc (.cells #[.slice Av m.vars.length cv] 36)
  have bX := Boxed.new ((((w.alloc (.cells #[.int .i64 m.kind, .int .i64 m.task, .int .i64 m.fn, .int .i64 m.line, .string m.text, .slice Av m.vars.length cv] 114)).alloc (.cells #[.string nm] 9)).alloc (.cells #[.string ⟨#[]⟩] 9)).alloc (.cells #[.bool false] 4)) 36 (.slice Av m.vars.length cv)
  simp only [World.size_alloc] at bN bS bO bX
  have hB0 : Below w.heap.size w (((((w.alloc (.cells #[.int .i64 m.kind, .int .i64 m.task, .int .i64 m.fn, .int .i64 m.line, .string m.text, .slice Av m.vars.length cv] 114)).alloc (.cells #[.string nm] 9)).alloc (.cells #[.string ⟨#[]⟩] 9)).alloc (.cells #[.bool false] 4)).alloc (.cells #[.slice Av m.vars.length cv] 36)) := (by repeat (with_reducible first | exact Below.refl _ _ | exact HL.out | refine bl_drewN ?_ _ | refine bl_drew ?_ | refine bl_alloc ?_ _ | refine bl_set ?_ (by dsimp only; omega) _))
  have hsz : (((((w.alloc (.cells #[.int .i64 m.kind, .int .i64 m.task, .int .i64 m.fn, .int .i64 m.line, .string m.text, .slice Av m.vars.length cv] 114)).alloc (.cells #[.string nm] 9)).alloc (.cells #[.string ⟨#[]⟩] 9)).alloc (.cells #[.bool false] 4)).alloc (.cells #[.slice Av m.vars.length cv] 36)).heap.size = w.heap.size + 5 := by simp
  generalize hW0 : World.alloc (World.alloc (World.alloc (World.alloc (World.alloc w _) _) _) _) _ = W0 at bN bS bO bX hB0 hsz ⊢
  clear hW0
  obtain ⟨a', c', he, hlm, hrow⟩ := hR.later hB0
  obtain ⟨rfl, -, rfl⟩ : Av = a' ∧ m.vars.length = m.vars.length ∧ cv = c' := by simpa using he
  refine wpIn_rangeFunc_ownH hro h1 (gf := 186) (lb := #[.pointer (some ⟨w.heap.size + 1 + 1 + 1 + 1, 0, none⟩)]) rfl h7 (enters_of Tryz.func186 (by kernel_rfl) rfl)
    (back_stops F (n - 1) h7 hro (by omega) (w.heap.size + 1 + 1 + 1 + 1) cv Av m.vars hlm W0 (by omega) bX.cell hrow) belowK_t (belowK_b (Nat.le_refl _)) (Below.refl _ _) (fun _ => rfl)
    (fun pre W => (((∀ y ∈ pre, y.2.nm ≠ nm) ∧ Boxed W (w.heap.size + 1) 9 (.string nm) ∧ Boxed W (w.heap.size + 1 + 1 + 1 + 1) 36 (.slice Av m.vars.length cv)) ∧ Boxed W (w.heap.size + 1 + 1) 9 (.string ⟨#[]⟩) ∧ Boxed W (w.heap.size + 1 + 1 + 1) 4 (.bool false)) ∧ Below w.heap.size w W)
    (fun c pre W => (c = .ret ∧ ∃ ini last, pre = ini ++ [last] ∧ (∀ y ∈ ini, y.2.nm ≠ nm) ∧ last.2.nm = nm ∧ Boxed W (w.heap.size + 1 + 1) 9 (.string last.2.tx) ∧ Boxed W (w.heap.size + 1 + 1 + 1) 4 (.bool true)) ∧ Below w.heap.size w W)
    (OwnFrom.and (OwnFrom.and (OwnFrom.and (ownFrom_pure _ _) (OwnFrom.and (Own.from (boxed_own _ _ _) _) (Own.from (boxed_own _ _ _) _))) (OwnFrom.and (Own.from (boxed_own _ _ _) _) (Own.from (boxed_own _ _ _) _))) (ownFrom_below (Nat.le_refl _) (by omega)))
    (fun c => OwnFrom.and (fun s X Y row hs hg hr => by
      obtain ⟨hc, ini, last, e1, e2, e3, e4, e5⟩ := hs
      exact ⟨hc, ini, last, e1, e2, e3, boxed_own _ _ (fun (_ : Unit) => Value.string last.2.tx) () X Y row e4 hg (fun r e => (hr r e).2), boxed_own _ _ (fun (_ : Unit) => Value.bool true) () X Y row e5 hg (fun r e => (hr r e).2)⟩) (ownFrom_below (Nat.le_refl _) (by omega)))
    ⟨⟨⟨by simp, bN, bX⟩, bS, bO⟩, hB0⟩
    (fun x a' W => ∃ Bx, w.heap.size + 4 < Bx ∧ W.cell? ⟨Bx, 0, none⟩ = some (.string x.2.nm) ∧ W.cell? ⟨Bx, 1, none⟩ = some (.string x.2.tx) ∧
      a' = { tmps := #[.agg #[.int .i64 m.kind, .int .i64 m.task, .int .i64 m.fn, .int .i64 m.line, .string m.text, .slice Av m.vars.length cv], .string nm, .pointer (some ⟨w.heap.size, 0, none⟩), .pointer (some ⟨w.heap.size + 1, 0, none⟩), .pointer (some ⟨w.heap.size + 1 + 1, 0, none⟩), .pointer (some ⟨w.heap.size + 1 + 1 + 1, 0, none⟩), undef, .pointer (some ⟨Bx, 0, none⟩), .pointer (some ⟨w.heap.size, 5, none⟩), .slice Av m.vars.length cv, .func (.func 186) #[] #[.pointer (some ⟨w.heap.size + 1 + 1 + 1 + 1, 0, none⟩)], .int .i64 (x.1 : Int), .agg #[.string x.2.nm, .string x.2.tx], undef, undef, undef, undef, undef, undef], defers := [] })
    (fun x a' _ X Y row hs hg hr => by
      obtain ⟨Bx, h1, h2, h3, h4⟩ := hs
      exact ⟨Bx, h1, cell_kept h2 hg (fun r e => (hr r e).2), cell_kept h3 hg (fun r e => (hr r e).2), h4⟩)
    ?assign ?body ?done ?stop
  case assign =>
    rintro l pre x W K ⟨⟨⟨hp, bN1, bX1⟩, bS1, bO1⟩, hB1⟩ hK
    have hlt := bX1.lt
    gi_wp2
    exact hK _ _ ((KeepsOthers.alloc _ _).from _) ((Below.refl _ W).alloc (by omega) _) ⟨⟨⟨hp, bN1.alloc _, bX1.alloc _⟩, bS1.alloc _, bO1.alloc _⟩, hB1.alloc hB1.size _⟩ ⟨W.heap.size, by omega, (Blk.made W #[.string x.2.nm, .string x.2.tx] 40).cell (j := 0) (by simp), (Blk.made W #[.string x.2.nm, .string x.2.tx] 40).cell (j := 1) (by simp), rfl⟩
  case body =>
    rintro l pre x a' W hl ⟨r, hr⟩ ⟨⟨⟨hp, bN1, bX1⟩, bS1, bO1⟩, hB1⟩ ⟨Bx, hBx, x0, x1, rfl⟩ hlt
    have cN := bN1.cell
    have cS := bS1.cell
    have fS := bS1.frozen
    have cO := bO1.cell
    have fO := bO1.frozen
    gi_wp2
    · have hx : x.2.nm = nm := by rename_i hx; exact ba_eq (eq_of_beq hx)
      exact ⟨((KeepsOthers.setCell _ _ _).trans (KeepsOthers.setCell _ _ _)).from _, ⟨rfl, pre, x, rfl, hp, hx, (bS1.set _).other (by omega) _, (bO1.other (by omega) _).set _⟩, (hB1.setCell (p := ⟨w.heap.size + 1 + 1, 0, none⟩) (by simp; omega) _).setCell (p := ⟨w.heap.size + 1 + 1 + 1, 0, none⟩) (by simp; omega) _⟩
    · have hx : x.2.nm ≠ nm := by rename_i hx; exact fun hh => by rw [hh] at hx; simp at hx
      exact ⟨KeepsFrom.refl _ _, Below.refl _ _, ⟨⟨fun y hy => (List.mem_append.1 hy).elim (hp y) (fun e => by simp at e; subst e; exact hx), bN1, bX1⟩, bS1, bO1⟩, hB1⟩
  case done =>
    rintro D ys W hD rfl ⟨⟨⟨hne, _⟩, bS1, bO1⟩, hB⟩ hK
    have cS := bS1.cell
    have fS := bS1.frozen
    have cO := bO1.cell
    have fO := bO1.frozen
    gi_wp2
    have hK' := ((KeepsOthers.setCell W ⟨w.heap.size + 1 + 1, 0, none⟩ (.string ⟨#[]⟩)).trans (KeepsOthers.setCell _ ⟨w.heap.size + 1 + 1 + 1, 0, none⟩ (.bool false))).same D _ hK rfl
    refine ⟨by simp, .inl ⟨_, _, rfl, run_takeDeferred hK', ?_⟩⟩
    have hc5 := cell_kept ((bS1.set (.string ⟨#[]⟩)).other (B' := w.heap.size + 1 + 1 + 1) (by omega) (.bool false)).cell (grownBy_putObj' _ D (.deferred none)) (fun r e => by cases e; exact ⟨_, hK', rfl⟩)
    have hc6 := cell_kept ((bO1.other (B' := w.heap.size + 1 + 1) (by omega) (.string ⟨#[]⟩)).set (.bool false)).cell (grownBy_putObj' _ D (.deferred none)) (fun r e => by cases e; exact ⟨_, hK', rfl⟩)
    have hv : valP m.vars nm = none := valP_none fun j hj => hne (j, elt m.vars j) (by
      simp only [bkUp, List.mem_map, List.mem_range]
      exact ⟨m.vars.length - 1 - j, by omega, by rw [show m.vars.length - 1 - (m.vars.length - 1 - j) = j by omega]⟩)
    refine ⟨.tuple #[.string ⟨#[]⟩, .bool false], ?_, by rw [hv]; rfl, ((hB.setCell (p := ⟨w.heap.size + 1 + 1, 0, none⟩) (by simp; omega) _).setCell (p := ⟨w.heap.size + 1 + 1 + 1, 0, none⟩) (by simp; omega) _).trans (belowK_b (w := w) (Nat.le_refl _) _ D _ _ (by omega) hK' rfl rfl)⟩
    simp [results, Tryz.f154, go_sem, hc5, hc6]
  case stop =>
    rintro D c pre W hD ⟨k, hk, rfl⟩ ⟨⟨rfl, ini, last, e1, e2, e3, bS1, bO1⟩, hB⟩ hK
    gi_wp2
    refine ⟨by simp, .inl ⟨_, _, rfl, run_takeDeferred hK, ?_⟩⟩
    have hc5 := cell_kept bS1.cell (grownBy_putObj' _ D (.deferred none)) (fun r e => by cases e; exact ⟨_, hK, rfl⟩)
    have hc6 := cell_kept bO1.cell (grownBy_putObj' _ D (.deferred none)) (fun r e => by cases e; exact ⟨_, hK, rfl⟩)
    obtain ⟨k', rfl⟩ : ∃ k', k = k' + 1 := by
      cases k with
      | zero => simp [bkUp] at e1
      | succ k' => exact ⟨k', rfl⟩
    rw [bkUp_succ] at e1
    obtain ⟨rfl, e5⟩ := List.append_inj' e1 rfl
    obtain rfl : (m.vars.length - 1 - k', elt m.vars (m.vars.length - 1 - k')) = last := by simpa using e5
    have hv := valP_hit (vs := m.vars) (nm := nm) (i := m.vars.length - 1 - k') (by omega) (fun j hj hj2 => e2 (j, elt m.vars j) (by
      simp only [bkUp, List.mem_map, List.mem_range]
      exact ⟨m.vars.length - 1 - j, by omega, by rw [show m.vars.length - 1 - (m.vars.length - 1 - j) = j by omega]⟩)) e3
    refine ⟨.tuple #[.string (elt m.vars (m.vars.length - 1 - k')).tx, .bool true], ?_, by rw [hv]; rfl, hB.trans (belowK_b (w := w) (Nat.le_refl _) W D _ _ (by omega) hK rfl rfl)⟩
    simp [results, Tryz.f154, go_sem, hc5, hc6]
theorem value_calls (m : PMom) (Av : Option Addr) (cv : Nat) (nm : ByteArray) (w : World) (hR : RdVars w (.slice Av m.vars.length cv) m.vars) :
    Calls Tryz.prog 154 #[.agg #[.int .i64 m.kind, .int .i64 m.task, .int .i64 m.fn, .int .i64 m.line, .string m.text, .slice Av m.vars.length cv], .string nm] w fun e W' =>
      e = .returned (.tuple #[.string ((valP m.vars nm).getD ⟨#[]⟩), .bool (valP m.vars nm).isSome]) ∧ Below w.heap.size w W' :=
  callsIn_wide.1 (value_in Fence.wide 3 trivial trivial trivial rfl (Nat.le_refl _) m Av cv nm w hR)
end Go.Proofs.YtcklnjjbhngbcaaGreatDoor
