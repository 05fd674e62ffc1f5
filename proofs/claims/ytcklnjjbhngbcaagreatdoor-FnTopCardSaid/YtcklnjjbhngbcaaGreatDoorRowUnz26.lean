/- Lemmas and contracts of functions that the theorem of this claim leans on (texts T1, T2). -/
import Derived.Deep.DeepCutAuto
import Derived.Deep.CutBlock
import Derived.Deep.QuietTactic
import Derived.BigQuiet
import Derived.Test.YtcklnjjbhngbcaaGreatDoorRowUnz02
import Derived.Test.YtcklnjjbhngbcaaGreatDoorRowUnz05
import Derived.Deep.RegionHeld3
import Derived.IntWalk
import Derived.StillTailTactics
import Derived.Deep.RegionHeldLaw
import Derived.Deep.DrawnRows
import Derived.Test.YtcklnjjbhngbcaaGreatDoorRowUnz06
namespace Go.Proofs.YtcklnjjbhngbcaaGreatDoor
open Go.RowKit Go.Proofs.Lens

theorem i_frame : (Tryz.prog.info? 42).map (fun i => (i.zero, i.size, i.bytes)) = some (some (.agg #[.int .i64 0, .int .i64 0, .int .i64 0]), 3, 24) := by kernel_rfl
theorem i_frames : (Tryz.prog.info? 35).map (fun i => (i.zero, i.size, i.bytes)) = some (some (.slice none 0 0), 1, 24) := by kernel_rfl

/-- A quiet contract behind draws that the walk has joined. -/
theorem quiet_joined {P : Program} {f : FuncId} {args : Array Value} {w : World} {a n : Nat} {v : Value} (h : Calls P f args (w.drewN (a + n)) fun e w' => e = .returned v ∧ ∃ m, w' = (w.drewN (a + n)).drewN m) :
    Calls P f args (w.drewN (a + n)) fun e w'' => e = .returned v ∧ ∃ m, w'' = w.drewN (a + m) := by
  refine h.mono ?_
  rintro e w1 ⟨he, m, rfl⟩
  exact ⟨he, n + m, by rw [World.drewN_drewN, Nat.add_assoc]⟩
/-- The walk's blocks. -/
structure IsS (w : World) (lo g T : Nat) (s : PS) (f : Nat → Value) : Prop where
  lo1 : lo ≤ g
  lo2 : lo ≤ T
  blk : Blk w g 161 2 (fun j => match j with | 0 => .slice (some ⟨T, 0, none⟩) 101 101 | _ => .int .i64 s.cur)
  tb : Blk w T 35 101 f
  row : ∀ i : Nat, i < 101 → OwR w lo 42 3 (s.stk i).length (frC (s.stk i).reverse) (f i)
  ne : ∀ i j : Nat, i < 101 → j < 101 → i ≠ j → ∀ b, (f i).ownBlock = some b → (f j).ownBlock ≠ some b
theorem IsS.later {w w' : World} {lo g T : Nat} {s : PS} {f : Nat → Value} (h : IsS w lo g T s f) (hb : Below w.heap.size w w') : IsS w' lo g T s f :=
  ⟨h.lo1, h.lo2, h.blk.later hb, h.tb.later hb, fun i hi => (h.row i hi).later hb, h.ne⟩
theorem IsS.lower {w : World} {lo lo' g T : Nat} {s : PS} {f : Nat → Value} (h : IsS w lo g T s f) (hl : lo' ≤ lo) : IsS w lo' g T s f :=
  ⟨Nat.le_trans hl h.lo1, Nat.le_trans hl h.lo2, h.blk, h.tb, fun i hi => (h.row i hi).lower hl, h.ne⟩

set_option maxRecDepth 100000 in
set_option maxHeartbeats 400000 in
theorem l1begin_calls (w : World) : Calls Tryz.prog 76 #[] w fun e w' =>
    ∃ g T f, e = .returned (.pointer (some ⟨g, 0, none⟩)) ∧ IsS w' w.heap.size g T ps0 f ∧ Below w.heap.size w w' := by
  obtain ⟨C, hC, hc, hmk⟩ := make_law (P := Tryz.prog) 159 35 Tryz.underlying159 i_frames 101 (by omega) (by omega)
  have HC := Lib.hid hC
  have Hc := Lib.hid hc
  clear hC hc
  have hmk' : ∀ w : World, (Instr.makeSlice 159 (.int .i64 101) (.int .i64 101)).run Tryz.prog w = .ok (.slice (some ⟨w.heap.size, 0, none⟩) 101 101) (w.alloc (.cells C 35)) := hmk
  go_enter Tryz.func76, Tryz.ntmps76
  go_upto_region 2 with fail
  generalize hW : World.alloc (World.alloc w _) _ = W
  have hb : Below w.heap.size w W := by rw [← hW]; exact (by repeat (with_reducible first | exact Below.refl _ _ | exact HL.out | refine bl_drewN ?_ _ | refine bl_drew ?_ | refine bl_alloc ?_ _ | refine bl_set ?_ (by dsimp only; omega) _))
  have hB1 : Blk W (w.heap.size + 1) 161 2 (fun j => match j with | 0 => .slice (some ⟨w.heap.size, 0, none⟩) 101 101 | _ => .int .i64 0) := by
    rw [← hW]
    have := Blk.made (w.alloc (.cells C 35)) #[.slice (some ⟨w.heap.size, 0, none⟩) 101 101, .int .i64 0] 161
    rw [World.size_alloc] at this
    exact this.congr fun j hj => by match j, hj with | 0, _ => rfl | 1, _ => rfl
  have hB2 : Blk W w.heap.size 35 101 (fun _ => .slice none 0 0) := by
    rw [← hW]
    have := (Blk.new w C 35 (fun _ => .slice none 0 0) (fun j hj => by
      have := Hc.out j (by rw [← HC.out]; exact hj)
      rw [this]
      show some ((Value.slice none 0 0).cells[j % 1]!) = _
      rw [Nat.mod_one]
      rfl))
    rw [show C.size = 101 from HC.out] at this
    exact this.alloc _
  have hsz : W.heap.size = w.heap.size + 2 := by rw [← hW]; simp
  have x0 : W.cell? ⟨w.heap.size + 1, 0, none⟩ = some (.slice (some ⟨w.heap.size, 0, none⟩) 101 101) := hB1.cell (j := 0) (by omega)
  have x1 := hB2.cell (j := 0) (by omega)
  have x2 := hB2.free 0
  have H1 := Lib.hid hB1
  have H2 := Lib.hid hB2
  have HL := Lib.hid hb
  have HS := Lib.hid hsz
  have y1 : w.heap.size < W.heap.size := by omega
  have y2 : w.heap.size + 1 < W.heap.size := by omega
  clear hW hb hB1 hB2 hsz
  go_wp2
  go_ret
  have hs := HS.out
  rw [← World.setCell_alloc_past _ _ _ _ y1]
  have hnew := Blk.made W #[.int .i64 0, .int .i64 0, .int .i64 (-1)] 42
  refine ⟨w.heap.size + 1, w.heap.size, _, rfl, ⟨by omega, by omega, (H1.out.alloc _).far (by simp) _, (H2.out.alloc _).set (by omega) _, fun i hi => ?_, fun i j hi hj hne b hb => ?_⟩, (by repeat (with_reducible first | exact Below.refl _ _ | exact HL.out | refine bl_drewN ?_ _ | refine bl_drew ?_ | refine bl_alloc ?_ _ | refine bl_set ?_ (by dsimp only; omega) _))⟩
  · by_cases h0 : i = 0
    · subst h0
      rw [upd_same]
      refine .inr ⟨W.heap.size, 1, _, rfl, by omega, by simp [ps0], by simp [maxLen], hnew.far (by dsimp only; omega) _, fun i hi j hj => ?_⟩
      obtain rfl : i = 0 := by simp [ps0] at hi; omega
      match j, hj with
      | 0, _ => rfl
      | 1, _ => rfl
      | 2, _ => rfl
    · rw [upd_ne _ _ h0]
      refine .inl ⟨rfl, ?_⟩
      simp [ps0, h0]
  · by_cases h0 : i = 0
    · subst h0
      rw [upd_ne _ _ (fun h => hne h.symm)]
      simp [Value.ownBlock]
    · rw [upd_ne _ _ h0] at hb
      cases hb

/-- What the running task's cell and the walk's two cells hold. -/
theorem IsS.heads {w : World} {lo g T : Nat} {s : PS} {f : Nat → Value} (h : IsS w lo g T s f) (hlo : 0 ≤ s.cur) (hhi : s.cur ≤ 100) :
    ∃ A cap, w.cell? ⟨g, 0, none⟩ = some (.slice (some ⟨T, 0, none⟩) 101 101) ∧ w.cell? ⟨g, 1, none⟩ = some (.int .i64 s.cur) ∧ w.cell? ⟨T, s.cur.toNat, none⟩ = some (.slice A s.top.length cap) ∧
      s.top.length ≤ cap ∧ cap ≤ 9223372036854775807 ∧ f s.cur.toNat = .slice A s.top.length cap ∧ OwR w lo 42 3 s.top.length (frC s.top.reverse) (.slice A s.top.length cap) := by
  have c0 : w.cell? ⟨g, 0, none⟩ = some (.slice (some ⟨T, 0, none⟩) 101 101) := h.blk.cell (j := 0) (by omega)
  have c1 : w.cell? ⟨g, 1, none⟩ = some (.int .i64 s.cur) := h.blk.cell (j := 1) (by omega)
  have hr := h.row s.cur.toNat (by omega)
  rw [Int.toNat_of_nonneg hlo] at hr
  obtain ⟨A, cap, hv, hc1, hc2⟩ := hr.cap
  rw [hv] at hr
  exact ⟨A, cap, c0, c1, (h.tb.cell (by omega)).trans (by rw [hv]; rfl), hc1, hc2, hv, hr⟩
theorem elt_rev (f : PFr) (r : List PFr) : elt (f :: r).reverse r.length = f := by
  rw [elt_eq (by simp)]; simp
theorem elt_rev_lt (f : PFr) (r : List PFr) {i : Nat} (hi : i < r.length) : elt (f :: r).reverse i = elt r.reverse i := by
  rw [elt_eq (by simp; omega), elt_eq (by simpa using hi)]
  simp [List.reverse_cons, hi]
/-- The innermost open call's cells. -/
theorem IsS.tops {w : World} {lo g T : Nat} {s : PS} {f : Nat → Value} (h : IsS w lo g T s f) (hlo : 0 ≤ s.cur) (hhi : s.cur ≤ 100) {fr : PFr} {r : List PFr} (hs : s.top = fr :: r) :
    ∃ b cap, w.cell? ⟨g, 0, none⟩ = some (.slice (some ⟨T, 0, none⟩) 101 101) ∧ w.cell? ⟨g, 1, none⟩ = some (.int .i64 s.cur) ∧ w.cell? ⟨T, s.cur.toNat, none⟩ = some (.slice (some ⟨b, 0, none⟩) (r.length + 1) cap) ∧
      r.length + 1 ≤ cap ∧ cap ≤ 9223372036854775807 ∧ f s.cur.toNat = .slice (some ⟨b, 0, none⟩) (r.length + 1) cap ∧ OwR w lo 42 3 (r.length + 1) (frC (fr :: r).reverse) (.slice (some ⟨b, 0, none⟩) (r.length + 1) cap) ∧
      w.cell? ⟨b, r.length * 3, none⟩ = some (.int .i64 fr.fn) ∧ w.cell? ⟨b, r.length * 3 + 1, none⟩ = some (.int .i64 fr.line) ∧ w.cell? ⟨b, r.length * 3 + 2, none⟩ = some (.int .i64 fr.frm) ∧
      (∀ j, w.frozen? ⟨b, j, none⟩ = false) ∧ lo ≤ b ∧ b < w.heap.size ∧ b ≠ g ∧ b ≠ T := by
  obtain ⟨A, cap, h0, h1, h2, h3, h4, h5, h6⟩ := h.heads hlo hhi
  rw [hs] at h2 h3 h5 h6
  have hne : ∀ b, A = some ⟨b, 0, none⟩ → b ≠ g ∧ b ≠ T := by
    rintro b rfl
    rcases h6 with ⟨hh, _⟩ | ⟨b', cap', f', hh, _, _, _, hB, _⟩
    · cases hh
    · cases hh
      exact ⟨hB.ne h.blk (by decide), hB.ne h.tb (by decide)⟩
  obtain ⟨A', cap', hv, hop⟩ := h6.open'
  obtain ⟨rfl, rfl⟩ : A = A' ∧ cap = cap' := by simpa using hv
  obtain ⟨b, rfl, hl, hlt, hc, hf⟩ := hop (by simp)
  have e := elt_rev fr r
  have c0 := hc r.length (by simp) 0 (by omega)
  have c1 := hc r.length (by simp) 1 (by omega)
  have c2 := hc r.length (by simp) 2 (by omega)
  simp only [frC, e] at c0 c1 c2
  obtain ⟨n1, n2⟩ := hne b rfl
  exact ⟨b, cap, h0, h1, h2, h3, h4, h5, h6, c0, c1, c2, hf, hl, hlt, n1, n2⟩

set_option maxRecDepth 100000 in
set_option maxHeartbeats 400000 in
theorem top_calls (lo g T : Nat) (s : PS) (f : Nat → Value) (w : World) (h : IsS w lo g T s f) (hlo : 0 ≤ s.cur) (hhi : s.cur ≤ 100) :
    Calls Tryz.prog 84 #[.pointer (some ⟨g, 0, none⟩)] w fun e w' => e = .returned (.int .i64 (s.top.length - 1)) ∧ ∃ m, w' = w.drewN m := by
  obtain ⟨A, cap, c0, c1, c2, h3, h4, -, -⟩ := h.heads hlo hhi
  have hn : s.top.length ≤ 9223372036854775807 := by omega
  have hx : s.cur < 101 := by omega
  clear h h3 h4
  go_enter Tryz.func84, Tryz.ntmps84
  go_wp2_with (go_quiet (fail))
  go_ret
  exact ⟨ret_int (by go_num), _, rfl⟩
theorem top_cons (lo g T : Nat) (s : PS) (f : Nat → Value) (w : World) (h : IsS w lo g T s f) (hlo : 0 ≤ s.cur) (hhi : s.cur ≤ 100) {fr : PFr} {r : List PFr} (hs : s.top = fr :: r) :
    Calls Tryz.prog 84 #[.pointer (some ⟨g, 0, none⟩)] w fun e w' => e = .returned (.int .i64 r.length) ∧ ∃ m, w' = w.drewN m := by
  refine (top_calls lo g T s f w h hlo hhi).mono ?_
  rintro e w1 ⟨rfl, hm⟩
  exact ⟨ret_int (by rw [hs, List.length_cons]; omega), hm⟩
theorem top_nil (lo g T : Nat) (s : PS) (f : Nat → Value) (w : World) (h : IsS w lo g T s f) (hlo : 0 ≤ s.cur) (hhi : s.cur ≤ 100) (hs : s.top = []) :
    Calls Tryz.prog 84 #[.pointer (some ⟨g, 0, none⟩)] w fun e w' => e = .returned (.int .i64 (-1)) ∧ ∃ m, w' = w.drewN m := by
  refine (top_calls lo g T s f w h hlo hhi).mono ?_
  rintro e w1 ⟨rfl, hm⟩
  exact ⟨ret_int (by rw [hs]; rfl), hm⟩
theorem IsS.drewN {w : World} {lo g T : Nat} {s : PS} {f : Nat → Value} (h : IsS w lo g T s f) (n : Nat) : IsS (w.drewN n) lo g T s f := h.later (bl_drewN (Below.refl _ _) _)

def fnP (s : PS) : Int := match s.top with | [] => 0 | f :: _ => f.fn
set_option maxRecDepth 100000 in
set_option maxHeartbeats 400000 in
theorem fn_calls (lo g T : Nat) (s : PS) (f : Nat → Value) (w : World) (h : IsS w lo g T s f) (hlo : 0 ≤ s.cur) (hhi : s.cur ≤ 100) :
    Calls Tryz.prog 82 #[.pointer (some ⟨g, 0, none⟩)] w fun e w' => e = .returned (.int .i64 (fnP s)) ∧ ∃ m, w' = w.drewN m := by
  have H := Lib.hid h
  cases hs : s.top with
  | nil =>
    have HS := Lib.hid hs
    clear h hs
    go_enter Tryz.func82, Tryz.ntmps82
    go_wp2_with (first | (go_at_call 84; refine (top_nil lo g T s f _ H.out hlo hhi HS.out).mono ?_; rintro e w1 ⟨rfl, m, rfl⟩))
    go_ret
    exact ⟨ret_int (by unfold fnP; rw [HS.out]), _, rfl⟩
  | cons fr r =>
    obtain ⟨b, cap, c0, c1, c2, h3, h4, -, -, d0, -, -, -, -, hb, -, -⟩ := h.tops hlo hhi hs
    have HS := Lib.hid hs
    have hx : s.cur < 101 := by omega
    have h1 : (r.length : Int) < ((r.length + 1 : Nat) : Int) := by omega
    have h0 : (0 : Int) ≤ (r.length : Int) := by omega
    have hd : decide ((r.length : Int) < 0) = false := by simp
    have ht : (r.length : Int).toNat = r.length := by simp
    clear h hs
    go_enter Tryz.func82, Tryz.ntmps82
    go_wp2_with (first | (go_at_call 84; refine (top_cons lo g T s f _ H.out hlo hhi HS.out).mono ?_; rintro e w1 ⟨rfl, m, rfl⟩))
    go_quiet ((go_at_call 84; exact quiet_joined (top_cons lo g T s f _ (H.out.drewN _) hlo hhi HS.out)))
    go_wp2
    go_ret
    exact ⟨ret_int (by unfold fnP; rw [HS.out]), _, World.drewN_drewN _ _ _⟩
end Go.Proofs.YtcklnjjbhngbcaaGreatDoor

namespace Go.Proofs.YtcklnjjbhngbcaaGreatDoor
open Go.RowKit Go.Proofs.Lens
set_option linter.unusedSimpArgs false

/-- The types of the walk's own blocks. -/
def sTys : List TypeId := [161, 35, 42]
theorem i_frame_open : ∃ i, Tryz.prog.info? 42 = some i ∧ i.zero = some (.agg #[.int .i64 0, .int .i64 0, .int .i64 0]) ∧ i.size = 3 ∧ i.bytes = 24 := by
  have h := i_frame
  cases hi : Tryz.prog.info? 42 with
  | none => rw [hi] at h; cases h
  | some i => rw [hi] at h; simp only [Option.map_some, Option.some.injEq, Prod.mk.injEq] at h; exact ⟨i, rfl, h.1, h.2.1, h.2.2⟩

/-- A store of the running task. -/
theorem IsS.setCur {w : World} {lo g T : Nat} {s : PS} {f : Nat → Value} (h : IsS w lo g T s f) (x : Int) : IsS (w.setCell ⟨g, 1, none⟩ (.int .i64 x)) lo g T ⟨x, s.stk⟩ f := by
  refine ⟨h.lo1, h.lo2, (h.blk.set (by omega) _).congr fun j hj => ?_, h.tb.far (fun hh => h.tb.ne h.blk (by decide) hh) _, fun i hi => (h.row i hi).other h.blk (by decide) _ _, h.ne⟩
  match j, hj with
  | 0, _ => rfl
  | 1, _ => rfl
/-- All but the running task's calls. -/
structure IsSx (w : World) (lo g T : Nat) (s : PS) (f : Nat → Value) : Prop where
  lo1 : lo ≤ g
  lo2 : lo ≤ T
  blk : Blk w g 161 2 (fun j => match j with | 0 => .slice (some ⟨T, 0, none⟩) 101 101 | _ => .int .i64 s.cur)
  tb : Blk w T 35 101 f
  row : ∀ i : Nat, i < 101 → i ≠ s.cur.toNat → OwR w lo 42 3 (s.stk i).length (frC (s.stk i).reverse) (f i)
  ne : ∀ i j : Nat, i < 101 → j < 101 → i ≠ j → ∀ b, (f i).ownBlock = some b → (f j).ownBlock ≠ some b
theorem IsS.x {w : World} {lo g T : Nat} {s : PS} {f : Nat → Value} (h : IsS w lo g T s f) : IsSx w lo g T s f := ⟨h.lo1, h.lo2, h.blk, h.tb, fun i hi _ => h.row i hi, h.ne⟩
theorem IsSx.later {w w' : World} {lo g T : Nat} {s : PS} {f : Nat → Value} (h : IsSx w lo g T s f) (hb : Below w.heap.size w w') : IsSx w' lo g T s f :=
  ⟨h.lo1, h.lo2, h.blk.later hb, h.tb.later hb, fun i hi hc => (h.row i hi hc).later hb, h.ne⟩
theorem IsS.neb {w : World} {lo g T : Nat} {s : PS} {f : Nat → Value} (h : IsS w lo g T s f) {i : Nat} (hi : i < 101) : (f i).ownBlock ≠ some g ∧ (f i).ownBlock ≠ some T := by
  refine ⟨fun hb => ?_, fun hb => ?_⟩
  · obtain ⟨N, f', hB⟩ := (h.row i hi).block hb
    exact hB.ne h.blk (by decide) rfl
  · obtain ⟨N, f', hB⟩ := (h.row i hi).block hb
    exact hB.ne h.tb (by decide) rfl
theorem IsS.grown {w w1 : World} {lo g T : Nat} {s : PS} {f : Nat → Value} (h : IsS w lo g T s f) (hlo : 0 ≤ s.cur) (hhi : s.cur ≤ 100) (hg : w.grownBy w1 (f s.cur.toNat).ownBlock) : IsSx w1 lo g T s f := by
  obtain ⟨n1, n2⟩ := h.neb (i := s.cur.toNat) (by omega)
  exact ⟨h.lo1, h.lo2, h.blk.keep (hg.block g h.blk.lt (fun hh => n1 hh.symm)), h.tb.keep (hg.block T h.tb.lt (fun hh => n2 hh.symm)), fun i hi hc => (h.row i hi).grown hg (fun b hb hh => h.ne i s.cur.toNat hi (by omega) hc b hb hh), h.ne⟩
/-- A store of the running task's calls. -/
theorem IsSx.setRow {w : World} {lo g T : Nat} {s : PS} {f : Nat → Value} (h : IsSx w lo g T s f) (hlo : 0 ≤ s.cur) (hhi : s.cur ≤ 100) {v : Value} {l : List PFr} (hv : OwR w lo 42 3 l.length (frC l.reverse) v)
    (hne : ∀ i : Nat, i < 101 → i ≠ s.cur.toNat → ∀ b, v.ownBlock = some b → (f i).ownBlock ≠ some b) : IsS (w.setCell ⟨T, s.cur.toNat, none⟩ v) lo g T (s.put l) (upd f s.cur.toNat v) := by
  refine ⟨h.lo1, h.lo2, h.blk.far (fun hh => h.blk.ne h.tb (by decide) hh) _, h.tb.set (by omega) _, fun i hi => ?_, fun i j hi hj hij b hb => ?_⟩
  · by_cases hc : i = s.cur.toNat
    · rw [hc, upd_same]
      have e : (s.put l).stk ((s.cur.toNat : Nat) : Int) = l := by rw [Int.toNat_of_nonneg hlo]; simp [PS.put]
      rw [e]
      exact hv.other h.tb (by decide) _ _
    · rw [upd_ne _ _ hc]
      have e : (s.put l).stk (i : Int) = s.stk i := by simp only [PS.put]; rw [if_neg (by omega)]
      rw [e]
      exact (h.row i hi hc).other h.tb (by decide) _ _
  · by_cases hc : i = s.cur.toNat
    · rw [hc, upd_same] at hb
      rw [upd_ne _ _ (by omega)]
      exact hne j hj (by omega) b hb
    · rw [upd_ne _ _ hc] at hb
      by_cases hd : j = s.cur.toNat
      · rw [hd, upd_same]
        exact fun hh => hne i hi hc b hh hb
      · rw [upd_ne _ _ hd]
        exact h.ne i j hi hj hij b hb

set_option maxRecDepth 100000 in
set_option maxHeartbeats 2000000 in
theorem move_turn (lo g T : Nat) (s : PS) (f : Nat → Value) (m : PMom) (Av : Option Addr) (nv cv : Nat) (k : Nat) (w : World) (h : IsS w lo g T s f) (hlo : 0 ≤ s.cur) (hhi : s.cur ≤ 100) (hkind : m.kind = 7) :
    Calls Tryz.prog 77 #[.pointer (some ⟨g, 0, none⟩), .agg #[.int .i64 m.kind, .int .i64 m.task, .int .i64 m.fn, .int .i64 m.line, .string m.text, .slice Av nv cv], .int .i64 k] w fun e w' =>
      e = .returned (.int .i64 (checkP s m)) ∧ Mv sTys lo w w' ∧ (checkP s m = 0 → ∃ f', IsS w' lo g T (stepP s m k) f') := by
  have hgw := h.blk.lt
  have hTw := h.tb.lt
  have hl1 := h.lo1
  have hl2 := h.lo2
  have hgT : g ≠ T := h.blk.ne h.tb (by decide)
  have H := Lib.hid h
  have hx : s.cur < 101 := by omega
  obtain ⟨A, cap, c0, c1, -, -, -, -, -⟩ := h.heads hlo hhi
  have cf := h.blk.free 1
  have hd : (m.kind == 7) = true := by simp [hkind]
  have HK := Lib.hid hkind
  clear h hkind
  go_enter Tryz.func77, Tryz.ntmps77
  go_wp2
  go_ret
  have e : checkP s m = 0 := by unfold checkP; rw [if_pos HK.out]
  have e2 : stepP s m k = ⟨m.task, s.stk⟩ := by unfold stepP; rw [if_pos HK.out]
  rw [e2, ← World.setCell_alloc_past _ _ _ _ hgw]
  exact ⟨ret_int e.symm, ((Mv.refl _ _ _).alloc (by omega) _).set (by dsimp only; omega) (H.out.blk.alloc _) (by decide) _, fun _ => ⟨_, (H.out.later (bl_alloc (Below.refl _ _) _)).setCur _⟩⟩


set_option maxRecDepth 100000 in
set_option maxHeartbeats 2000000 in
theorem move_other (lo g T : Nat) (s : PS) (f : Nat → Value) (m : PMom) (Av : Option Addr) (nv cv : Nat) (k : Nat) (w : World) (h : IsS w lo g T s f) (hlo : 0 ≤ s.cur) (hhi : s.cur ≤ 100) (hkind : m.kind ≠ 7) (htask : m.task ≠ s.cur) :
    Calls Tryz.prog 77 #[.pointer (some ⟨g, 0, none⟩), .agg #[.int .i64 m.kind, .int .i64 m.task, .int .i64 m.fn, .int .i64 m.line, .string m.text, .slice Av nv cv], .int .i64 k] w fun e w' =>
      e = .returned (.int .i64 (checkP s m)) ∧ Mv sTys lo w w' ∧ (checkP s m = 0 → ∃ f', IsS w' lo g T (stepP s m k) f') := by
  have hgw := h.blk.lt
  have hTw := h.tb.lt
  have hl1 := h.lo1
  have hl2 := h.lo2
  have hgT : g ≠ T := h.blk.ne h.tb (by decide)
  have H := Lib.hid h
  have hx : s.cur < 101 := by omega
  obtain ⟨A, cap, c0, c1, -, -, -, -, -⟩ := h.heads hlo hhi
  have hd : (m.kind == 7) = false := by simp [hkind]
  have hd2 : (m.task != s.cur) = true := by simp [htask]
  have e : checkP s m = 3 := by unfold checkP; rw [if_neg hkind, if_pos htask]
  have HE := Lib.hid e
  clear h hkind htask e
  go_enter Tryz.func77, Tryz.ntmps77
  go_wp2_with (go_quiet (fail))
  go_ret
  exact ⟨ret_int HE.out.symm, ((Mv.refl _ _ _).alloc (by omega) _).drewN _, fun hh => by rw [HE.out] at hh; cases hh⟩


set_option maxRecDepth 100000 in
set_option maxHeartbeats 2000000 in
theorem move_full (lo g T : Nat) (s : PS) (f : Nat → Value) (m : PMom) (Av : Option Addr) (nv cv : Nat) (k : Nat) (w : World) (h : IsS w lo g T s f) (hlo : 0 ≤ s.cur) (hhi : s.cur ≤ 100) (hkind : m.kind = 2) (htask : m.task = s.cur) (hlen : s.top.length = 200) :
    Calls Tryz.prog 77 #[.pointer (some ⟨g, 0, none⟩), .agg #[.int .i64 m.kind, .int .i64 m.task, .int .i64 m.fn, .int .i64 m.line, .string m.text, .slice Av nv cv], .int .i64 k] w fun e w' =>
      e = .returned (.int .i64 (checkP s m)) ∧ Mv sTys lo w w' ∧ (checkP s m = 0 → ∃ f', IsS w' lo g T (stepP s m k) f') := by
  have hgw := h.blk.lt
  have hTw := h.tb.lt
  have hl1 := h.lo1
  have hl2 := h.lo2
  have hgT : g ≠ T := h.blk.ne h.tb (by decide)
  have H := Lib.hid h
  have hx : s.cur < 101 := by omega
  have hd : (m.kind == 7) = false := by simp [hkind]
  have hd2 : (m.task != s.cur) = false := by simp [htask]
  have hdk2 : (m.kind == 2) = true := by simp [hkind]
  obtain ⟨A, cap, c0, c1, -, -, -, -, -⟩ := h.heads hlo hhi
  have hd3 : wrap64 (s.top.length : Int) = 200 := by rw [hlen]; exact IntWalk.wrap64_in _ (by omega)
  have e : checkP s m = 5 := by unfold checkP; rw [if_neg (by omega), if_neg (by omega), if_pos hkind, if_pos hlen]
  have HE := Lib.hid e
  clear h hkind htask e hlen
  go_enter Tryz.func77, Tryz.ntmps77
  go_wp2_with (first | (go_at_call 84; refine (top_calls lo g T s f _ (H.out.later (by repeat (with_reducible first | exact Below.refl _ _ | exact HL.out | refine bl_drewN ?_ _ | refine bl_drew ?_ | refine bl_alloc ?_ _ | refine bl_set ?_ (by dsimp only; omega) _))) hlo hhi).mono ?_; rintro e w1 ⟨rfl, m', rfl⟩) | go_quiet (fail))
  go_ret
  exact ⟨ret_int HE.out.symm, ((Mv.refl _ _ _).alloc (by omega) _).drewN _, fun hh => by rw [HE.out] at hh; cases hh⟩


set_option maxRecDepth 100000 in
set_option maxHeartbeats 2000000 in
theorem move_call (lo g T : Nat) (s : PS) (f : Nat → Value) (m : PMom) (Av : Option Addr) (nv cv : Nat) (k : Nat) (w : World) (h : IsS w lo g T s f) (hlo : 0 ≤ s.cur) (hhi : s.cur ≤ 100) (hkind : m.kind = 2) (htask : m.task = s.cur) (hlen : s.top.length < 200) :
    Calls Tryz.prog 77 #[.pointer (some ⟨g, 0, none⟩), .agg #[.int .i64 m.kind, .int .i64 m.task, .int .i64 m.fn, .int .i64 m.line, .string m.text, .slice Av nv cv], .int .i64 k] w fun e w' =>
      e = .returned (.int .i64 (checkP s m)) ∧ Mv sTys lo w w' ∧ (checkP s m = 0 → ∃ f', IsS w' lo g T (stepP s m k) f') := by
  have hgw := h.blk.lt
  have hTw := h.tb.lt
  have hl1 := h.lo1
  have hl2 := h.lo2
  have hgT : g ≠ T := h.blk.ne h.tb (by decide)
  have H := Lib.hid h
  have hx : s.cur < 101 := by omega
  have hd : (m.kind == 7) = false := by simp [hkind]
  have hd2 : (m.task != s.cur) = false := by simp [htask]
  have hdk2 : (m.kind == 2) = true := by simp [hkind]
  obtain ⟨A, cap, c0, c1, c2, hc1, hc2, hv, hrow⟩ := h.heads hlo hhi
  have hd3 : ((s.top.length : Int) == 200) = false := by rw [beq_eq_false_iff_ne]; omega
  have HK := Lib.hid hkind
  have HT := Lib.hid htask
  have HV := Lib.hid hv
  have HR := Lib.hid hrow
  have tf := h.tb.free s.cur.toNat
  obtain ⟨n1, n2⟩ := h.neb (i := s.cur.toNat) (by omega)
  rw [hv] at n1 n2
  have n3 : (Value.slice A s.top.length cap).ownBlock ≠ some w.heap.size := fun hh => by have := hrow.lt _ hh; omega
  obtain ⟨ti, hi, hz, hs1, hb1⟩ := i_frame_open
  have HI := Lib.hid hi
  clear h hkind htask hv hrow hc1 hc2 hi
  go_enter Tryz.func77, Tryz.ntmps77
  go_wp2_with (first | (go_at_call 84; refine (top_calls lo g T s f _ (H.out.later (by repeat (with_reducible first | exact Below.refl _ _ | exact HL.out | refine bl_drewN ?_ _ | refine bl_drew ?_ | refine bl_alloc ?_ _ | refine bl_set ?_ (by dsimp only; omega) _))) hlo hhi).mono ?_; rintro e w1 ⟨rfl, m', rfl⟩) | go_quiet (fail))
  generalize hW : World.drewN _ _ = W
  have x0 : W.cell? ⟨g, 0, none⟩ = some (.slice (some ⟨T, 0, none⟩) 101 101) := by rw [← hW]; clear hW; go_simp
  have x1 : W.cell? ⟨g, 1, none⟩ = some (.int .i64 s.cur) := by rw [← hW]; clear hW; go_simp
  have x2 : W.cell? ⟨T, s.cur.toNat, none⟩ = some (.slice A s.top.length cap) := by rw [← hW]; clear hW; go_simp
  have x3 : W.frozen? ⟨T, s.cur.toNat, none⟩ = false := by rw [← hW]; clear hW; go_simp
  have x4 : W.cell? ⟨w.heap.size, 2, none⟩ = some (.int .i64 m.fn) := by rw [← hW]; clear hW; go_simp
  have x5 : W.heap.size = w.heap.size + 1 := by rw [← hW]; simp
  have b1 : Below w.heap.size w W := by rw [← hW]; exact (by repeat (with_reducible first | exact Below.refl _ _ | exact HL.out | refine bl_drewN ?_ _ | refine bl_drew ?_ | refine bl_alloc ?_ _ | refine bl_set ?_ (by dsimp only; omega) _))
  have y1 : g < W.heap.size := by omega
  have y2 : T < W.heap.size := by omega
  have y3 : w.heap.size < W.heap.size := by omega
  have y4 : lo ≤ W.heap.size := by omega
  have y5 : s.cur < 101 := by omega
  have y6 : ¬ w.heap.size = T := by omega
  have y7 : ¬ g = T := hgT
  have HS := Lib.hid (H.out.later b1)
  have HRW := Lib.hid (HR.out.later b1)
  have HB1 := Lib.hid b1
  have X5 := Lib.hid x5
  have z1 : ∀ o, (W.alloc o).drew.frozen? ⟨T, s.cur.toNat, none⟩ = false := fun o => by go_simp
  clear hW c0 c1 c2 tf b1 x5
  have hS0 : (fun w' : World => w'.cell? ⟨g, 0, none⟩ = some (.slice (some ⟨T, 0, none⟩) 101 101) ∧ w'.cell? ⟨g, 1, none⟩ = some (.int .i64 s.cur) ∧ w'.cell? ⟨T, s.cur.toNat, none⟩ = some (.slice A s.top.length cap) ∧ w'.cell? ⟨w.heap.size, 2, none⟩ = some (.int .i64 m.fn)) W.drew := ⟨by go_simp, by go_simp, by go_simp, by go_simp⟩
  have HS0 := Lib.hid hS0
  clear hS0
  refine wp_region_F 25 (fun w' : World => w'.cell? ⟨g, 0, none⟩ = some (.slice (some ⟨T, 0, none⟩) 101 101) ∧ w'.cell? ⟨g, 1, none⟩ = some (.int .i64 s.cur) ∧ w'.cell? ⟨T, s.cur.toNat, none⟩ = some (.slice A s.top.length cap) ∧ w'.cell? ⟨w.heap.size, 2, none⟩ = some (.int .i64 m.fn)) (by kernel_rfl) ?_
  refine wpAnyF_take 0 (v := ?v0) (by rfl) (by kernel_rfl) (by intro _ _ _ h; exact h) HS0.out (by rfl) ?hy0 ?rest0
  case hy0 =>
    intro w' hSw
    obtain ⟨s0, s1, s2, s3⟩ := hSw
    go_simp
    try with_reducible rfl
  simp only [Act.put, List.setIfInBounds_toArray, List.set_cons_zero, List.set_cons_succ]
  refine wpAnyF_take 1 (v := ?v1) (by rfl) (by kernel_rfl) (by intro _ _ _ h; exact h) HS0.out (by rfl) ?hy1 ?rest1
  case hy1 =>
    intro w' hSw
    obtain ⟨s0, s1, s2, s3⟩ := hSw
    go_simp
    try with_reducible rfl
  simp only [Act.put, List.setIfInBounds_toArray, List.set_cons_zero, List.set_cons_succ]
  refine wpAnyF_take 2 (v := ?v2) (by rfl) (by kernel_rfl) (by intro _ _ _ h; exact h) HS0.out (by rfl) ?hy2 ?rest2
  case hy2 =>
    intro w' hSw
    obtain ⟨s0, s1, s2, s3⟩ := hSw
    go_simp
    try with_reducible rfl
  simp only [Act.put, List.setIfInBounds_toArray, List.set_cons_zero, List.set_cons_succ]
  refine wpAnyF_take 3 (v := ?v3) (by rfl) (by kernel_rfl) (by intro _ _ _ h; exact h) HS0.out (by rfl) ?hy3 ?rest3
  case hy3 =>
    intro w' hSw
    obtain ⟨s0, s1, s2, s3⟩ := hSw
    go_simp
    try with_reducible rfl
  simp only [Act.put, List.setIfInBounds_toArray, List.set_cons_zero, List.set_cons_succ]
  refine wpAnyF_take 4 (v := ?v4) (by rfl) (by kernel_rfl) (by intro _ _ _ h; exact h) HS0.out (by rfl) ?hy4 ?rest4
  case hy4 =>
    intro w' hSw
    obtain ⟨s0, s1, s2, s3⟩ := hSw
    go_simp
    try with_reducible rfl
  simp only [Act.put, List.setIfInBounds_toArray, List.set_cons_zero, List.set_cons_succ]
  refine wpAnyF_take 5 (v := ?v5) (by rfl) (by kernel_rfl) (by intro _ _ _ h; exact h) HS0.out (by rfl) ?hy5 ?rest5
  case hy5 =>
    intro w' hSw
    obtain ⟨s0, s1, s2, s3⟩ := hSw
    go_simp
    try with_reducible rfl
  simp only [Act.put, List.setIfInBounds_toArray, List.set_cons_zero, List.set_cons_succ]
  refine wpAnyF_take 6 (v := ?v6) (by rfl) (by kernel_rfl) (by intro _ _ _ h; exact h) HS0.out (by rfl) ?hy6 ?rest6
  case hy6 =>
    intro w' hSw
    obtain ⟨s0, s1, s2, s3⟩ := hSw
    go_simp
    try with_reducible rfl
  simp only [Act.put, List.setIfInBounds_toArray, List.set_cons_zero, List.set_cons_succ]
  refine wpAnyF_take 7 (v := ?v7) (by rfl) (by kernel_rfl) (by intro _ _ _ h; exact h) HS0.out (by rfl) ?hy7 ?rest7
  case hy7 =>
    intro w' hSw
    obtain ⟨s0, s1, s2, s3⟩ := hSw
    go_simp
    try with_reducible rfl
  simp only [Act.put, List.setIfInBounds_toArray, List.set_cons_zero, List.set_cons_succ]
  refine wpAnyF_take 8 (v := ?v8) (by rfl) (by kernel_rfl) (by intro _ _ _ h; exact h) HS0.out (by rfl) ?hy8 ?rest8
  case hy8 =>
    intro w' hSw
    obtain ⟨s0, s1, s2, s3⟩ := hSw
    go_simp
    try with_reducible rfl
  simp only [Act.put, List.setIfInBounds_toArray, List.set_cons_zero, List.set_cons_succ]
  refine wpAnyF_take 9 (v := ?v9) (by rfl) (by kernel_rfl) (by intro _ _ _ h; exact h) HS0.out (by rfl) ?hy9 ?rest9
  case hy9 =>
    intro w' hSw
    obtain ⟨s0, s1, s2, s3⟩ := hSw
    go_simp
    try with_reducible rfl
  simp only [Act.put, List.setIfInBounds_toArray, List.set_cons_zero, List.set_cons_succ]
  refine wpAnyF_take 10 (v := ?v10) (by rfl) (by kernel_rfl) (by intro _ _ _ h; exact h) HS0.out (by rfl) ?hy10 ?rest10
  case hy10 =>
    intro w' hSw
    obtain ⟨s0, s1, s2, s3⟩ := hSw
    go_simp
    try with_reducible rfl
  simp only [Act.put, List.setIfInBounds_toArray, List.set_cons_zero, List.set_cons_succ]
  refine wpAnyF_take 11 (v := ?v11) (by rfl) (by kernel_rfl) (by intro _ _ _ h; exact h) HS0.out (by rfl) ?hy11 ?rest11
  case hy11 =>
    intro w' hSw
    obtain ⟨s0, s1, s2, s3⟩ := hSw
    go_simp
    try with_reducible rfl
  simp only [Act.put, List.setIfInBounds_toArray, List.set_cons_zero, List.set_cons_succ]
  refine wpAnyF_take 12 (v := ?v12) (by rfl) (by kernel_rfl) (by intro _ _ _ h; exact h) HS0.out (by rfl) ?hy12 ?rest12
  case hy12 =>
    intro w' hSw
    obtain ⟨s0, s1, s2, s3⟩ := hSw
    go_simp
    try with_reducible rfl
  simp only [Act.put, List.setIfInBounds_toArray, List.set_cons_zero, List.set_cons_succ]
  refine wpAnyF_take 13 (v := ?v13) (by rfl) (by kernel_rfl) (by intro _ _ _ h; exact h) HS0.out (by rfl) ?hy13 ?rest13
  case hy13 =>
    intro w' hSw
    obtain ⟨s0, s1, s2, s3⟩ := hSw
    go_simp
    try with_reducible rfl
  simp only [Act.put, List.setIfInBounds_toArray, List.set_cons_zero, List.set_cons_succ]
  refine wpAnyF_take 14 (v := ?v14) (by rfl) (by kernel_rfl) (by intro _ _ _ h; exact h) HS0.out (by rfl) ?hy14 ?rest14
  case hy14 =>
    intro w' hSw
    obtain ⟨s0, s1, s2, s3⟩ := hSw
    go_simp
    try with_reducible rfl
  simp only [Act.put, List.setIfInBounds_toArray, List.set_cons_zero, List.set_cons_succ]
  refine wpAnyF_take 15 (v := ?v15) (by rfl) (by kernel_rfl) (by intro _ _ _ h; exact h) HS0.out (by rfl) ?hy15 ?rest15
  case hy15 =>
    intro w' hSw
    obtain ⟨s0, s1, s2, s3⟩ := hSw
    go_simp
    try with_reducible rfl
  simp only [Act.put, List.setIfInBounds_toArray, List.set_cons_zero, List.set_cons_succ]
  refine wpAnyF_take 16 (v := ?v16) (by rfl) (by kernel_rfl) (by intro _ _ _ h; exact h) HS0.out (by rfl) ?hy16 ?rest16
  case hy16 =>
    intro w' hSw
    obtain ⟨s0, s1, s2, s3⟩ := hSw
    go_simp
    try with_reducible rfl
  simp only [Act.put, List.setIfInBounds_toArray, List.set_cons_zero, List.set_cons_succ]
  refine wpAnyF_take 17 (v := ?v17) (by rfl) (by kernel_rfl) (by intro _ _ _ h; exact h) HS0.out (by rfl) ?hy17 ?rest17
  case hy17 =>
    intro w' hSw
    obtain ⟨s0, s1, s2, s3⟩ := hSw
    go_simp
    try with_reducible rfl
  simp only [Act.put, List.setIfInBounds_toArray, List.set_cons_zero, List.set_cons_succ]
  refine wpAnyF_take 18 (v := ?v18) (by rfl) (by kernel_rfl) (by intro _ _ _ h; exact h) HS0.out (by rfl) ?hy18 ?rest18
  case hy18 =>
    intro w' hSw
    obtain ⟨s0, s1, s2, s3⟩ := hSw
    go_simp
    try with_reducible rfl
  simp only [Act.put, List.setIfInBounds_toArray, List.set_cons_zero, List.set_cons_succ]
  refine wpAnyF_take 19 (v := ?v19) (by rfl) (by kernel_rfl) (by intro _ _ _ h; exact h) HS0.out (by rfl) ?hy19 ?rest19
  case hy19 =>
    intro w' hSw
    obtain ⟨s0, s1, s2, s3⟩ := hSw
    go_simp
    try with_reducible rfl
  simp only [Act.put, List.setIfInBounds_toArray, List.set_cons_zero, List.set_cons_succ]
  refine wpAnyF_take 20 (v := ?v20) (by rfl) (by kernel_rfl) (by intro _ _ _ h; exact h) HS0.out (by rfl) ?hy20 ?rest20
  case hy20 =>
    intro w' hSw
    obtain ⟨s0, s1, s2, s3⟩ := hSw
    go_simp
    try with_reducible rfl
  simp only [Act.put, List.setIfInBounds_toArray, List.set_cons_zero, List.set_cons_succ]
  refine wpAnyF_take 21 (v := ?v21) (by rfl) (by kernel_rfl) (by intro _ _ _ h; exact h) HS0.out (by rfl) ?hy21 ?rest21
  case hy21 =>
    intro w' hSw
    obtain ⟨s0, s1, s2, s3⟩ := hSw
    go_simp
    try with_reducible rfl
  simp only [Act.put, List.setIfInBounds_toArray, List.set_cons_zero, List.set_cons_succ]
  refine wpAnyF_one 22 (by rfl) (by kernel_rfl) rfl ?_
  intro K hK
  go_simp
  refine hK.out _ _ (fun _ => ⟨by go_simp, by go_simp, by go_simp, by go_simp⟩) ?_
  clear hK K
  refine wpAnyF_one 23 (by rfl) (by kernel_rfl) rfl ?_
  intro K hK
  refine wp_append_lies _ _ _ _ (by rfl) lo 42 ti _ 3 24 Tryz.underlying35 HI.out hz hs1 hb1 rfl (by omega) (.slice A s.top.length cap) s.top.length (cellsR 3 (frC s.top.reverse) s.top.length) (by rfl) (HRW.out.later (by repeat (with_reducible first | exact Below.refl _ _ | exact HL.out | refine bl_drewN ?_ _ | refine bl_drew ?_ | refine bl_alloc ?_ _ | refine bl_set ?_ (by dsimp only; omega) _))).row ⟨W.heap.size, 0, none⟩ 1 1
    [.int .i64 m.fn, .int .i64 0, .int .i64 k] (by rfl) rfl (World.news_of_block (heap_alloc_new _ _)) (by simp [Value.oneCell']) (by omega) (by simp [maxLen]; omega) (by omega) (by simp; omega) (W.heap.size + 1) (by simp) ?_
  intro b1 cap1 w1 hown1 hgrow hat hlt
  have q0 : w1.cell? ⟨g, 0, none⟩ = some (.slice (some ⟨T, 0, none⟩) 101 101) := by rw [hgrow.cell_far _ (by simp; omega) (Ne.symm n1)]; go_simp
  have q1 : w1.cell? ⟨g, 1, none⟩ = some (.int .i64 s.cur) := by rw [hgrow.cell_far _ (by simp; omega) (Ne.symm n1)]; go_simp
  have q2 : w1.cell? ⟨T, s.cur.toNat, none⟩ = some (.slice A s.top.length cap) := by rw [hgrow.cell_far _ (by simp; omega) (Ne.symm n2)]; go_simp
  have q3 : w1.cell? ⟨w.heap.size, 2, none⟩ = some (.int .i64 m.fn) := by rw [hgrow.cell_far _ (by simp; omega) (Ne.symm n3)]; go_simp
  have q4 : w1.frozen? ⟨T, s.cur.toNat, none⟩ = false := by rw [hgrow.frozen_far _ (by simp; omega) (Ne.symm n2)]; exact z1 _
  have HQ := Lib.hid (And.intro q0 (And.intro q1 (And.intro q2 q3)))
  have HG := Lib.hid hgrow
  have HO := Lib.hid hown1
  have HA := Lib.hid hat
  clear hgrow hown1 hat
  refine hK.out _ _ (fun _ => HQ.out) ?_
  clear hK K
  simp only [Act.put, List.setIfInBounds_toArray, List.set_cons_zero, List.set_cons_succ]
  refine wpAnyF_one 24 (by rfl) (by kernel_rfl) rfl ?_
  intro K hK
  go_simp
  refine hK.out _ _ (fun _ => HQ.out) ?_
  clear hK K
  refine wpAnyF_one 25 (by rfl) (by kernel_rfl) rfl ?_
  intro K hK
  go_simp
  refine hK.out _ _ (fun h => absurd rfl h) ?_
  clear hK K
  refine wpAnyF_done (by kernel_rfl) ?_ _
  have hown1 := HO.out
  have hgrow := HG.out
  have hat := HA.out
  go_wp2
  go_ret
  have e : checkP s m = 0 := by unfold checkP; have := HK.out; have := HT.out; rw [if_neg (by omega), if_neg (by omega), if_pos HK.out, if_neg (by omega)]
  have e2 : stepP s m k = s.put (⟨m.fn, 0, k⟩ :: s.top) := by unfold stepP; have := HK.out; rw [if_neg (by omega), if_pos HK.out]
  have hX := (HS.out.later (w' := (W.alloc (.cells #[.int .i64 m.fn, .int .i64 0, .int .i64 k] 42)).drew) (by repeat (with_reducible first | exact Below.refl _ _ | exact HL.out | refine bl_drewN ?_ _ | refine bl_drew ?_ | refine bl_alloc ?_ _ | refine bl_set ?_ (by dsimp only; omega) _))).grown hlo hhi (by rw [HV.out]; exact hgrow)
  have hO : OwR w1 lo 42 3 (⟨m.fn, 0, k⟩ :: s.top : List PFr).length (frC (⟨m.fn, 0, k⟩ :: s.top : List PFr).reverse) (.slice (some ⟨b1, 0, none⟩) (s.top.length + 1) cap1) := by
    refine OwR.of_append hown1 (fun i hi j hj => ?_) (fun i hi j hj => ?_)
    · simp only [frC, elt_rev_lt _ _ hi]
    · obtain rfl : i = 0 := by omega
      simp only [frC, Nat.add_zero, elt_rev]
      match j, hj with
      | 0, _ => rfl
      | 1, _ => rfl
      | 2, _ => rfl
  have hB : Mv sTys lo w W := Mv.of_below HB1.out (by omega)
  have hB2 : Mv sTys lo w w1 := Mv.grown (W := (W.alloc (.cells #[.int .i64 m.fn, .int .i64 0, .int .i64 k] 42)).drew) (hB.alloc (by omega) _).drew (by simp; omega) hgrow (fun b hb => ⟨(HRW.out.lt b hb).1, by
    obtain ⟨N, F, hBk⟩ := (HRW.out.later (w' := (W.alloc (.cells #[.int .i64 m.fn, .int .i64 0, .int .i64 k] 42)).drew) (by repeat (with_reducible first | exact Below.refl _ _ | exact HL.out | refine bl_drewN ?_ _ | refine bl_drew ?_ | refine bl_alloc ?_ _ | refine bl_set ?_ (by dsimp only; omega) _))).block hb
    exact ⟨_, N, F, hBk, by decide⟩⟩)
  rw [e2]
  refine ⟨ret_int e.symm, ?_, fun _ => ⟨_, (hX.setRow hlo hhi hO ?_).later (by repeat (with_reducible first | exact Below.refl _ _ | exact HL.out | refine bl_drewN ?_ _ | refine bl_drew ?_ | refine bl_alloc ?_ _ | refine bl_set ?_ (by dsimp only; omega) _))⟩⟩
  · repeat (first | exact hB2.set (by dsimp only; omega) hX.tb (by decide) _ | refine Mv.drewN ?_ _ | refine Mv.drew ?_)
  · intro i hi hc b hb hfb
    cases hb
    rcases hat with hat | hat
    · exact HS.out.ne i s.cur.toNat hi (by omega) hc b1 hfb (by rw [HV.out]; exact hat)
    · have := ((HS.out.row i hi).lt b1 hfb).2
      omega

end Go.Proofs.YtcklnjjbhngbcaaGreatDoor
