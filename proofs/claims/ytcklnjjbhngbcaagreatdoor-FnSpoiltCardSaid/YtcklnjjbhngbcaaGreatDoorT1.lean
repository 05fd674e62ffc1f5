/- The specification's walk: a slice of open calls for each task; begin, top, fn. -/
import Derived.Test.YtcklnjjbhngbcaaGreatDoorP1
import Derived.Test.YtcklnjjbhngbcaaGreatDoorB1
import Derived.Test.YtcklnjjbhngbcaaGreatDoorB3
import Derived.Deep.DeepCutAuto
import Derived.Deep.CutBlock
import Derived.Deep.QuietTactic
import Derived.BigQuiet
namespace Go.Proofs.YtcklnjjbhngbcaaGreatDoor
open Go.RowKit Go.Proofs.Lens

theorem i_frame : (Tryz.prog.info? 42).map (fun i => (i.zero, i.size, i.bytes)) = some (some (.agg #[.int .i64 0, .int .i64 0, .int .i64 0]), 3, 24) := by kernel_rfl
theorem i_frames : (Tryz.prog.info? 35).map (fun i => (i.zero, i.size, i.bytes)) = some (some (.slice none 0 0), 1, 24) := by kernel_rfl

/-- A quiet contract behind draws that the walk has joined. -/
theorem quiet_joined {P : Program} {f : FuncId} {args : Array Value} {w : World} {a n : Nat} {v : Value} (h : Calls P f args (w.drewN (a + n)) fun e w' => e = .returned v ∧ ∃ m, w' = (w.drewN (a + n)).drewN m) :
    Calls P f args (w.drewN (a + n)) fun e w'' => e = .returned v ∧ ∃ m, w'' = w.drewN (a + m) := by
  refine h.mono ?_
  rintro e w1 ⟨he, m, rfl⟩
  exact ⟨he, n + m, by rw [World.drewN_drewN, Nat.add_assoc]⟩
/-- The walk's blocks. -/
structure IsS (w : World) (lo g T : Nat) (s : PS) (f : Nat → Value) : Prop where
  lo1 : lo ≤ g
  lo2 : lo ≤ T
  blk : Blk w g 161 2 (fun j => match j with | 0 => .slice (some ⟨T, 0, none⟩) 101 101 | _ => .int .i64 s.cur)
  tb : Blk w T 35 101 f
  row : ∀ i : Nat, i < 101 → OwR w lo 42 3 (s.stk i).length (frC (s.stk i).reverse) (f i)
  ne : ∀ i j : Nat, i < 101 → j < 101 → i ≠ j → ∀ b, (f i).ownBlock = some b → (f j).ownBlock ≠ some b
theorem IsS.later {w w' : World} {lo g T : Nat} {s : PS} {f : Nat → Value} (h : IsS w lo g T s f) (hb : Below w.heap.size w w') : IsS w' lo g T s f :=
  ⟨h.lo1, h.lo2, h.blk.later hb, h.tb.later hb, fun i hi => (h.row i hi).later hb, h.ne⟩
theorem IsS.lower {w : World} {lo lo' g T : Nat} {s : PS} {f : Nat → Value} (h : IsS w lo g T s f) (hl : lo' ≤ lo) : IsS w lo' g T s f :=
  ⟨Nat.le_trans hl h.lo1, Nat.le_trans hl h.lo2, h.blk, h.tb, fun i hi => (h.row i hi).lower hl, h.ne⟩

set_option maxRecDepth 100000 in
set_option maxHeartbeats 400000 in
theorem l1begin_calls (w : World) : Calls Tryz.prog 76 #[] w fun e w' =>
    ∃ g T f, e = .returned (.pointer (some ⟨g, 0, none⟩)) ∧ IsS w' w.heap.size g T ps0 f ∧ Below w.heap.size w w' := by
  obtain ⟨C, hC, hc, hmk⟩ := make_law (P := Tryz.prog) 159 35 Tryz.underlying159 i_frames 101 (by omega) (by omega)
  have HC := Lib.hid hC
  have Hc := Lib.hid hc
  clear hC hc
  have hmk' : ∀ w : World, (Instr.makeSlice 159 (.int .i64 101) (.int .i64 101)).run Tryz.prog w = .ok (.slice (some ⟨w.heap.size, 0, none⟩) 101 101) (w.alloc (.cells C 35)) := hmk
  go_enter Tryz.func76, Tryz.ntmps76
  go_upto_region 2 with fail
  generalize hW : World.alloc (World.alloc w _) _ = W
  have hb : Below w.heap.size w W := by rw [← hW]; exact (by repeat (with_reducible first | exact Below.refl _ _ | exact HL.out | refine bl_drewN ?_ _ | refine bl_drew ?_ | refine bl_alloc ?_ _ | refine bl_set ?_ (by dsimp only; omega) _))
  have hB1 : Blk W (w.heap.size + 1) 161 2 (fun j => match j with | 0 => .slice (some ⟨w.heap.size, 0, none⟩) 101 101 | _ => .int .i64 0) := by
    rw [← hW]
    have := Blk.made (w.alloc (.cells C 35)) #[.slice (some ⟨w.heap.size, 0, none⟩) 101 101, .int .i64 0] 161
    rw [World.size_alloc] at this
    exact this.congr fun j hj => by match j, hj with | 0, _ => rfl | 1, _ => rfl
  have hB2 : Blk W w.heap.size 35 101 (fun _ => .slice none 0 0) := by
    rw [← hW]
    have := (Blk.new w C 35 (fun _ => .slice none 0 0) (fun j hj => by
      have := Hc.out j (by rw [← HC.out]; exact hj)
      rw [this]
      show some ((Value.slice none 0 0).cells[j % 1]!) = _
      rw [Nat.mod_one]
      rfl))
    rw [show C.size = 101 from HC.out] at this
    exact this.alloc _
  have hsz : W.heap.size = w.heap.size + 2 := by rw [← hW]; simp
  have x0 : W.cell? ⟨w.heap.size + 1, 0, none⟩ = some (.slice (some ⟨w.heap.size, 0, none⟩) 101 101) := hB1.cell (j := 0) (by omega)
  have x1 := hB2.cell (j := 0) (by omega)
  have x2 := hB2.free 0
  have H1 := Lib.hid hB1
  have H2 := Lib.hid hB2
  have HL := Lib.hid hb
  have HS := Lib.hid hsz
  have y1 : w.heap.size < W.heap.size := by omega
  have y2 : w.heap.size + 1 < W.heap.size := by omega
  clear hW hb hB1 hB2 hsz
  go_wp2
  go_ret
  have hs := HS.out
  rw [← World.setCell_alloc_past _ _ _ _ y1]
  have hnew := Blk.made W #[.int .i64 0, .int .i64 0, .int .i64 (-1)] 42
  refine ⟨w.heap.size + 1, w.heap.size, _, rfl, ⟨by omega, by omega, (H1.out.alloc _).far (by simp) _, (H2.out.alloc _).set (by omega) _, fun i hi => ?_, fun i j hi hj hne b hb => ?_⟩, (by repeat (with_reducible first | exact Below.refl _ _ | exact HL.out | refine bl_drewN ?_ _ | refine bl_drew ?_ | refine bl_alloc ?_ _ | refine bl_set ?_ (by dsimp only; omega) _))⟩
  · by_cases h0 : i = 0
    · subst h0
      rw [upd_same]
      refine .inr ⟨W.heap.size, 1, _, rfl, by omega, by simp [ps0], by simp [maxLen], hnew.far (by dsimp only; omega) _, fun i hi j hj => ?_⟩
      obtain rfl : i = 0 := by simp [ps0] at hi; omega
      match j, hj with
      | 0, _ => rfl
      | 1, _ => rfl
      | 2, _ => rfl
    · rw [upd_ne _ _ h0]
      refine .inl ⟨rfl, ?_⟩
      simp [ps0, h0]
  · by_cases h0 : i = 0
    · subst h0
      rw [upd_ne _ _ (fun h => hne h.symm)]
      simp [Value.ownBlock]
    · rw [upd_ne _ _ h0] at hb
      cases hb

/-- What the running task's cell and the walk's two cells hold. -/
theorem IsS.heads {w : World} {lo g T : Nat} {s : PS} {f : Nat → Value} (h : IsS w lo g T s f) (hlo : 0 ≤ s.cur) (hhi : s.cur ≤ 100) :
    ∃ A cap, w.cell? ⟨g, 0, none⟩ = some (.slice (some ⟨T, 0, none⟩) 101 101) ∧ w.cell? ⟨g, 1, none⟩ = some (.int .i64 s.cur) ∧ w.cell? ⟨T, s.cur.toNat, none⟩ = some (.slice A s.top.length cap) ∧
      s.top.length ≤ cap ∧ cap ≤ 9223372036854775807 ∧ f s.cur.toNat = .slice A s.top.length cap ∧ OwR w lo 42 3 s.top.length (frC s.top.reverse) (.slice A s.top.length cap) := by
  have c0 : w.cell? ⟨g, 0, none⟩ = some (.slice (some ⟨T, 0, none⟩) 101 101) := h.blk.cell (j := 0) (by omega)
  have c1 : w.cell? ⟨g, 1, none⟩ = some (.int .i64 s.cur) := h.blk.cell (j := 1) (by omega)
  have hr := h.row s.cur.toNat (by omega)
  rw [Int.toNat_of_nonneg hlo] at hr
  obtain ⟨A, cap, hv, hc1, hc2⟩ := hr.cap
  rw [hv] at hr
  exact ⟨A, cap, c0, c1, (h.tb.cell (by omega)).trans (by rw [hv]; rfl), hc1, hc2, hv, hr⟩
theorem elt_rev (f : PFr) (r : List PFr) : elt (f :: r).reverse r.length = f := by
  rw [elt_eq (by simp)]; simp
theorem elt_rev_lt (f : PFr) (r : List PFr) {i : Nat} (hi : i < r.length) : elt (f :: r).reverse i = elt r.reverse i := by
  rw [elt_eq (by simp; omega), elt_eq (by simpa using hi)]
  simp [List.reverse_cons, hi]
/-- The innermost open call's cells. -/
theorem IsS.tops {w : World} {lo g T : Nat} {s : PS} {f : Nat → Value} (h : IsS w lo g T s f) (hlo : 0 ≤ s.cur) (hhi : s.cur ≤ 100) {fr : PFr} {r : List PFr} (hs : s.top = fr :: r) :
    ∃ b cap, w.cell? ⟨g, 0, none⟩ = some (.slice (some ⟨T, 0, none⟩) 101 101) ∧ w.cell? ⟨g, 1, none⟩ = some (.int .i64 s.cur) ∧ w.cell? ⟨T, s.cur.toNat, none⟩ = some (.slice (some ⟨b, 0, none⟩) (r.length + 1) cap) ∧
      r.length + 1 ≤ cap ∧ cap ≤ 9223372036854775807 ∧ f s.cur.toNat = .slice (some ⟨b, 0, none⟩) (r.length + 1) cap ∧ OwR w lo 42 3 (r.length + 1) (frC (fr :: r).reverse) (.slice (some ⟨b, 0, none⟩) (r.length + 1) cap) ∧
      w.cell? ⟨b, r.length * 3, none⟩ = some (.int .i64 fr.fn) ∧ w.cell? ⟨b, r.length * 3 + 1, none⟩ = some (.int .i64 fr.line) ∧ w.cell? ⟨b, r.length * 3 + 2, none⟩ = some (.int .i64 fr.frm) ∧
      (∀ j, w.frozen? ⟨b, j, none⟩ = false) ∧ lo ≤ b ∧ b < w.heap.size ∧ b ≠ g ∧ b ≠ T := by
  obtain ⟨A, cap, h0, h1, h2, h3, h4, h5, h6⟩ := h.heads hlo hhi
  rw [hs] at h2 h3 h5 h6
  have hne : ∀ b, A = some ⟨b, 0, none⟩ → b ≠ g ∧ b ≠ T := by
    rintro b rfl
    rcases h6 with ⟨hh, _⟩ | ⟨b', cap', f', hh, _, _, _, hB, _⟩
    · cases hh
    · cases hh
      exact ⟨hB.ne h.blk (by decide), hB.ne h.tb (by decide)⟩
  obtain ⟨A', cap', hv, hop⟩ := h6.open'
  obtain ⟨rfl, rfl⟩ : A = A' ∧ cap = cap' := by simpa using hv
  obtain ⟨b, rfl, hl, hlt, hc, hf⟩ := hop (by simp)
  have e := elt_rev fr r
  have c0 := hc r.length (by simp) 0 (by omega)
  have c1 := hc r.length (by simp) 1 (by omega)
  have c2 := hc r.length (by simp) 2 (by omega)
  simp only [frC, e] at c0 c1 c2
  obtain ⟨n1, n2⟩ := hne b rfl
  exact ⟨b, cap, h0, h1, h2, h3, h4, h5, h6, c0, c1, c2, hf, hl, hlt, n1, n2⟩

set_option maxRecDepth 100000 in
set_option maxHeartbeats 400000 in
theorem top_calls (lo g T : Nat) (s : PS) (f : Nat → Value) (w : World) (h : IsS w lo g T s f) (hlo : 0 ≤ s.cur) (hhi : s.cur ≤ 100) :
    Calls Tryz.prog 84 #[.pointer (some ⟨g, 0, none⟩)] w fun e w' => e = .returned (.int .i64 (s.top.length - 1)) ∧ ∃ m, w' = w.drewN m := by
  obtain ⟨A, cap, c0, c1, c2, h3, h4, -, -⟩ := h.heads hlo hhi
  have hn : s.top.length ≤ 9223372036854775807 := by omega
  have hx : s.cur < 101 := by omega
  clear h h3 h4
  go_enter Tryz.func84, Tryz.ntmps84
  go_wp2_with (go_quiet (fail))
  go_ret
  exact ⟨ret_int (by go_num), _, rfl⟩
theorem top_cons (lo g T : Nat) (s : PS) (f : Nat → Value) (w : World) (h : IsS w lo g T s f) (hlo : 0 ≤ s.cur) (hhi : s.cur ≤ 100) {fr : PFr} {r : List PFr} (hs : s.top = fr :: r) :
    Calls Tryz.prog 84 #[.pointer (some ⟨g, 0, none⟩)] w fun e w' => e = .returned (.int .i64 r.length) ∧ ∃ m, w' = w.drewN m := by
  refine (top_calls lo g T s f w h hlo hhi).mono ?_
  rintro e w1 ⟨rfl, hm⟩
  exact ⟨ret_int (by rw [hs, List.length_cons]; omega), hm⟩
theorem top_nil (lo g T : Nat) (s : PS) (f : Nat → Value) (w : World) (h : IsS w lo g T s f) (hlo : 0 ≤ s.cur) (hhi : s.cur ≤ 100) (hs : s.top = []) :
    Calls Tryz.prog 84 #[.pointer (some ⟨g, 0, none⟩)] w fun e w' => e = .returned (.int .i64 (-1)) ∧ ∃ m, w' = w.drewN m := by
  refine (top_calls lo g T s f w h hlo hhi).mono ?_
  rintro e w1 ⟨rfl, hm⟩
  exact ⟨ret_int (by rw [hs]; rfl), hm⟩
theorem IsS.drewN {w : World} {lo g T : Nat} {s : PS} {f : Nat → Value} (h : IsS w lo g T s f) (n : Nat) : IsS (w.drewN n) lo g T s f := h.later (bl_drewN (Below.refl _ _) _)

def fnP (s : PS) : Int := match s.top with | [] => 0 | f :: _ => f.fn
set_option maxRecDepth 100000 in
set_option maxHeartbeats 400000 in
theorem fn_calls (lo g T : Nat) (s : PS) (f : Nat → Value) (w : World) (h : IsS w lo g T s f) (hlo : 0 ≤ s.cur) (hhi : s.cur ≤ 100) :
    Calls Tryz.prog 82 #[.pointer (some ⟨g, 0, none⟩)] w fun e w' => e = .returned (.int .i64 (fnP s)) ∧ ∃ m, w' = w.drewN m := by
  have H := Lib.hid h
  cases hs : s.top with
  | nil =>
    have HS := Lib.hid hs
    clear h hs
    go_enter Tryz.func82, Tryz.ntmps82
    go_wp2_with (first | (go_at_call 84; refine (top_nil lo g T s f _ H.out hlo hhi HS.out).mono ?_; rintro e w1 ⟨rfl, m, rfl⟩))
    go_ret
    exact ⟨ret_int (by unfold fnP; rw [HS.out]), _, rfl⟩
  | cons fr r =>
    obtain ⟨b, cap, c0, c1, c2, h3, h4, -, -, d0, -, -, -, -, hb, -, -⟩ := h.tops hlo hhi hs
    have HS := Lib.hid hs
    have hx : s.cur < 101 := by omega
    have h1 : (r.length : Int) < ((r.length + 1 : Nat) : Int) := by omega
    have h0 : (0 : Int) ≤ (r.length : Int) := by omega
    have hd : decide ((r.length : Int) < 0) = false := by simp
    have ht : (r.length : Int).toNat = r.length := by simp
    clear h hs
    go_enter Tryz.func82, Tryz.ntmps82
    go_wp2_with (first | (go_at_call 84; refine (top_cons lo g T s f _ H.out hlo hhi HS.out).mono ?_; rintro e w1 ⟨rfl, m, rfl⟩))
    go_quiet ((go_at_call 84; exact quiet_joined (top_cons lo g T s f _ (H.out.drewN _) hlo hhi HS.out)))
    go_wp2
    go_ret
    exact ⟨ret_int (by unfold fnP; rw [HS.out]), _, World.drewN_drewN _ _ _⟩
end Go.Proofs.YtcklnjjbhngbcaaGreatDoor
