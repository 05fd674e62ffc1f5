/- Lemmas and contracts of functions that the theorem of this claim leans on (texts L6, L4, L8). -/
import Derived.Test.YtcklnjjbhngbcaaGreatDoorRowLkz45
import Derived.Test.YtcklnjjbhngbcaaGreatDoorRowLkz43
import Derived.Test.YtcklnjjbhngbcaaGreatDoorRowLkz05
namespace Go.Proofs.YtcklnjjbhngbcaaGreatDoor
open Go.RowKit Go.Proofs.Lens

/-- From w to w' blocks of lo .. hi alone have turned; blocks of cells stay what they are, but for what their cells hold. -/
structure MkTr (lo hi : Nat) (w w' : World) : Prop where
  os : w'.os = w.os
  tape : w'.tape = w.tape
  output : w'.output = w.output
  size : w.heap.size ≤ w'.heap.size
  block : ∀ j, j < w.heap.size → (j < lo ∨ hi ≤ j) → w'.heap[j]? = w.heap[j]?
  shp : ∀ g e N f, Blk w g e N f → ∃ f', Blk w' g e N f'
section
variable {lo hi : Nat} {w w1 w2 : World}
theorem MkTr.refl (lo hi : Nat) (w : World) : MkTr lo hi w w := ⟨rfl, rfl, rfl, Nat.le_refl _, fun _ _ _ => rfl, fun _ _ _ f h => ⟨f, h⟩⟩
theorem MkTr.trans (h : MkTr lo hi w w1) (k : MkTr lo hi w1 w2) : MkTr lo hi w w2 :=
  ⟨k.os.trans h.os, k.tape.trans h.tape, k.output.trans h.output, Nat.le_trans h.size k.size, fun j hj hl => (k.block j (Nat.lt_of_lt_of_le hj h.size) hl).trans (h.block j hj hl),
    fun g e N f hB => by obtain ⟨f1, h1⟩ := h.shp g e N f hB; exact k.shp g e N f1 h1⟩
theorem MkTr.then (h : MkTr lo hi w w1) (k : Below w1.heap.size w1 w2) : MkTr lo hi w w2 :=
  h.trans ⟨k.os, k.tape, k.output, k.size, fun j hj _ => k.block j hj, fun _ _ _ f hB => ⟨f, hB.later k⟩⟩
theorem blk_set_any {W : World} {g e N : Nat} {f : Nat → Value} (hB : Blk W g e N f) (b j : Nat) (u : Value) : ∃ f', Blk (W.setCell ⟨b, j, none⟩ u) g e N f' := by
  by_cases hg : g = b
  · subst hg
    by_cases hj : j < N
    · exact ⟨_, hB.set hj u⟩
    · obtain ⟨cur, h1, h2, h3⟩ := hB
      refine ⟨f, cur, ?_, h2, h3⟩
      simp only [World.setCell, Array.getElem?_modify]
      rw [if_pos trivial, h1]
      simp only [Option.map_some]
      congr 2
      exact Array.setIfInBounds_eq_of_size_le (by omega)
  · exact ⟨f, hB.far hg u⟩
theorem MkTr.set (h : MkTr lo hi w w1) {b : Nat} (hl : lo ≤ b) (hh : b < hi) (j : Nat) (u : Value) : MkTr lo hi w (w1.setCell ⟨b, j, none⟩ u) :=
  h.trans ⟨rfl, rfl, rfl, by rw [World.size_setCell]; exact Nat.le_refl _, fun k _ hk => Below.heap_setCell _ _ _ _ (by dsimp only; omega), fun _ _ _ _ hB => blk_set_any hB b j u⟩
theorem MkTr.below (h : MkTr lo hi w w1) (hl : lo ≤ w.heap.size) : Below lo w w1 := ⟨h.os, h.tape, h.output, h.size, fun j hj => h.block j (by omega) (.inl hj)⟩
end

/-- A slice in a block of lo .. hi, of n elements of sz cells of type e. -/
def ShSl (w : World) (lo hi : Nat) (e : TypeId) (sz n : Nat) (v : Value) : Prop := ∃ g c, v = .slice (some ⟨g, 0, none⟩) n c ∧ lo ≤ g ∧ g < hi ∧ ∃ f, Blk w g e (n * sz) f
theorem ShSl.tr {w w' : World} {lo hi : Nat} {e : TypeId} {sz n : Nat} {v : Value} (h : ShSl w lo hi e sz n v) (k : MkTr lo hi w w') : ShSl w' lo hi e sz n v := by
  obtain ⟨g, c, h1, h2, h3, f, hB⟩ := h
  exact ⟨g, c, h1, h2, h3, k.shp _ _ _ _ hB⟩
theorem ShSl.later {w w' : World} {lo hi : Nat} {e : TypeId} {sz n : Nat} {v : Value} (h : ShSl w lo hi e sz n v) (k : Below w.heap.size w w') : ShSl w' lo hi e sz n v := by
  obtain ⟨g, c, h1, h2, h3, f, hB⟩ := h
  exact ⟨g, c, h1, h2, h3, f, hB.later k⟩
def ShVars (w : World) (lo hi : Nat) (v : Value) : Prop := ∃ n, n ≤ 1048576 ∧ ShSl w lo hi 40 2 n v
def ShMoms (w : World) (lo hi n : Nat) (v : Value) : Prop := ∃ g c, v = .slice (some ⟨g, 0, none⟩) n c ∧ lo ≤ g ∧ g < hi ∧ ∃ f, Blk w g 114 (n * 6) f ∧ ∀ i, i < n → ShVars w lo hi (f (i * 6 + 5))
theorem ShMoms.later {w w' : World} {lo hi n : Nat} {v : Value} (h : ShMoms w lo hi n v) (k : Below w.heap.size w w') : ShMoms w' lo hi n v := by
  obtain ⟨g, c, h1, h2, h3, f, hB, hv⟩ := h
  exact ⟨g, c, h1, h2, h3, f, hB.later k, fun i hi => by obtain ⟨m, a, b⟩ := hv i hi; exact ⟨m, a, b.later k⟩⟩
theorem OwStrs.sh {w : World} {lo : Nat} {v : Value} {xs : List ByteArray} (h : OwStrs w lo v xs) : ShSl w lo w.heap.size 9 1 xs.length v := by
  obtain ⟨g, c, f, h1, h2, h3, _⟩ := h
  exact ⟨g, c, h1, h2, h3.lt, f, by rw [Nat.mul_one]; exact h3⟩
theorem OwMoms.sh {w : World} {lo : Nat} {v : Value} {ms : List PMom} (h : OwMoms w lo v ms) (hs : smMoms ms) : ShMoms w lo w.heap.size ms.length v := by
  obtain ⟨g, c, f, h1, h2, h3, h4⟩ := h
  refine ⟨g, c, h1, h2, h3.lt, f, h3, fun i hi => ?_⟩
  obtain ⟨_, g', c', f', a1, a2, a3, _⟩ := h4 i hi
  exact ⟨_, (hs.2 i hi).2.1, g', c', a1, a2, a3.lt, f', a3⟩

/-- What the marks of a part of the trace leave. -/
def MtPost (w : World) (lo hi : Nat) (k : Int) (d : Nat) (e : Ending) (w' : World) : Prop := ∃ r : Int, e = .returned (.int .i64 r) ∧ k ≤ r ∧ r ≤ k + d ∧ MkTr lo hi w w'
/-- Blocks of cells of another type than e0 are as they were. -/
def KpT (e0 : TypeId) (w w' : World) : Prop := ∀ b e N f, Blk w b e N f → e ≠ e0 → Blk w' b e N f
theorem KpT.then {e0 : TypeId} {w w1 w2 : World} (h : KpT e0 w w1) (k : Below w1.heap.size w1 w2) : KpT e0 w w2 := fun b e N f hB he => (h b e N f hB he).later k
theorem KpT.set {e0 : TypeId} {w w1 : World} (h : KpT e0 w w1) {g N : Nat} {f : Nat → Value} (hB : Blk w1 g e0 N f) (j : Nat) (u : Value) : KpT e0 w (w1.setCell ⟨g, j, none⟩ u) := fun b e N' f' hb he =>
  (h b e N' f' hb he).far (fun hh => (h b e N' f' hb he).ne hB he hh) _
def MvPost (e0 : TypeId) (w : World) (lo hi : Nat) (k : Int) (d : Nat) (e : Ending) (w' : World) : Prop := ∃ r : Int, e = .returned (.int .i64 r) ∧ k ≤ r ∧ r ≤ k + d ∧ MkTr lo hi w w' ∧ KpT e0 w w'
set_option maxRecDepth 100000 in
set_option maxHeartbeats 2000000 in
theorem markVars_calls (lo hi n : Nat) (v : Value) (k : Int) (w : World) (h : ShSl w lo hi 40 2 n v) (hn : n ≤ 1048576) (hk0 : 0 ≤ k) (hk1 : k ≤ 1125899906842624) :
    Calls Tryz.prog 65 #[v, .int .i64 k] w (MvPost 40 w lo hi k (n * 2)) := by
  obtain ⟨g, c, rfl, hl, hh, f, hB⟩ := h
  have HK := Lib.hid hB
  clear hB
  go_enter Tryz.func65, Tryz.ntmps65
  go_wp2_with fail
  go_loopw [1, 5] (fun kk i wr => ∃ (q : Nat) (r : Int) (f : Nat → Value), q ≤ n ∧ i = .int .i64 q ∧ kk = .int .i64 r ∧ k ≤ r ∧ r ≤ k + 2 * q ∧ Blk wr g 40 (n * 2) f ∧ MkTr lo hi w wr ∧ KpT 40 w wr) (fun _ i _ => n - (intOf i).toNat)
  case atStart => exact ⟨0, k, f, Nat.zero_le _, rfl, rfl, by omega, by omega, HK.out, MkTr.refl _ _ _, fun _ _ _ _ h _ => h⟩
  case round =>
    obtain ⟨q, r, f', hq, rfl, rfl, hr0, hr1, hB, hM, hK⟩ := hrel
    clear HK
    have HM := Lib.hid hM
    have HP := Lib.hid hK
    clear hK
    have HK := Lib.hid hB
    clear hB hM
    by_cases hlt : q < n
    · have hlt' : (q : Int) < (n : Int) := by omega
      go_wp2_with fail
      refine (markText_calls _ _ (by omega) (by omega)).mono ?_; rintro e w1 ⟨rfl, hb⟩
      replace HM := Lib.hid (HM.out.then hb)
      replace HP := Lib.hid (HP.out.then hb)
      replace HK := Lib.hid (HK.out.later hb); clear hb
      have x0 := HK.out.cell (j := q * 2) (by omega)
      have y0 := HK.out.free (q * 2)
      go_wp2_with fail
      refine (markText_calls _ _ (by omega) (by omega)).mono ?_; rintro e w2 ⟨rfl, hb⟩
      have HM2 := Lib.hid (MkTr.then (HM.out.set (b := g) hl hh (q * 2) _) hb)
      have HP2 := Lib.hid (KpT.then (HP.out.set HK.out (q * 2) _) hb)
      have HK2 := Lib.hid ((HK.out.set (j := q * 2) (by omega) _).later hb)
      have x1 := HK2.out.cell (j := q * 2 + 1) (by omega)
      have y1 := HK2.out.free (q * 2 + 1)
      clear x0 y0 hb HM HP HK
      go_wp2
      go_roundw
      case rel => exact ⟨q + 1, r + 1 + 1, _, by omega, by go_num, rfl, by omega, by omega, HK2.out.set (by omega) _, HM2.out.set hl hh _ _, HP2.out.set HK2.out _ _⟩
      case measure => simp [intOf]; omega
    · obtain rfl : q = n := by omega
      go_wp2
      go_ret
      exact ⟨r, rfl, by omega, by omega, HM.out, HP.out⟩

set_option maxRecDepth 100000 in
set_option maxHeartbeats 2000000 in
theorem markStrings_calls (lo hi n : Nat) (v : Value) (k : Int) (w : World) (h : ShSl w lo hi 9 1 n v) (hn : n ≤ 1048576) (hk0 : 0 ≤ k) (hk1 : k ≤ 1125899906842624) :
    Calls Tryz.prog 61 #[v, .int .i64 k] w (MvPost 9 w lo hi k n) := by
  obtain ⟨g, c, rfl, hl, hh, f, hB⟩ := h
  rw [Nat.mul_one] at hB
  have HK := Lib.hid hB
  clear hB
  go_enter Tryz.func61, Tryz.ntmps61
  go_wp2_with fail
  go_loopw [1, 5] (fun kk i wr => ∃ (q : Nat) (r : Int) (f : Nat → Value), q ≤ n ∧ i = .int .i64 q ∧ kk = .int .i64 r ∧ k ≤ r ∧ r ≤ k + q ∧ Blk wr g 9 n f ∧ MkTr lo hi w wr ∧ KpT 9 w wr) (fun _ i _ => n - (intOf i).toNat)
  case atStart => exact ⟨0, k, f, Nat.zero_le _, rfl, rfl, by omega, by omega, HK.out, MkTr.refl _ _ _, fun _ _ _ _ h _ => h⟩
  case round =>
    obtain ⟨q, r, f', hq, rfl, rfl, hr0, hr1, hB, hM, hK⟩ := hrel
    clear HK
    have HM := Lib.hid hM
    have HP := Lib.hid hK
    clear hK
    have HK := Lib.hid hB
    clear hB hM
    by_cases hlt : q < n
    · have hlt' : (q : Int) < (n : Int) := by omega
      go_wp2_with fail
      refine (markText_calls _ _ (by omega) (by omega)).mono ?_; rintro e w1 ⟨rfl, hb⟩
      replace HM := Lib.hid (HM.out.then hb)
      replace HP := Lib.hid (HP.out.then hb)
      replace HK := Lib.hid (HK.out.later hb); clear hb
      have x0 := HK.out.cell (j := q) (by omega)
      have y0 := HK.out.free q
      go_wp2
      go_roundw
      case rel => exact ⟨q + 1, r + 1, _, by omega, by go_num, rfl, by omega, by omega, HK.out.set (by omega) _, HM.out.set hl hh _ _, HP.out.set HK.out _ _⟩
      case measure => simp [intOf]; omega
    · obtain rfl : q = n := by omega
      go_wp2
      go_ret
      exact ⟨r, rfl, by omega, by omega, HM.out, HP.out⟩

set_option maxRecDepth 100000 in
set_option maxHeartbeats 2000000 in
theorem markMoments_calls (lo hi n : Nat) (v : Value) (k : Int) (w : World) (h : ShMoms w lo hi n v) (hn : n ≤ 1048576) (hk0 : 0 ≤ k) (hk1 : k ≤ 1099511627776) :
    Calls Tryz.prog 62 #[v, .int .i64 k] w (MtPost w lo hi k (n * 4194304)) := by
  obtain ⟨g, c, rfl, hl, hh, f, hB, hV⟩ := h
  have HK := Lib.hid hB
  have HV := Lib.hid hV
  clear hB hV
  go_enter Tryz.func62, Tryz.ntmps62
  go_wp2_with fail
  go_loopw [1, 5] (fun kk i wr => ∃ (q : Nat) (r : Int) (f : Nat → Value), q ≤ n ∧ i = .int .i64 q ∧ kk = .int .i64 r ∧ k ≤ r ∧ r ≤ k + 4194304 * q ∧ Blk wr g 114 (n * 6) f ∧ (∀ i, i < n → ShVars wr lo hi (f (i * 6 + 5))) ∧ MkTr lo hi w wr) (fun _ i _ => n - (intOf i).toNat)
  case atStart => exact ⟨0, k, f, Nat.zero_le _, rfl, rfl, by omega, by omega, HK.out, HV.out, MkTr.refl _ _ _⟩
  case round =>
    obtain ⟨q, r, f', hq, rfl, rfl, hr0, hr1, hB, hV, hM⟩ := hrel
    clear HK HV
    have HM := Lib.hid hM
    have HK := Lib.hid hB
    have HV := Lib.hid hV
    clear hB hM hV
    by_cases hlt : q < n
    · have hlt' : (q : Int) < (n : Int) := by omega
      have x0 := HK.out.cell (j := q * 6) (by omega)
      have x1 := HK.out.cell (j := q * 6 + 1) (by omega)
      have x2 := HK.out.cell (j := q * 6 + 2) (by omega)
      have x3 := HK.out.cell (j := q * 6 + 3) (by omega)
      have y0 := HK.out.free (q * 6)
      have y1 := HK.out.free (q * 6 + 1)
      have y2 := HK.out.free (q * 6 + 2)
      have y3 := HK.out.free (q * 6 + 3)
      go_wp2_with fail
      generalize hW : World.setCell (World.setCell _ _ _) _ _ = W
      have hB : ∃ f4, Blk W g 114 (n * 6) f4 ∧ ∀ i, f4 (i * 6 + 5) = f' (i * 6 + 5) := by
        rw [← hW]
        refine ⟨_, (((HK.out.set (j := q * 6) (by omega) _).set (j := q * 6 + 1) (by omega) _).set (j := q * 6 + 2) (by omega) _).set (j := q * 6 + 3) (by omega) _, fun i => ?_⟩
        rw [upd_ne _ _ (by omega), upd_ne _ _ (by omega), upd_ne _ _ (by omega), upd_ne _ _ (by omega)]
      have hM : MkTr lo hi wr W := by
        rw [← hW]
        exact ((((MkTr.refl _ _ _).set (b := g) hl hh _ _).set (b := g) hl hh _ _).set (b := g) hl hh _ _).set (b := g) hl hh _ _
      obtain ⟨f4, hB, hf4⟩ := hB
      replace HV : Hid (∀ i, i < n → ShVars W lo hi (f4 (i * 6 + 5))) := Lib.hid fun i hi => by rw [hf4]; obtain ⟨m, a, b⟩ := HV.out i hi; exact ⟨m, a, b.tr hM⟩
      replace HM := Lib.hid (HM.out.trans hM)
      clear HK
      have HK := Lib.hid hB
      clear hB hM hf4 hW x0 x1 x2 x3 y0 y1 y2 y3
      refine (markText_calls _ _ (by omega) (by omega)).mono ?_; rintro e w1 ⟨rfl, hb⟩
      replace HM := Lib.hid (HM.out.then hb)
      replace HV : Hid (∀ i, i < n → ShVars w1 lo hi (f4 (i * 6 + 5))) := Lib.hid fun i hi => by obtain ⟨m, a, b⟩ := HV.out i hi; exact ⟨m, a, b.later hb⟩
      replace HK := Lib.hid (HK.out.later hb); clear hb
      have x4 := HK.out.cell (j := q * 6 + 4) (by omega)
      have y4 := HK.out.free (q * 6 + 4)
      have x5 := HK.out.cell (j := q * 6 + 5) (by omega)
      obtain ⟨m, hm, hs⟩ := HV.out q hlt
      obtain ⟨g5, c5, e5, -⟩ := id hs
      rw [e5] at x5 hs
      clear e5
      have HS := Lib.hid hs
      clear hs
      go_wp2_with fail
      have hM : MkTr lo hi w1 _ := (MkTr.refl lo hi w1).set (b := g) hl hh (q * 6 + 4) (.string (mT (r + 1 + 1 + 1 + 1).toNat))
      refine (markVars_calls lo hi m _ _ _ (HS.out.tr hM) hm (by omega) (by omega)).mono ?_; rintro e w2 ⟨r2, rfl, hr2, hr3, hM2, hK2⟩
      have hB := hK2 _ _ _ _ (HK.out.set (j := q * 6 + 4) (by omega) (.string (mT (r + 1 + 1 + 1 + 1).toNat))) (by decide)
      replace HM := Lib.hid (HM.out.trans (hM.trans hM2))
      replace HV : Hid (∀ i, i < n → ShVars w2 lo hi (upd f4 (q * 6 + 4) (.string (mT (r + 1 + 1 + 1 + 1).toNat)) (i * 6 + 5))) := Lib.hid fun i hi => by
        rw [upd_ne _ _ (by omega)]
        obtain ⟨m, a, b⟩ := HV.out i hi
        exact ⟨m, a, b.tr (hM.trans hM2)⟩
      have HK2 := Lib.hid hB
      clear hB hM hM2 hK2 x4 y4 x5 HK HS
      go_wp2
      go_roundw
      case rel => exact ⟨q + 1, r2, _, by omega, by go_num, rfl, by omega, by omega, HK2.out, HV.out, HM.out⟩
      case measure => simp [intOf]; omega
    · obtain rfl : q = n := by omega
      go_wp2
      go_ret
      exact ⟨r, rfl, by omega, by omega, HM.out⟩

set_option maxRecDepth 100000 in
set_option maxHeartbeats 2000000 in
theorem markTrace_calls (lo hi n1 n2 : Nat) (v1 v2 : Value) (k : Int) (w : World) (h1 : ShSl w lo hi 9 1 n1 v1) (h2 : ShMoms w lo hi n2 v2) (hn1 : n1 ≤ 1048576) (hn2 : n2 ≤ 1048576) (hk0 : 0 ≤ k) (hk1 : k ≤ 1048576) :
    Calls Tryz.prog 22 #[.agg #[v1, v2], .int .i64 k] w (MtPost w lo hi k (n1 + n2 * 4194304)) := by
  have H1 := Lib.hid h1
  have H2 := Lib.hid h2
  obtain ⟨g1, c1, rfl, -⟩ := h1
  obtain ⟨g2, c2, rfl, -⟩ := h2
  go_enter Tryz.func22, Tryz.ntmps22
  go_wp2_with fail
  refine (markStrings_calls lo hi n1 _ _ _ (H1.out.later (by repeat (with_reducible first | exact Below.refl _ _ | exact HL.out | refine bl_drewN ?_ _ | refine bl_drew ?_ | refine bl_alloc ?_ _ | refine bl_set ?_ (by dsimp only; omega) _))) hn1 (by omega) (by omega)).mono ?_; rintro e w1 ⟨r, rfl, hr0, hr1, hM, hK⟩
  have hx : w1.cell? ⟨w.heap.size, 1, none⟩ = some (.slice (some ⟨g2, 0, none⟩) n2 c2) := by
    have h := (Blk.made w #[.slice (some ⟨g1, 0, none⟩) n1 c1, .slice (some ⟨g2, 0, none⟩) n2 c2] 26)
    exact (hK _ _ _ _ h (by decide)).cell (j := 1) (by simp)
  have h2 : ShMoms w1 lo hi n2 (.slice (some ⟨g2, 0, none⟩) n2 c2) := by
    obtain ⟨g, c, e, h2, h3, f, hB, hv⟩ := H2.out.later (w' := w.alloc (.cells #[.slice (some ⟨g1, 0, none⟩) n1 c1, .slice (some ⟨g2, 0, none⟩) n2 c2] 26)) (by repeat (with_reducible first | exact Below.refl _ _ | exact HL.out | refine bl_drewN ?_ _ | refine bl_drew ?_ | refine bl_alloc ?_ _ | refine bl_set ?_ (by dsimp only; omega) _))
    exact ⟨g, c, e, h2, h3, f, hK _ _ _ _ hB (by decide), fun i hi => by obtain ⟨m, a, b⟩ := hv i hi; exact ⟨m, a, b.tr hM⟩⟩
  have HM := Lib.hid (MkTr.trans (MkTr.then (MkTr.refl lo hi w) (bl_alloc (Below.refl _ w) _)) hM)
  clear H2
  have H2 := Lib.hid h2
  clear h2 hM hK
  go_wp2_with fail
  refine (markMoments_calls lo hi n2 _ _ _ H2.out hn2 (by omega) (by omega)).mono ?_; rintro e w2 ⟨r2, rfl, hr2, hr3, hM⟩
  replace HM := Lib.hid (HM.out.trans hM)
  clear hM
  go_wp2
  go_ret
  exact ⟨r2, rfl, by omega, by omega, HM.out⟩
end Go.Proofs.YtcklnjjbhngbcaaGreatDoor

namespace Go.Proofs.YtcklnjjbhngbcaaGreatDoor
open Go.RowKit Go.Proofs.Lens

theorem copyTrace_calls (v1 v2 : Value) (t : PTr) (w : World) (hr : RdTr w v1 v2 t) (hz : smTr t) :
    Calls Tryz.prog 17 #[.agg #[v1, v2]] w fun e w' => ∃ A1 c1 A2 c2, e = .returned (.agg #[.slice A1 t.fns.length c1, .slice A2 t.moms.length c2]) ∧
      RdTr w' (.slice A1 t.fns.length c1) (.slice A2 t.moms.length c2) t ∧ Below w.heap.size w w' := by
  refine (toTrace_calls v1 v2 t w hr hz).mono ?_
  rintro e w1 ⟨u1, u2, rfl, h1, h2, hb⟩
  have r1 := h1.rd (by have := hz.1.1; omega)
  have r2 := h2.rd hz.2
  obtain ⟨A1, c1, e1, -⟩ := id r1
  obtain ⟨vv, ⟨A2, c2, e2, -⟩, -⟩ := id r2
  subst e1
  subst e2
  exact ⟨A1, c1, A2, c2, rfl, ⟨r1, r2⟩, hb⟩
section
variable {H : Type} {enc : TypeId × Value → H} {w : World} {base : Nat} {spare : Nat → Bool} {held : Bool}
end
end Go.Proofs.YtcklnjjbhngbcaaGreatDoor

namespace Go.Proofs.YtcklnjjbhngbcaaGreatDoor
open Go.RowKit Go.Proofs.Lens

end Go.Proofs.YtcklnjjbhngbcaaGreatDoor
namespace Go.Proofs.Lens
open Go.RowKit Go.Proofs.YtcklnjjbhngbcaaGreatDoor
theorem BoxAt.low {w w' : World} {b lo : Nat} {vs : List Value} (h : BoxAt w b vs) (hb : Below lo w w') (hl : b < lo) : BoxAt w' b vs := fun j v hj => (hb.cell (p := ⟨b, j, none⟩) hl).trans (h j v hj)
theorem OwR.low {w w' : World} {lo lo2 n sz : Nat} {e : TypeId} {C : Nat → Nat → Value} {v : Value} (h : OwR w lo e sz n C v) (hb : Below lo2 w w') (hl : ∀ b, v.ownBlock = some b → b < lo2) : OwR w' lo e sz n C v :=
  h.keep fun b _ _ _ hv => hb.block b (hl b hv)
theorem OwR.hi {w w' : World} {lo lo2 hi n sz : Nat} {e : TypeId} {C : Nat → Nat → Value} {v : Value} (h : OwR w lo e sz n C v) (hM : MkTr lo2 hi w w') (hl : ∀ b, v.ownBlock = some b → hi ≤ b) : OwR w' lo e sz n C v :=
  h.keep fun b _ _ hB hv => hM.block b hB.lt (.inr (hl b hv))
end Go.Proofs.Lens
namespace Go.Proofs.YtcklnjjbhngbcaaGreatDoor
open Go.RowKit Go.Proofs.Lens
theorem bl_low' {lo B : Nat} {w W : World} (h : Below B w W) (hl : lo ≤ B) : Below lo w W := ⟨h.os, h.tape, h.output, h.size, fun k hk => h.block k (Nat.lt_of_lt_of_le hk hl)⟩
theorem bl_trans' {lo : Nat} {a b c : World} (h : Below lo a b) (k : Below lo b c) : Below lo a c := ⟨k.os.trans h.os, k.tape.trans h.tape, k.output.trans h.output, Nat.le_trans h.size k.size, fun j hj => (k.block j hj).trans (h.block j hj)⟩
/-- The world from w on while a trace's copy and a result are compared. -/
theorem held_tr' {w W W' : World} {a1 a2 a3 a4 : Addr} {v1 v2 v3 v4 : Value} (h : Below w.heap.size w W ∧ W.cell? a1 = some v1 ∧ W.cell? a2 = some v2 ∧ W.cell? a3 = some v3 ∧ W.cell? a4 = some v4) (hb : Below W.heap.size W W') :
    Below w.heap.size w W' ∧ W'.cell? a1 = some v1 ∧ W'.cell? a2 = some v2 ∧ W'.cell? a3 = some v3 ∧ W'.cell? a4 = some v4 :=
  ⟨bl_then h.1 hb, cell_later hb h.2.1, cell_later hb h.2.2.1, cell_later hb h.2.2.2.1, cell_later hb h.2.2.2.2⟩
theorem held_bl' {w W : World} {a1 a2 a3 a4 : Addr} {v1 v2 v3 v4 : Value} (h : Below w.heap.size w W ∧ W.cell? a1 = some v1 ∧ W.cell? a2 = some v2 ∧ W.cell? a3 = some v3 ∧ W.cell? a4 = some v4) : Below w.heap.size w W := h.1
end Go.Proofs.YtcklnjjbhngbcaaGreatDoor
