/- Lemmas and contracts of functions that the theorem of this claim leans on (texts L16, L17). -/
import Derived.Deep.RegionHeld3
import Derived.Test.YtcklnjjbhngbcaaGreatDoorRowLkz07
import Derived.Test.YtcklnjjbhngbcaaGreatDoorRowLkz44
import Derived.Test.YtcklnjjbhngbcaaGreatDoorRowLkz45
import Derived.Test.YtcklnjjbhngbcaaGreatDoorRowLkz46
namespace Go.Proofs.YtcklnjjbhngbcaaGreatDoor
open Go.RowKit Go.Proofs.Lens
set_option linter.unusedSimpArgs false

set_option maxRecDepth 100000 in
set_option maxHeartbeats 2000000 in
theorem eqTold_calls (q : PTold) (s1 v1 s2 v2 : Value) (w : World) (h1 : RdFrs w s1 q.stack) (h2 : RdVars w v1 q.vars) (h3 : RdFrs w s2 q.stack) (h4 : RdVars w v2 q.vars) :
    Calls Tryz.prog 57 #[.agg #[.int .i64 q.place, .int .i64 q.code, .int .i64 q.num, .string q.text, s1, v1], .agg #[.int .i64 q.place, .int .i64 q.code, .int .i64 q.num, .string q.text, s2, v2]] w
      fun e w' => e = .returned (.bool true) ∧ Below w.heap.size w w' := by
  have H1 := Lib.hid h1
  have H2 := Lib.hid h2
  have H3 := Lib.hid h3
  have H4 := Lib.hid h4
  obtain ⟨A1, c1, rfl, -⟩ := h1
  obtain ⟨A2, c2, rfl, -⟩ := h2
  obtain ⟨A3, c3, rfl, -⟩ := h3
  obtain ⟨A4, c4, rfl, -⟩ := h4
  go_enter Tryz.func57, Tryz.ntmps57
  go_wp2_with fail
  refine (eqFrames_calls _ _ q.stack _ (H1.out.later (bl_alloc (bl_alloc (Below.refl _ _) _) _)) (H3.out.later (bl_alloc (bl_alloc (Below.refl _ _) _) _))).mono ?_; rintro e w1 ⟨rfl, hb1⟩
  have HL1 := Lib.hid (bl_then (bl_alloc (bl_alloc (Below.refl _ w) _) _) hb1)
  have hx := ((Blk.made w _ _).alloc _).later hb1
  have hy := (Blk.made (w.alloc _) _ _).later hb1
  simp only [World.size_alloc] at hx hy
  have a1 : w1.cell? ⟨w.heap.size, 5, none⟩ = some (.slice A2 q.vars.length c2) := hx.cell (j := 5) (by simp)
  have a2 : w1.cell? ⟨w.heap.size + 1, 5, none⟩ = some (.slice A4 q.vars.length c4) := hy.cell (j := 5) (by simp)
  clear hx hy hb1
  go_wp2_with fail
  refine (eqVars_calls _ _ q.vars _ (H2.out.later HL1.out) (H4.out.later HL1.out)).mono ?_; rintro e w2 ⟨rfl, hb2⟩
  have HL2 := Lib.hid (bl_then HL1.out hb2)
  clear hb2
  go_wp2
  go_ret
  exact ⟨rfl, HL2.out⟩

set_option maxRecDepth 100000 in
set_option maxHeartbeats 2000000 in
theorem eqToldS_calls (v1 v2 : Value) (xs : List PTold) (w : World) (h1 : RdTold w v1 xs) (h2 : RdTold w v2 xs) :
    Calls Tryz.prog 19 #[v1, v2] w fun e w' => e = .returned (.bool true) ∧ Below w.heap.size w w' := by
  obtain ⟨sv, vv, h1, hv1⟩ := h1
  obtain ⟨sv2, vv2, h2, hv2⟩ := h2
  have H1 := Lib.hid h1
  have H2 := Lib.hid h2
  have V1 := Lib.hid hv1
  have V2 := Lib.hid hv2
  obtain ⟨A, c, rfl, hn, hrow⟩ := h1
  obtain ⟨A2, c2, rfl, -, hrow2⟩ := h2
  clear hrow hrow2 hv1 hv2
  go_enter Tryz.func19, Tryz.ntmps19
  go_wp2
  go_loopw [5] (fun i wr => ∃ (k : Nat), k ≤ xs.length ∧ i = .int .i64 k ∧ Below w.heap.size w wr) (fun i _ => xs.length - (intOf i).toNat)
  case atStart => exact ⟨0, Nat.zero_le _, rfl, Below.refl _ _⟩
  case round =>
    obtain ⟨k, hk, rfl, hb⟩ := hrel
    have HL := Lib.hid hb
    by_cases hlt : k < xs.length
    · obtain ⟨A', c', he, _, hrow⟩ := H1.out.later hb
      obtain ⟨rfl, rfl⟩ : A = A' ∧ c = c' := by simpa using he
      obtain ⟨b, o, rfl, hc⟩ := hrow (by omega)
      obtain ⟨A', c', he', _, hrow'⟩ := H2.out.later hb
      obtain ⟨rfl, rfl⟩ : A2 = A' ∧ c2 = c' := by simpa using he'
      obtain ⟨b2, o2, rfl, hc2⟩ := hrow' (by omega)
      have x0 : wr.cell? ⟨b, o + k * 6, none⟩ = some (.int .i64 (elt xs k).place) := hc k hlt 0 (by omega)
      have x1 : wr.cell? ⟨b, o + k * 6 + 1, none⟩ = some (.int .i64 (elt xs k).code) := hc k hlt 1 (by omega)
      have x2 : wr.cell? ⟨b, o + k * 6 + 2, none⟩ = some (.int .i64 (elt xs k).num) := hc k hlt 2 (by omega)
      have x3 : wr.cell? ⟨b, o + k * 6 + 3, none⟩ = some (.string (elt xs k).text) := hc k hlt 3 (by omega)
      have x4 : wr.cell? ⟨b, o + k * 6 + 4, none⟩ = some (sv k) := hc k hlt 4 (by omega)
      have x5 : wr.cell? ⟨b, o + k * 6 + 5, none⟩ = some (vv k) := hc k hlt 5 (by omega)
      have y0 : wr.cell? ⟨b2, o2 + k * 6, none⟩ = some (.int .i64 (elt xs k).place) := hc2 k hlt 0 (by omega)
      have y1 : wr.cell? ⟨b2, o2 + k * 6 + 1, none⟩ = some (.int .i64 (elt xs k).code) := hc2 k hlt 1 (by omega)
      have y2 : wr.cell? ⟨b2, o2 + k * 6 + 2, none⟩ = some (.int .i64 (elt xs k).num) := hc2 k hlt 2 (by omega)
      have y3 : wr.cell? ⟨b2, o2 + k * 6 + 3, none⟩ = some (.string (elt xs k).text) := hc2 k hlt 3 (by omega)
      have y4 : wr.cell? ⟨b2, o2 + k * 6 + 4, none⟩ = some (sv2 k) := hc2 k hlt 4 (by omega)
      have y5 : wr.cell? ⟨b2, o2 + k * 6 + 5, none⟩ = some (vv2 k) := hc2 k hlt 5 (by omega)
      clear hc hc2 he he' hrow hrow' hb
      go_wp2_with fail
      go_still_tail 8, (by kernel_rfl)
      go_wp2_with fail
      refine (eqTold_calls (elt xs k) _ _ _ _ _ ((V1.out k hlt).1.later (bl_drew HL.out)) ((V1.out k hlt).2.later (bl_drew HL.out)) ((V2.out k hlt).1.later (bl_drew HL.out)) ((V2.out k hlt).2.later (bl_drew HL.out))).mono ?_; rintro e w1 ⟨rfl, hb1⟩
      have HL1 := Lib.hid (bl_then (bl_drew HL.out) hb1)
      clear hb1
      go_wp2
      go_roundw
      case rel => exact ⟨k + 1, by omega, by go_num, HL1.out⟩
      case measure => simp [intOf]; omega
    · clear hb
      go_wp2
      go_ret
      exact ⟨rfl, HL.out⟩

/-! ### marks -/
set_option maxRecDepth 100000 in
set_option maxHeartbeats 2000000 in
theorem markAsks_calls (lo hi n : Nat) (v : Value) (k : Int) (w : World) (h : ShSl w lo hi 47 7 n v) (hn : n ≤ 1048576) (hk0 : 0 ≤ k) (hk1 : k ≤ 1125899906842624) :
    Calls Tryz.prog 23 #[v, .int .i64 k] w (MtPost w lo hi k (n * 7)) := by
  obtain ⟨g, c, rfl, hl, hh, f, hB⟩ := h
  have HK := Lib.hid hB
  clear hB
  go_enter Tryz.func23, Tryz.ntmps23
  go_wp2_with fail
  go_loopw [1, 5] (fun kk i wr => ∃ (q : Nat) (r : Int) (f : Nat → Value), q ≤ n ∧ i = .int .i64 q ∧ kk = .int .i64 r ∧ k ≤ r ∧ r ≤ k + 7 * q ∧ Blk wr g 47 (n * 7) f ∧ MkTr lo hi w wr) (fun _ i _ => n - (intOf i).toNat)
  case atStart => exact ⟨0, k, f, Nat.zero_le _, rfl, rfl, by omega, by omega, HK.out, MkTr.refl _ _ _⟩
  case round =>
    obtain ⟨q, r, f', hq, rfl, rfl, hr0, hr1, hB, hM⟩ := hrel
    clear HK
    have HM := Lib.hid hM
    have HK := Lib.hid hB
    clear hB hM
    by_cases hlt : q < n
    · have hlt' : (q : Int) < (n : Int) := by omega
      have x0 := HK.out.cell (j := q * 7) (by omega)
      have y0 := HK.out.free (q * 7)
      have x1 := HK.out.cell (j := q * 7 + 1) (by omega)
      have y1 := HK.out.free (q * 7 + 1)
      go_wp2_with fail
      refine (markText_calls _ _ (by omega) (by omega)).mono ?_; rintro e w1 ⟨rfl, hb⟩
      have HM2 := Lib.hid (MkTr.then ((HM.out.set (b := g) hl hh (q * 7) _).set (b := g) hl hh (q * 7 + 1) _) hb)
      have HK2 := Lib.hid (((HK.out.set (j := q * 7) (by omega) _).set (j := q * 7 + 1) (by omega) _).later hb)
      clear x0 y0 x1 y1 hb HM HK
      have x2 := HK2.out.cell (j := q * 7 + 2) (by omega)
      have y2 := HK2.out.free (q * 7 + 2)
      have x3 := HK2.out.cell (j := q * 7 + 3) (by omega)
      have y3 := HK2.out.free (q * 7 + 3)
      have x4 := HK2.out.cell (j := q * 7 + 4) (by omega)
      have y4 := HK2.out.free (q * 7 + 4)
      have x5 := HK2.out.cell (j := q * 7 + 5) (by omega)
      have y5 := HK2.out.free (q * 7 + 5)
      go_wp2_with fail
      refine (markText_calls _ _ (by omega) (by omega)).mono ?_; rintro e w2 ⟨rfl, hb⟩
      have HM3 := Lib.hid (MkTr.then ((((HM2.out.set (b := g) hl hh (q * 7 + 2) _).set (b := g) hl hh (q * 7 + 3) _).set (b := g) hl hh (q * 7 + 4) _).set (b := g) hl hh (q * 7 + 5) _) hb)
      have HK3 := Lib.hid (((((HK2.out.set (j := q * 7 + 2) (by omega) _).set (j := q * 7 + 3) (by omega) _).set (j := q * 7 + 4) (by omega) _).set (j := q * 7 + 5) (by omega) _).later hb)
      clear x2 y2 x3 y3 x4 y4 x5 y5 hb HM2 HK2
      have x6 := HK3.out.cell (j := q * 7 + 6) (by omega)
      have y6 := HK3.out.free (q * 7 + 6)
      go_wp2
      go_roundw
      case rel => exact ⟨q + 1, r + 1 + 1 + 1 + 1 + 1 + 1 + 1, _, by omega, by go_num, rfl, by omega, by omega, HK3.out.set (by omega) _, HM3.out.set hl hh _ _⟩
      case measure => simp [intOf]; omega
    · obtain rfl : q = n := by omega
      go_wp2
      go_ret
      exact ⟨r, rfl, by omega, by omega, HM.out⟩

/-- The marks of variables. -/
def mvC (k : Int) (i j : Nat) : Value := .string (mT (k + 2 * (i : Int) + j).toNat)
def mvQ (q : Nat) (k : Int) (C : Nat → Nat → Value) (i j : Nat) : Value := if i < q then mvC k i j else C i j
theorem gbo_then {w W W' : World} {r : Option Nat} (h : w.grownBy W r) (hb : Below W.heap.size W W') : w.grownBy W' r :=
  ⟨hb.os.trans h.os, hb.tape.trans h.tape, hb.output.trans h.output, Nat.le_trans h.size hb.size, fun k hk hr => (hb.block k (Nat.lt_of_lt_of_le hk h.size)).trans (h.block k hk hr)⟩
def MvxPost (w : World) (lo n : Nat) (k : Int) (v : Value) (en : Ending) (w' : World) : Prop :=
  en = .returned (.int .i64 (k + 2 * (n : Int))) ∧ OwZ w' lo 40 2 n (mvC k) v ∧ w.grownBy w' (bk v)
theorem gbo_setn {w W : World} {b n c : Nat} (h : w.grownBy W (bk (Value.slice (some ⟨b, 0, none⟩) n c))) (hn : 0 < n) (j : Nat) (u : Value) : w.grownBy (W.setCell ⟨b, j, none⟩ u) (bk (Value.slice (some ⟨b, 0, none⟩) n c)) :=
  ⟨h.os, h.tape, h.output, by rw [World.size_setCell]; exact h.size, fun k hk hr => (Below.heap_setCell _ _ _ _ (fun e => hr (by
    obtain ⟨m, rfl⟩ : ∃ m, n = m + 1 := ⟨n - 1, by omega⟩
    rw [e]; rfl))).trans (h.block k hk hr)⟩
set_option maxRecDepth 100000 in
set_option maxHeartbeats 2000000 in
theorem markVarsX_calls (lo n : Nat) (C : Nat → Nat → Value) (v : Value) (k : Int) (w : World) (h : OwZ w lo 40 2 n C v) (hn : n ≤ 1048576) (hk0 : 0 ≤ k) (hk1 : k ≤ 1125899906842624) :
    Calls Tryz.prog 65 #[v, .int .i64 k] w (MvxPost w lo n k v) := by
  rcases h with ⟨rfl, A, c, rfl⟩ | ⟨h0, h⟩
  · go_enter Tryz.func65, Tryz.ntmps65
    go_wp2_with fail
    go_loopw [1, 5] (fun kk i wr => i = .int .i64 0 ∧ kk = .int .i64 k ∧ wr = w) (fun _ _ _ => 0)
    case atStart => exact ⟨rfl, rfl, rfl⟩
    case round =>
      obtain ⟨rfl, rfl, rfl⟩ := hrel
      go_wp2
      go_ret
      exact ⟨ret_int (by simp), .inl ⟨rfl, A, c, rfl⟩, World.grownBy.refl _ _⟩
  · have H := Lib.hid h
    obtain ⟨A, cap, rfl, hop⟩ := h.open'
    obtain ⟨b, rfl, -⟩ := hop h0
    clear h hop
    go_enter Tryz.func65, Tryz.ntmps65
    go_wp2_with fail
    go_loopw [1, 5] (fun kk i wr => ∃ q : Nat, q ≤ n ∧ i = .int .i64 q ∧ kk = .int .i64 (k + 2 * (q : Int)) ∧ OwR wr lo 40 2 n (mvQ q k C) (.slice (some ⟨b, 0, none⟩) n cap) ∧ w.grownBy wr (bk (Value.slice (some ⟨b, 0, none⟩) n cap))) (fun _ i _ => n - (intOf i).toNat)
    case atStart => exact ⟨0, Nat.zero_le _, rfl, by simp, H.out.congr (fun i hi j hj => by simp [mvQ]), World.grownBy.refl w _⟩
    case round =>
      obtain ⟨q, hq, rfl, rfl, hO, hG⟩ := hrel
      clear H
      have HO := Lib.hid hO
      have HG := Lib.hid hG
      clear hO hG
      by_cases hlt : q < n
      · have hlt' : (q : Int) < (n : Int) := by omega
        go_wp2_with fail
        refine (markText_calls _ _ (by omega) (by omega)).mono ?_; rintro e w1 ⟨rfl, hb⟩
        replace HG := Lib.hid (gbo_then HG.out hb)
        replace HO := Lib.hid (HO.out.later hb)
        have HS1 := Lib.hid (HO.out.set (i0 := q) (j0 := 0) (u := .string (mT (k + 2 * (q : Int)).toNat)) (C' := fun i j => if i = q ∧ j = 0 then .string (mT (k + 2 * (q : Int)).toNat) else mvQ q k C i j) hlt (by omega) (fun i j hi hj hne => by rw [if_neg (by omega)]) (by rw [if_pos ⟨rfl, rfl⟩]))
        obtain ⟨A', c', hv, hop⟩ := HO.out.open'
        obtain ⟨-, rfl⟩ : _ ∧ cap = c' := by simpa using hv
        obtain ⟨b', hbb, -, -, hc, hf⟩ := hop (by omega)
        obtain rfl : b = b' := by simp at hv; rw [← hv] at hbb; simpa using hbb
        have x0 := hc q hlt 0 (by omega)
        have y0 := hf (q * 2)
        simp only [Nat.add_zero] at x0
        clear hc hf hop hv hbb hb HO
        go_wp2_with fail
        refine (markText_calls _ _ (by omega) (by omega)).mono ?_; rintro e w2 ⟨rfl, hb⟩
        have HG2 := Lib.hid (gbo_then (gbo_setn HG.out h0 (q * 2) _) hb)
        simp only [Nat.add_zero] at HS1
        replace HS1 := Lib.hid (HS1.out.later hb)
        have HS2 := Lib.hid (HS1.out.set (i0 := q) (j0 := 1) (u := .string (mT (k + 2 * (q : Int) + 1).toNat)) (C' := mvQ (q + 1) k C) hlt (by omega) (fun i j hi hj hne => by
          unfold mvQ
          by_cases h1 : i < q
          · rw [if_pos (by omega), if_neg (by omega), if_pos h1]
          · by_cases h2 : i = q
            · obtain rfl : j = 0 := by omega
              subst h2
              rw [if_pos (by omega), if_pos ⟨rfl, rfl⟩]
              unfold mvC
              simp
            · rw [if_neg (by omega), if_neg (by omega), if_neg h1]) (by unfold mvQ mvC; rw [if_pos (by omega)]; simp))
        obtain ⟨A', c', hv, hop⟩ := HS1.out.open'
        obtain ⟨-, rfl⟩ : _ ∧ cap = c' := by simpa using hv
        obtain ⟨b', hbb, -, -, hc, hf⟩ := hop (by omega)
        obtain rfl : b = b' := by simp at hv; rw [← hv] at hbb; simpa using hbb
        have x1 := hc q hlt 1 (by omega)
        have y1 := hf (q * 2 + 1)
        clear hc hf hop hv hbb hb HS1 HG x0 y0
        go_wp2
        go_roundw
        case rel => exact ⟨q + 1, by omega, by go_num, by congr 1; omega, HS2.out, gbo_setn HG2.out h0 _ _⟩
        case measure => simp [intOf]; omega
      · obtain rfl : q = n := by omega
        go_wp2
        go_ret
        exact ⟨ret_int (by simp), owr_z (HO.out.congr (fun i hi j hj => by unfold mvQ; rw [if_pos hi])), HG.out⟩
theorem held1 {w W W' : World} {a1 : Addr} {v1 : Value} (h : Below w.heap.size w W ∧ W.cell? a1 = some v1) (hb : Below W.heap.size W W') : Below w.heap.size w W' ∧ W'.cell? a1 = some v1 := ⟨bl_then h.1 hb, cell_later hb h.2⟩
theorem held1_bl {w W : World} {a1 : Addr} {v1 : Value} (h : Below w.heap.size w W ∧ W.cell? a1 = some v1) : Below w.heap.size w W := h.1
set_option maxRecDepth 100000 in
set_option maxHeartbeats 2000000 in
theorem heldVars_calls (n : Nat) (v : Value) (k : Int) (w : World) (h : RdSl w 2 n (mvC k) v) (hn : n ≤ 1048576) (hk0 : 0 ≤ k) (hk1 : k ≤ 1125899906842624) :
    Calls Tryz.prog 67 #[v, .int .i64 k] w fun e w' => e = .returned (.int .i64 (k + 2 * (n : Int))) ∧ Below w.heap.size w w' := by
  have HR := Lib.hid h
  obtain ⟨A, cap, rfl, hm, hrow⟩ := h
  clear hrow
  go_enter Tryz.func67, Tryz.ntmps67
  go_wp2_with fail
  go_loopw [1, 5] (fun kk i wr => ∃ q : Nat, q ≤ n ∧ i = .int .i64 q ∧ kk = .int .i64 (k + 2 * (q : Int)) ∧ Below w.heap.size w wr) (fun _ i _ => n - (intOf i).toNat)
  case atStart => exact ⟨0, Nat.zero_le _, rfl, by simp, Below.refl _ _⟩
  case round =>
    obtain ⟨q, hq, rfl, rfl, hb0⟩ := hrel
    have HL := Lib.hid hb0
    clear hb0
    by_cases hlt : q < n
    · have hlt' : (q : Int) < (n : Int) := by omega
      obtain ⟨A', c', he, -, hrow⟩ := HR.out.later HL.out
      obtain ⟨rfl, rfl⟩ : A = A' ∧ cap = c' := by simpa using he
      obtain ⟨b, o, rfl, hc⟩ := hrow (by omega)
      have x0 : wr.cell? ⟨b, o + q * 2, none⟩ = some (.string (mT (k + 2 * (q : Int)).toNat)) := (hc q hlt 0 (by omega)).trans (by unfold mvC; simp)
      have x1 : wr.cell? ⟨b, o + q * 2 + 1, none⟩ = some (.string (mT (k + 2 * (q : Int) + 1).toNat)) := (hc q hlt 1 (by omega)).trans (by unfold mvC; simp)
      have hbl : b < wr.heap.size := Go.World.block_lt_of_cell? _ _ x0
      clear hc he hrow
      go_wp2_with fail
      go_region_held3 (fun w' : World => Below wr.heap.size wr w' ∧ w'.cell? ⟨b, o + q * 2, none⟩ = some (.string (mT (k + 2 * (q : Int)).toNat)))
        (first | exact ⟨bl_drew (Below.refl _ _), x0⟩ | exact held1 ‹_› hb7)
        (first | (go_at_call 63; refine (markText_calls _ _ (by omega) (by omega)).mono ?_; rintro e w1 ⟨rfl, hb7⟩))
      have hb : Below wr.heap.size wr w1 := held1_bl ‹_›
      replace x1 := cell_later hb x1
      replace HL := Lib.hid (bl_then HL.out hb)
      clear x0 hb hb7
      go_wp2_with fail
      go_region_held3 (fun w' : World => Below w1.heap.size w1 w' ∧ w'.cell? ⟨b, o + q * 2 + 1, none⟩ = some (.string (mT (k + 2 * (q : Int) + 1).toNat)))
        (first | exact ⟨bl_drew (Below.refl _ _), x1⟩ | exact held1 ‹_› hb7)
        (first | (go_at_call 63; refine (markText_calls _ _ (by omega) (by omega)).mono ?_; rintro e w2 ⟨rfl, hb7⟩))
      have hb : Below w1.heap.size w1 w2 := held1_bl ‹_›
      replace HL := Lib.hid (bl_then HL.out hb)
      clear x1 hb hb7
      go_wp2
      go_roundw
      case rel => exact ⟨q + 1, by omega, by go_num, by congr 1; omega, HL.out⟩
      case measure => simp [intOf]; omega
    · obtain rfl : q = n := by omega
      go_wp2
      go_ret
      exact ⟨ret_int (by simp), HL.out⟩
end Go.Proofs.YtcklnjjbhngbcaaGreatDoor

namespace Go.Proofs.YtcklnjjbhngbcaaGreatDoor
open Go.RowKit Go.Proofs.Lens
set_option linter.unusedSimpArgs false

/-- Where the marks of the i-th begin. -/
def offT (ns nv : Nat → Nat) : Nat → Int
  | 0 => 1
  | i + 1 => offT ns nv i + 4 + 3 * (ns i : Int) + 2 * (nv i : Int)
theorem offT_rng {ns nv : Nat → Nat} {n : Nat} (hs : ∀ i, i < n → ns i ≤ 1048576) (hv : ∀ i, i < n → nv i ≤ 1048576) : ∀ q, q ≤ n → 1 ≤ offT ns nv q ∧ offT ns nv q ≤ 1 + 5242884 * (q : Int)
  | 0, _ => by simp [offT]
  | q + 1, h => by
    have := offT_rng hs hv q (by omega)
    have := hs q (by omega)
    have := hv q (by omega)
    unfold offT
    omega
def tmC (o : Int) (j : Nat) : Value := match j with
  | 0 => .int .i64 o | 1 => .int .i64 (o + 1) | 2 => .int .i64 (o + 1 + 1) | _ => .string (mT (o + 1 + 1 + 1).toNat)
/-- The first q of n told are marked. -/
structure MTold (w : World) (lo : Nat) (v : Value) (n q : Nat) (ns nv : Nat → Nat) (sv vv : Nat → Value) : Prop where
  row : ∃ C, OwR w lo 38 6 n C v ∧ (∀ i, i < n → C i 4 = sv i ∧ C i 5 = vv i) ∧ ∀ i, i < q → ∀ j, j < 4 → C i j = tmC (offT ns nv i) j
  fr : ∀ i, i < n → ∃ C, OwR w lo 42 3 (ns i) C (sv i) ∧ (i < q → C = mkC 3 (offT ns nv i + 4))
  vr : ∀ i, i < n → ∃ C, OwZ w lo 40 2 (nv i) C (vv i) ∧ (i < q → C = mvC (offT ns nv i + 4 + 3 * (ns i : Int)))
  dfr : Dj (fun i => (sv i).ownBlock) n
  dvr : Dj (fun i => bk (vv i)) n
section
variable {w w' : World} {lo : Nat} {v : Value} {n q : Nat} {ns nv : Nat → Nat} {sv vv : Nat → Value}
theorem BTold.marks {qs : List PTold} (h : BTold w lo v qs sv vv) : MTold w lo v qs.length 0 (fun i => (elt qs i).stack.length) (fun i => (elt qs i).vars.length) sv vv :=
  ⟨⟨_, h.row, fun i hi => ⟨rfl, rfl⟩, fun i hi => absurd hi (by omega)⟩, fun i hi => ⟨_, h.fr i hi, fun h => absurd h (by omega)⟩, fun i hi => ⟨_, h.vr i hi, fun h => absurd h (by omega)⟩, h.dfr, h.dvr⟩
theorem MTold.later (h : MTold w lo v n q ns nv sv vv) (hb : Below w.heap.size w w') : MTold w' lo v n q ns nv sv vv := by
  obtain ⟨⟨C, h1, h2⟩, h3, h4, h5, h6⟩ := h
  exact ⟨⟨C, h1.later hb, h2⟩, fun i hi => by obtain ⟨C, a, b⟩ := h3 i hi; exact ⟨C, a.later hb, b⟩, fun i hi => by obtain ⟨C, a, b⟩ := h4 i hi; exact ⟨C, a.later hb, b⟩, h5, h6⟩
end
def updC (C : Nat → Nat → Value) (q j0 : Nat) (u : Value) (i j : Nat) : Value := if i = q ∧ j = j0 then u else C i j
theorem owr_upd {w : World} {lo sz n b cap q j0 : Nat} {e : TypeId} {C : Nat → Nat → Value} (h : OwR w lo e sz n C (.slice (some ⟨b, 0, none⟩) n cap)) (hq : q < n) (hj : j0 < sz) (u : Value) :
    OwR (w.setCell ⟨b, q * sz + j0, none⟩ u) lo e sz n (updC C q j0 u) (.slice (some ⟨b, 0, none⟩) n cap) :=
  h.set hq hj (fun i j hi hj' hne => by unfold updC; rw [if_neg (by omega)]) (by unfold updC; rw [if_pos ⟨rfl, rfl⟩])
theorem mv_own {w : World} {lo lo2 sz n b cap : Nat} {e : TypeId} {C : Nat → Nat → Value} {w0 : World} (h : OwR w lo e sz n C (.slice (some ⟨b, 0, none⟩) n cap)) (hm : Mv [e] lo2 w0 w) (hl : lo2 ≤ b) (j : Nat) (u : Value) : Mv [e] lo2 w0 (w.setCell ⟨b, j, none⟩ u) := by
  obtain ⟨N, f, hB⟩ := h.block (b := b) rfl
  exact hm.set (p := ⟨b, j, none⟩) hl hB (by simp) u
theorem bk_own {v : Value} {b : Nat} (h : bk v = some b) : v.ownBlock = some b ∨ ∃ a n c, v = .slice (some a) (n + 1) c ∧ a.block = b := by
  cases v with
  | slice a n c =>
    cases a with
    | none => simp [bk] at h
    | some a =>
      cases n with
      | zero => simp [bk] at h
      | succ n => exact .inr ⟨a, n, c, rfl, by simpa [bk] using h⟩
  | _ => simp [bk] at h
/-- The four cells of one told are marked: the list's row. -/
theorem row_mark {C : Nat → Nat → Value} {ns nv : Nat → Nat} {sv vv : Nat → Value} {n q : Nat} (hq : q < n) (h1 : ∀ i, i < n → C i 4 = sv i ∧ C i 5 = vv i) (h2 : ∀ i, i < q → ∀ j, j < 4 → C i j = tmC (offT ns nv i) j) (o : Int) (ho : o = offT ns nv q) :
    (∀ i, i < n → updC (updC (updC (updC C q 0 (.int .i64 o)) q 1 (.int .i64 (o + 1))) q 2 (.int .i64 (o + 1 + 1))) q 3 (.string (mT (o + 1 + 1 + 1).toNat)) i 4 = sv i ∧ updC (updC (updC (updC C q 0 (.int .i64 o)) q 1 (.int .i64 (o + 1))) q 2 (.int .i64 (o + 1 + 1))) q 3 (.string (mT (o + 1 + 1 + 1).toNat)) i 5 = vv i) ∧
    ∀ i, i < q + 1 → ∀ j, j < 4 → updC (updC (updC (updC C q 0 (.int .i64 o)) q 1 (.int .i64 (o + 1))) q 2 (.int .i64 (o + 1 + 1))) q 3 (.string (mT (o + 1 + 1 + 1).toNat)) i j = tmC (offT ns nv i) j := by
  refine ⟨fun i hi => ?_, fun i hi j hj => ?_⟩
  · unfold updC
    simp only [show (4 : Nat) ≠ 0 by omega, show (4 : Nat) ≠ 1 by omega, show (4 : Nat) ≠ 2 by omega, show (4 : Nat) ≠ 3 by omega, show (5 : Nat) ≠ 0 by omega, show (5 : Nat) ≠ 1 by omega, show (5 : Nat) ≠ 2 by omega, show (5 : Nat) ≠ 3 by omega, and_false, if_false]
    exact h1 i hi
  · by_cases e : i = q
    · subst e
      rw [← ho]
      match j, hj with
      | 0, _ => simp [updC, tmC]
      | 1, _ => simp [updC, tmC]
      | 2, _ => simp [updC, tmC]
      | 3, _ => simp [updC, tmC]
    · unfold updC
      simp only [e, false_and, if_false]
      exact h2 i (by omega) j hj
set_option maxRecDepth 100000 in
set_option maxHeartbeats 2000000 in
theorem markToldS_calls (lo n : Nat) (v : Value) (ns nv : Nat → Nat) (sv vv : Nat → Value) (w : World) (h : MTold w lo v n 0 ns nv sv vv) (hn : n ≤ 500) (hs : ∀ i, i < n → ns i ≤ 1048576) (hv : ∀ i, i < n → nv i ≤ 1048576) (hlo : lo ≤ w.heap.size) :
    Calls Tryz.prog 24 #[v, .int .i64 1] w fun e w' => e = .returned (.int .i64 (offT ns nv n)) ∧ MTold w' lo v n n ns nv sv vv ∧ Below lo w w' := by
  have H := Lib.hid h
  have HO := Lib.hid (offT_rng hs hv)
  have HNS := Lib.hid hs
  have HNV := Lib.hid hv
  obtain ⟨⟨C, hC, -⟩, -⟩ := h
  obtain ⟨A, cap, rfl, -⟩ := hC.cap
  clear hC hs hv
  go_enter Tryz.func24, Tryz.ntmps24
  go_wp2_with fail
  go_loopw [1, 5] (fun kk i wr => ∃ q : Nat, q ≤ n ∧ i = .int .i64 q ∧ kk = .int .i64 (offT ns nv q) ∧ MTold wr lo (.slice A n cap) n q ns nv sv vv ∧ Below lo w wr ∧ lo ≤ wr.heap.size) (fun _ i _ => n - (intOf i).toNat)
  case atStart => exact ⟨0, Nat.zero_le _, rfl, rfl, H.out, Below.refl _ _, hlo⟩
  case round =>
    obtain ⟨q, hq, rfl, rfl, hM, hb, hl⟩ := hrel
    clear H
    have HM := Lib.hid hM
    have HL := Lib.hid hb
    clear hM hb
    have ho := HO.out q hq
    by_cases hlt : q < n
    · have hlt' : (q : Int) < (n : Int) := by omega
      obtain ⟨C, hC, hC1, hC2⟩ := HM.out.row
      have HF := Lib.hid HM.out.fr
      have HV := Lib.hid HM.out.vr
      have HDF := Lib.hid HM.out.dfr
      have HDV := Lib.hid HM.out.dvr
      have HC1 := Lib.hid hC1
      have HC2 := Lib.hid hC2
      obtain ⟨A', c', hvv, hop⟩ := hC.open'
      obtain ⟨rfl, rfl⟩ : A = A' ∧ cap = c' := by simpa using hvv
      obtain ⟨b, rfl, hlb, -, hc, hf⟩ := hop (by omega)
      have HR := Lib.hid hC
      have x0 := hc q hlt 0 (by omega)
      have y0 := hf (q * 6)
      have x1 := hc q hlt 1 (by omega)
      have y1 := hf (q * 6 + 1)
      have x2 := hc q hlt 2 (by omega)
      have y2 := hf (q * 6 + 2)
      simp only [Nat.add_zero] at x0
      clear hC hC1 hC2 hc hf hop hvv HM
      obtain ⟨o, hoo⟩ : ∃ o, offT ns nv q = o := ⟨_, rfl⟩
      rw [hoo] at ho ⊢
      go_wp2_with fail
      refine (markText_calls _ _ (by omega) (by omega)).mono ?_; rintro e w1 ⟨rfl, hb⟩
      have h1 := owr_upd HR.out (j0 := 0) hlt (by omega) (.int .i64 o)
      have h2 := owr_upd h1 (j0 := 1) hlt (by omega) (.int .i64 (o + 1))
      have h3 := owr_upd h2 (j0 := 2) hlt (by omega) (.int .i64 (o + 1 + 1))
      have m0 := Mv.refl [38] lo wr
      have m1 := mv_own HR.out m0 hlb (q * 6) (.int .i64 o)
      have m2 := mv_own h1 m1 hlb (q * 6 + 1) (.int .i64 (o + 1))
      have m3 := mv_own h2 m2 hlb (q * 6 + 2) (.int .i64 (o + 1 + 1))
      have HM3 := Lib.hid (m3.trans (Mv.of_below hb (by simp only [World.size_setCell]; omega)))
      have HR3 := Lib.hid (h3.later hb)
      clear HR h1 h2 h3 m0 m1 m2 m3 x0 y0 x1 y1 x2 y2 hb
      obtain ⟨A', c', hvv, hop⟩ := HR3.out.open'
      obtain ⟨-, rfl⟩ : _ ∧ cap = c' := by simpa using hvv
      obtain ⟨b', hbb, -, -, hc, hf⟩ := hop (by omega)
      obtain rfl : b = b' := by simp at hvv; rw [← hvv] at hbb; simpa using hbb
      have x3 := hc q hlt 3 (by omega)
      have y3 := hf (q * 6 + 3)
      have x4 := hc q hlt 4 (by omega)
      have e4 : updC (updC (updC C q 0 (.int .i64 o)) q 1 (.int .i64 (o + 1))) q 2 (.int .i64 (o + 1 + 1)) q 4 = sv q := by unfold updC; simp; exact (HC1.out q hlt).1
      rw [e4] at x4
      obtain ⟨CF, hF, -⟩ := HF.out q hlt
      obtain ⟨AF, cF, eF, -⟩ := hF.cap
      obtain ⟨CV, hV, -⟩ := HV.out q hlt
      obtain ⟨AV, cV, eV⟩ := hV.shape
      rw [eF] at x4
      clear hc hf hop hvv hbb e4
      go_wp2_with fail
      have h4 := owr_upd HR3.out (j0 := 3) hlt (by omega) (.string (mT (o + 1 + 1 + 1).toNat))
      have HM4 := Lib.hid (mv_own HR3.out HM3.out hlb (q * 6 + 3) (.string (mT (o + 1 + 1 + 1).toNat)))
      have HR4 := Lib.hid h4
      clear h4 HR3 HM3 x3 y3 x4
      generalize World.setCell w1 _ _ = w2 at HR4 HM4 ⊢
      rw [← eF]
      have hsz2 := HM4.out.bl.size
      refine (markFrames_calls lo (ns q) CF _ _ _ (hF.mv HM4.out (by decide)) (HNS.out q hlt) (by omega) (by omega)).mono ?_; rintro e w3 ⟨rfl, hO5, hG5⟩
      have hmv5 : Mv [42] lo w2 w3 := (Mv.refl _ _ _).grown (by omega) hG5 (fun b hb => by
        have hF2 := hF.mv HM4.out (e := 42) (by decide)
        obtain ⟨N, F, hB⟩ := hF2.block hb; exact ⟨(hF2.lt b hb).1, _, N, F, hB, by simp⟩)
      have HR5 := Lib.hid (HR4.out.mv hmv5 (by decide))
      have HF5 : Hid (∀ i, i < n → ∃ C, OwR w3 lo 42 3 (ns i) C (sv i) ∧ (i < q + 1 → C = mkC 3 (offT ns nv i + 4))) := Lib.hid fun i hi => by
        by_cases e : i = q
        · subst e
          exact ⟨_, hO5, fun _ => by rw [hoo]; congr 1; omega⟩
        · obtain ⟨C', a1, a2⟩ := HF.out i hi
          exact ⟨C', (a1.mv HM4.out (by decide)).grown hG5 (fun b hb hh => HDF.out i q hi hlt e b hb hh), fun h => a2 (by omega)⟩
      have HV5 : Hid (∀ i, i < n → ∃ C, OwZ w3 lo 40 2 (nv i) C (vv i) ∧ (i < q → C = mvC (offT ns nv i + 4 + 3 * (ns i : Int)))) := Lib.hid fun i hi => by
        obtain ⟨C', a1, a2⟩ := HV.out i hi
        exact ⟨C', (a1.mv HM4.out (by decide)).mv hmv5 (by decide), a2⟩
      have HB5 := Lib.hid (bl_trans9 HL.out (bl_trans9 HM4.out.bl hmv5.bl))
      have hsz3 : lo ≤ w3.heap.size := by have := hmv5.bl.size; omega
      clear hG5 hO5 hmv5 HF HV HR4 HM4 HL hF hV hsz2
      obtain ⟨A', c', hvv, hop⟩ := HR5.out.open'
      obtain ⟨-, rfl⟩ : _ ∧ cap = c' := by simpa using hvv
      obtain ⟨b', hbb, -, -, hc, hf⟩ := hop (by omega)
      obtain rfl : b = b' := by simp at hvv; rw [← hvv] at hbb; simpa using hbb
      have x5 := hc q hlt 5 (by omega)
      obtain ⟨r1, r2⟩ := row_mark hlt HC1.out HC2.out o hoo.symm
      rw [(r1 q hlt).2, eV] at x5
      have HR1 := Lib.hid r1
      have HR2 := Lib.hid r2
      clear hc hf hop hvv hbb r1 r2 HC1 HC2
      go_wp2_with fail
      rw [← eV]
      obtain ⟨CV, hV, -⟩ := HV5.out q hlt
      refine (markVarsX_calls lo (nv q) CV _ _ _ hV (HNV.out q hlt) (by omega) (by have := HNS.out q hlt; omega)).mono ?_; rintro e w4 ⟨rfl, hO6, hG6⟩
      have hmv6 : Mv [40] lo w3 w4 := (Mv.refl _ _ _).grown hsz3 hG6 (fun b hb => by
        rcases hV with ⟨h0, A, c, e⟩ | ⟨h0, hV⟩
        · rw [e] at hb; cases A <;> simp [bk] at hb
        · rcases bk_own hb with hb | ⟨a, m, c, e, rfl⟩
          · obtain ⟨N, F, hB⟩ := hV.block hb; exact ⟨(hV.lt b hb).1, _, N, F, hB, by simp⟩
          · have hb : (vv q).ownBlock = some a.block := by rw [e]; rfl
            obtain ⟨N, F, hB⟩ := hV.block hb; exact ⟨(hV.lt _ hb).1, _, N, F, hB, by simp⟩)
      have HM6 : Hid (MTold w4 lo (.slice (some ⟨b, 0, none⟩) n cap) n (q + 1) ns nv sv vv) := Lib.hid ⟨⟨_, HR5.out.mv hmv6 (by decide), HR1.out, HR2.out⟩,
        fun i hi => by obtain ⟨C', a1, a2⟩ := HF5.out i hi; exact ⟨C', a1.mv hmv6 (by decide), a2⟩,
        fun i hi => by
          by_cases e : i = q
          · subst e
            exact ⟨_, hO6, fun _ => by rw [hoo]; congr 1; omega⟩
          · obtain ⟨C', a1, a2⟩ := HV5.out i hi
            exact ⟨C', a1.keep (fun b N f hB hb => hG6.block b hB.lt (fun hh => HDV.out i q hi hlt e b hb hh.symm)), fun h => a2 (by omega)⟩, HDF.out, HDV.out⟩
      have HB6 := Lib.hid (bl_trans9 HB5.out hmv6.bl)
      have hsz4 : lo ≤ w4.heap.size := by have := hmv6.bl.size; omega
      clear hG6 hO6 hmv6 x5 HR1 HR2 HR5 HF5 HV5 HB5 hV
      go_wp2
      go_roundw
      case rel =>
        refine ⟨q + 1, by omega, by go_num, ?_, HM6.out, HB6.out, hsz4⟩
        show _ = Value.int .i64 (offT ns nv q + 4 + 3 * (ns q : Int) + 2 * (nv q : Int))
        rw [hoo]; congr 1; omega
      case measure => simp [intOf]; omega
    · obtain rfl : q = n := by omega
      go_wp2
      go_ret
      exact ⟨rfl, HM.out, HL.out⟩
set_option maxRecDepth 100000 in
set_option maxHeartbeats 2000000 in
theorem heldToldS_calls (lo n : Nat) (v : Value) (ns nv : Nat → Nat) (sv vv : Nat → Value) (w : World) (h : MTold w lo v n n ns nv sv vv) (hn : n ≤ 500) (hs : ∀ i, i < n → ns i ≤ 1048576) (hv : ∀ i, i < n → nv i ≤ 1048576) :
    Calls Tryz.prog 25 #[v, .int .i64 1] w fun e w' => e = .returned (.int .i64 (offT ns nv n)) ∧ Below w.heap.size w w' := by
  have H := Lib.hid h
  have HO := Lib.hid (offT_rng hs hv)
  have HNS := Lib.hid hs
  have HNV := Lib.hid hv
  obtain ⟨⟨C, hC, hC1, hC2⟩, -⟩ := h
  have HC := Lib.hid hC.rd
  have HC1 := Lib.hid hC1
  have HC2 := Lib.hid hC2
  obtain ⟨A, cap, rfl, -⟩ := hC.cap
  clear hC hs hv hC1 hC2
  go_enter Tryz.func25, Tryz.ntmps25
  go_wp2_with fail
  go_loopw [1, 5] (fun kk i wr => ∃ q : Nat, q ≤ n ∧ i = .int .i64 q ∧ kk = .int .i64 (offT ns nv q) ∧ Below w.heap.size w wr) (fun _ i _ => n - (intOf i).toNat)
  case atStart => exact ⟨0, Nat.zero_le _, rfl, rfl, Below.refl _ _⟩
  case round =>
    obtain ⟨q, hq, rfl, rfl, hb⟩ := hrel
    have HL := Lib.hid hb
    clear hb
    have ho := HO.out q hq
    by_cases hlt : q < n
    · have hlt' : (q : Int) < (n : Int) := by omega
      obtain ⟨A', c', he, -, hrow⟩ := RdSl.later HC.out HL.out
      obtain ⟨rfl, rfl⟩ : A = A' ∧ cap = c' := by simpa using he
      obtain ⟨b, o9, rfl, hc⟩ := hrow (by omega)
      obtain ⟨o, hoo⟩ : ∃ o, offT ns nv q = o := ⟨_, rfl⟩
      have x0 : wr.cell? ⟨b, o9 + q * 6, none⟩ = some (.int .i64 o) := (hc q hlt 0 (by omega)).trans (by rw [HC2.out q hlt 0 (by omega), hoo]; rfl)
      have x1 : wr.cell? ⟨b, o9 + q * 6 + 1, none⟩ = some (.int .i64 (o + 1)) := (hc q hlt 1 (by omega)).trans (by rw [HC2.out q hlt 1 (by omega), hoo]; rfl)
      have x2 : wr.cell? ⟨b, o9 + q * 6 + 2, none⟩ = some (.int .i64 (o + 1 + 1)) := (hc q hlt 2 (by omega)).trans (by rw [HC2.out q hlt 2 (by omega), hoo]; rfl)
      have x3 : wr.cell? ⟨b, o9 + q * 6 + 3, none⟩ = some (.string (mT (o + 1 + 1 + 1).toNat)) := (hc q hlt 3 (by omega)).trans (by rw [HC2.out q hlt 3 (by omega), hoo]; rfl)
      have x4 : wr.cell? ⟨b, o9 + q * 6 + 4, none⟩ = some (sv q) := (hc q hlt 4 (by omega)).trans (by rw [(HC1.out q hlt).1])
      have x5 : wr.cell? ⟨b, o9 + q * 6 + 5, none⟩ = some (vv q) := (hc q hlt 5 (by omega)).trans (by rw [(HC1.out q hlt).2])
      obtain ⟨CF, hF, hFe⟩ := H.out.fr q hlt
      obtain rfl := hFe hlt
      have HF := Lib.hid hF.rd
      obtain ⟨AF, cF, eF, -⟩ := hF.cap
      obtain ⟨CV, hV, hVe⟩ := H.out.vr q hlt
      obtain rfl := hVe hlt
      have HV := Lib.hid hV.rd
      obtain ⟨AV, cV, eV⟩ := hV.shape
      rw [eF] at x4
      rw [eV] at x5
      rw [hoo] at ho ⊢
      clear hc he hrow hF hV hFe hVe
      go_wp2_with fail
      go_region_held3 (fun w' : World => Below wr.heap.size wr w' ∧ w'.cell? ⟨b, o9 + q * 6 + 3, none⟩ = some (.string (mT (o + 1 + 1 + 1).toNat)))
        (first | exact ⟨bl_drew (Below.refl _ _), x3⟩ | exact held1 ‹_› hb7)
        (first | (go_at_call 63; refine (markText_calls _ _ (by omega) (by omega)).mono ?_; rintro e w1 ⟨rfl, hb7⟩))
      have hb : Below wr.heap.size wr w1 := held1_bl ‹_›
      replace x4 := cell_later hb x4
      replace x5 := cell_later hb x5
      replace HL := Lib.hid (bl_then HL.out hb)
      clear x0 x1 x2 x3 hb hb7
      go_wp2_with fail
      rw [← eF]
      have e4 : o + 4 = o + 1 + 1 + 1 + 1 := by omega
      have hF3 := RdSl.later HF.out HL.out
      rw [hoo, e4] at hF3
      refine (heldFrames_calls (ns q) _ _ _ hF3 (HNS.out q hlt) (by omega) (by omega)).mono ?_; rintro e w2 ⟨rfl, rfl⟩
      have hns := HNS.out q hlt
      go_wp2_with fail
      rw [← eV]
      have hV3 := RdSl.later HV.out HL.out
      rw [hoo, e4] at hV3
      refine (heldVars_calls (nv q) _ _ _ hV3 (HNV.out q hlt) (by omega) (by omega)).mono ?_; rintro e w3 ⟨rfl, hb⟩
      replace HL := Lib.hid (bl_then HL.out hb)
      clear x4 x5 hb
      go_wp2
      go_roundw
      case rel =>
        refine ⟨q + 1, by omega, by go_num, ?_, HL.out⟩
        show _ = Value.int .i64 (offT ns nv q + 4 + 3 * (ns q : Int) + 2 * (nv q : Int))
        rw [hoo]; congr 1; omega
      case measure => simp [intOf]; omega
    · obtain rfl : q = n := by omega
      go_wp2
      go_ret
      exact ⟨rfl, HL.out⟩
end Go.Proofs.YtcklnjjbhngbcaaGreatDoor
