/- The laws' helpers mark.., held.., eq.. at slices whose elements are whole numbers or structs of them. (Written by L5.py.) -/
import Derived.Test.YtcklnjjbhngbcaaL5a
import Derived.Test.YtcklnjjbhngbcaaP3
import Derived.Test.YtcklnjjbhngbcaaP4
import Derived.Test.YtcklnjjbhngbcaaL3
namespace Go.Proofs.Ytcklnjjbhngbcaa
open Go.RowKit Go.Proofs.Lens

/-- The marks from k on, as the cells of a slice. -/
def mkC (sz : Nat) (k : Int) (i j : Nat) : Value := .int .i64 (k + (sz : Int) * i + j)
/-- The first q elements are marked. -/
def mkQ (sz q : Nat) (k : Int) (C : Nat → Nat → Value) (i j : Nat) : Value := if i < q then mkC sz k i j else C i j
/-- Elements q before their field j are marked. -/
def mkJ (sz q j0 : Nat) (k : Int) (C : Nat → Nat → Value) (i j : Nat) : Value := if i < q ∨ (i = q ∧ j < j0) then mkC sz k i j else C i j
theorem mkJ_0 (sz q : Nat) (k : Int) (C : Nat → Nat → Value) : mkJ sz q 0 k C = mkQ sz q k C := by
  funext i j; unfold mkJ mkQ; simp
theorem mkJ_end (sz q : Nat) (k : Int) (C : Nat → Nat → Value) (i j : Nat) (hj : j < sz) : mkJ sz q sz k C i j = mkQ sz (q + 1) k C i j := by
  unfold mkJ mkQ
  by_cases h : i < q + 1
  · rw [if_pos h, if_pos (by omega)]
  · rw [if_neg h, if_neg (by omega)]
theorem mkJ_step {sz q j0 : Nat} {k : Int} {C : Nat → Nat → Value} {w : World} {lo n b cap : Nat} {e : TypeId} (h : OwR w lo e sz n (mkJ sz q j0 k C) (.slice (some ⟨b, 0, none⟩) n cap)) (hq : q < n) (hj : j0 < sz) {u : Int} (hu : u = k + (sz : Int) * q + j0) :
    OwR (w.setCell ⟨b, q * sz + j0, none⟩ (.int .i64 u)) lo e sz n (mkJ sz q (j0 + 1) k C) (.slice (some ⟨b, 0, none⟩) n cap) := by
  refine h.set hq hj (fun i j hi hj' hne => ?_) ?_
  · unfold mkJ
    by_cases h : i < q ∨ (i = q ∧ j < j0)
    · rw [if_pos h, if_pos (by omega)]
    · rw [if_neg h, if_neg (by omega)]
  · unfold mkJ mkC
    rw [if_pos (by omega), hu]
theorem gbo_refl (w : World) (v : Value) : w.grownBy w v.ownBlock := ⟨rfl, rfl, rfl, Nat.le_refl _, fun _ _ _ => rfl⟩
theorem gbo_set {w W : World} {b n c : Nat} {o : Nat} (h : w.grownBy W (Value.slice (some ⟨b, 0, none⟩) n c).ownBlock) (j : Nat) (u : Value) : w.grownBy (W.setCell ⟨b, j, none⟩ u) (Value.slice (some ⟨b, o, none⟩) n c).ownBlock :=
  ⟨h.os, h.tape, h.output, by rw [World.size_setCell]; exact h.size, fun k hk hr => (Below.heap_setCell _ _ _ _ (fun e => hr (by rw [e]; rfl))).trans (h.block k hk hr)⟩
/-- What a mark.. leaves. -/
def MkPost (w : World) (lo : Nat) (e : TypeId) (sz n : Nat) (k : Int) (v : Value) (en : Ending) (w' : World) : Prop :=
  en = .returned (.int .i64 (k + (sz : Int) * n)) ∧ OwR w' lo e sz n (mkC sz k) v ∧ w.grownBy w' v.ownBlock


set_option maxRecDepth 100000 in
set_option maxHeartbeats 2000000 in
theorem markFrames_calls (lo n : Nat) (C : Nat → Nat → Value) (v : Value) (k : Int) (w : World) (h : OwR w lo 59 3 n C v) (hn : n ≤ 1048576) (hk0 : 0 ≤ k) (hk1 : k ≤ 1099511627776) :
    Calls Try.prog 61 #[v, .int .i64 k] w (MkPost w lo 59 3 n k v) := by
  have H := Lib.hid h
  obtain ⟨A, cap, rfl, -⟩ := h.cap
  clear h
  go_enter Try.func61, Try.ntmps61
  go_wp2_with fail
  go_loopw [1, 5] (fun kk i wr => ∃ q : Nat, q ≤ n ∧ i = .int .i64 q ∧ kk = .int .i64 (k + 3 * (q : Int)) ∧ OwR wr lo 59 3 n (mkQ 3 q k C) (.slice A n cap) ∧ w.grownBy wr (Value.slice A n cap).ownBlock) (fun _ i _ => n - (intOf i).toNat)
  case atStart => exact ⟨0, Nat.zero_le _, rfl, by simp, H.out.congr (fun i hi j hj => by simp [mkQ]), gbo_refl _ _⟩
  case round =>
    obtain ⟨q, hq, rfl, rfl, hO, hG⟩ := hrel
    have HO := Lib.hid hO
    have HG := Lib.hid hG
    by_cases hlt : q < n
    · obtain ⟨A', c', hv, hop⟩ := hO.open'
      obtain ⟨rfl, rfl⟩ : A = A' ∧ cap = c' := by simpa using hv
      obtain ⟨b, rfl, -, -, hc, hf⟩ := hop (by omega)
      have x0 := hc q hlt 0 (by omega)
      have y0 := hf (q * 3)
      have x1 := hc q hlt 1 (by omega)
      have y1 := hf (q * 3 + 1)
      have x2 := hc q hlt 2 (by omega)
      have y2 := hf (q * 3 + 2)
      simp only [Nat.add_zero] at x0
      have hlt' : (q : Int) < (n : Int) := by omega
      clear hO hG hc hf hv hop
      go_wp2
      go_roundw
      case rel =>
        refine ⟨q + 1, by omega, by go_num, by congr 1; omega, ?_, ?_⟩
        · have h0 : OwR wr lo 59 3 n (mkJ 3 q 0 k C) (.slice (some ⟨b, 0, none⟩) n cap) := by rw [mkJ_0]; exact HO.out
          have h1 := mkJ_step h0 (u := k + 3 * (q : Int)) hlt (by omega) (by simp <;> omega)
          have h2 := mkJ_step h1 (u := k + 3 * (q : Int) + 1) hlt (by omega) (by simp <;> omega)
          have h3 := mkJ_step h2 (u := k + 3 * (q : Int) + 1 + 1) hlt (by omega) (by simp <;> omega)
          simp only [Nat.add_zero] at h3
          exact h3.congr fun i hi j hj => mkJ_end _ _ _ _ _ _ hj
        · refine gbo_set ?_ _ _; refine gbo_set ?_ _ _; refine gbo_set ?_ _ _; exact HG.out
      case measure => simp [intOf]; omega
    · obtain rfl : q = n := by omega
      clear hO hG
      go_wp2
      go_ret
      exact ⟨ret_int (by simp), HO.out.congr (fun i hi j hj => by unfold mkQ; rw [if_pos hi]), HG.out⟩

set_option maxRecDepth 100000 in
set_option maxHeartbeats 2000000 in
theorem heldFrames_calls (n : Nat) (v : Value) (k : Int) (w : World) (h : RdSl w 3 n (mkC 3 k) v) (hn : n ≤ 1048576) (hk0 : 0 ≤ k) (hk1 : k ≤ 1099511627776) :
    Calls Try.prog 62 #[v, .int .i64 k] w fun e w' => e = .returned (.int .i64 (k + 3 * (n : Int))) ∧ w = w' := by
  obtain ⟨A, cap, rfl, hm, hrow⟩ := h
  have HR := Lib.hid hrow
  clear hrow
  go_enter Try.func62, Try.ntmps62
  go_wp2_with fail
  go_loop [1, 5] (fun kk i => ∃ q : Nat, q ≤ n ∧ i = .int .i64 q ∧ kk = .int .i64 (k + 3 * (q : Int))) (fun _ i => n - (intOf i).toNat)
  case atStart => exact ⟨0, Nat.zero_le _, rfl, by simp⟩
  case round =>
    obtain ⟨q, hq, rfl, rfl⟩ := hrel
    by_cases hlt : q < n
    · obtain ⟨b, o, rfl, hc⟩ := HR.out (by omega)
      have x0 : w.cell? ⟨b, o + q * 3, none⟩ = some (.int .i64 (k + 3 * (q : Int))) := (hc q hlt 0 (by omega)).trans (by unfold mkC; congr 2 <;> simp <;> omega)
      have x1 : w.cell? ⟨b, o + q * 3 + 1, none⟩ = some (.int .i64 (k + 3 * (q : Int) + 1)) := (hc q hlt 1 (by omega)).trans (by unfold mkC; congr 2 <;> simp <;> omega)
      have x2 : w.cell? ⟨b, o + q * 3 + 2, none⟩ = some (.int .i64 (k + 3 * (q : Int) + 1 + 1)) := (hc q hlt 2 (by omega)).trans (by unfold mkC; congr 2 <;> simp <;> omega)
      have hlt' : (q : Int) < (n : Int) := by omega
      clear hc
      go_wp2
      go_round
      case rel => exact ⟨q + 1, by omega, by go_num, by congr 1; omega⟩
      case measure => simp [intOf]; omega
    · obtain rfl : q = n := by omega
      go_wp2
      go_ret
      exact ⟨rfl, rfl⟩

set_option maxRecDepth 100000 in
set_option maxHeartbeats 2000000 in
theorem markFcs_calls (lo n : Nat) (C : Nat → Nat → Value) (v : Value) (k : Int) (w : World) (h : OwR w lo 50 4 n C v) (hn : n ≤ 1048576) (hk0 : 0 ≤ k) (hk1 : k ≤ 1099511627776) :
    Calls Try.prog 65 #[v, .int .i64 k] w (MkPost w lo 50 4 n k v) := by
  have H := Lib.hid h
  obtain ⟨A, cap, rfl, -⟩ := h.cap
  clear h
  go_enter Try.func65, Try.ntmps65
  go_wp2_with fail
  go_loopw [1, 5] (fun kk i wr => ∃ q : Nat, q ≤ n ∧ i = .int .i64 q ∧ kk = .int .i64 (k + 4 * (q : Int)) ∧ OwR wr lo 50 4 n (mkQ 4 q k C) (.slice A n cap) ∧ w.grownBy wr (Value.slice A n cap).ownBlock) (fun _ i _ => n - (intOf i).toNat)
  case atStart => exact ⟨0, Nat.zero_le _, rfl, by simp, H.out.congr (fun i hi j hj => by simp [mkQ]), gbo_refl _ _⟩
  case round =>
    obtain ⟨q, hq, rfl, rfl, hO, hG⟩ := hrel
    have HO := Lib.hid hO
    have HG := Lib.hid hG
    by_cases hlt : q < n
    · obtain ⟨A', c', hv, hop⟩ := hO.open'
      obtain ⟨rfl, rfl⟩ : A = A' ∧ cap = c' := by simpa using hv
      obtain ⟨b, rfl, -, -, hc, hf⟩ := hop (by omega)
      have x0 := hc q hlt 0 (by omega)
      have y0 := hf (q * 4)
      have x1 := hc q hlt 1 (by omega)
      have y1 := hf (q * 4 + 1)
      have x2 := hc q hlt 2 (by omega)
      have y2 := hf (q * 4 + 2)
      have x3 := hc q hlt 3 (by omega)
      have y3 := hf (q * 4 + 3)
      simp only [Nat.add_zero] at x0
      have hlt' : (q : Int) < (n : Int) := by omega
      clear hO hG hc hf hv hop
      go_wp2
      go_roundw
      case rel =>
        refine ⟨q + 1, by omega, by go_num, by congr 1; omega, ?_, ?_⟩
        · have h0 : OwR wr lo 50 4 n (mkJ 4 q 0 k C) (.slice (some ⟨b, 0, none⟩) n cap) := by rw [mkJ_0]; exact HO.out
          have h1 := mkJ_step h0 (u := k + 4 * (q : Int)) hlt (by omega) (by simp <;> omega)
          have h2 := mkJ_step h1 (u := k + 4 * (q : Int) + 1) hlt (by omega) (by simp <;> omega)
          have h3 := mkJ_step h2 (u := k + 4 * (q : Int) + 1 + 1) hlt (by omega) (by simp <;> omega)
          have h4 := mkJ_step h3 (u := k + 4 * (q : Int) + 1 + 1 + 1) hlt (by omega) (by simp <;> omega)
          simp only [Nat.add_zero] at h4
          exact h4.congr fun i hi j hj => mkJ_end _ _ _ _ _ _ hj
        · refine gbo_set ?_ _ _; refine gbo_set ?_ _ _; refine gbo_set ?_ _ _; refine gbo_set ?_ _ _; exact HG.out
      case measure => simp [intOf]; omega
    · obtain rfl : q = n := by omega
      clear hO hG
      go_wp2
      go_ret
      exact ⟨ret_int (by simp), HO.out.congr (fun i hi j hj => by unfold mkQ; rw [if_pos hi]), HG.out⟩

set_option maxRecDepth 100000 in
set_option maxHeartbeats 2000000 in
theorem heldFcs_calls (n : Nat) (v : Value) (k : Int) (w : World) (h : RdSl w 4 n (mkC 4 k) v) (hn : n ≤ 1048576) (hk0 : 0 ≤ k) (hk1 : k ≤ 1099511627776) :
    Calls Try.prog 66 #[v, .int .i64 k] w fun e w' => e = .returned (.int .i64 (k + 4 * (n : Int))) ∧ w = w' := by
  obtain ⟨A, cap, rfl, hm, hrow⟩ := h
  have HR := Lib.hid hrow
  clear hrow
  go_enter Try.func66, Try.ntmps66
  go_wp2_with fail
  go_loop [1, 5] (fun kk i => ∃ q : Nat, q ≤ n ∧ i = .int .i64 q ∧ kk = .int .i64 (k + 4 * (q : Int))) (fun _ i => n - (intOf i).toNat)
  case atStart => exact ⟨0, Nat.zero_le _, rfl, by simp⟩
  case round =>
    obtain ⟨q, hq, rfl, rfl⟩ := hrel
    by_cases hlt : q < n
    · obtain ⟨b, o, rfl, hc⟩ := HR.out (by omega)
      have x0 : w.cell? ⟨b, o + q * 4, none⟩ = some (.int .i64 (k + 4 * (q : Int))) := (hc q hlt 0 (by omega)).trans (by unfold mkC; congr 2 <;> simp <;> omega)
      have x1 : w.cell? ⟨b, o + q * 4 + 1, none⟩ = some (.int .i64 (k + 4 * (q : Int) + 1)) := (hc q hlt 1 (by omega)).trans (by unfold mkC; congr 2 <;> simp <;> omega)
      have x2 : w.cell? ⟨b, o + q * 4 + 2, none⟩ = some (.int .i64 (k + 4 * (q : Int) + 1 + 1)) := (hc q hlt 2 (by omega)).trans (by unfold mkC; congr 2 <;> simp <;> omega)
      have x3 : w.cell? ⟨b, o + q * 4 + 3, none⟩ = some (.int .i64 (k + 4 * (q : Int) + 1 + 1 + 1)) := (hc q hlt 3 (by omega)).trans (by unfold mkC; congr 2 <;> simp <;> omega)
      have hlt' : (q : Int) < (n : Int) := by omega
      clear hc
      go_wp2
      go_round
      case rel => exact ⟨q + 1, by omega, by go_num, by congr 1; omega⟩
      case measure => simp [intOf]; omega
    · obtain rfl : q = n := by omega
      go_wp2
      go_ret
      exact ⟨rfl, rfl⟩

set_option maxRecDepth 100000 in
set_option maxHeartbeats 2000000 in
theorem markBrs_calls (lo n : Nat) (C : Nat → Nat → Value) (v : Value) (k : Int) (w : World) (h : OwR w lo 52 4 n C v) (hn : n ≤ 1048576) (hk0 : 0 ≤ k) (hk1 : k ≤ 1099511627776) :
    Calls Try.prog 70 #[v, .int .i64 k] w (MkPost w lo 52 4 n k v) := by
  have H := Lib.hid h
  obtain ⟨A, cap, rfl, -⟩ := h.cap
  clear h
  go_enter Try.func70, Try.ntmps70
  go_wp2_with fail
  go_loopw [1, 5] (fun kk i wr => ∃ q : Nat, q ≤ n ∧ i = .int .i64 q ∧ kk = .int .i64 (k + 4 * (q : Int)) ∧ OwR wr lo 52 4 n (mkQ 4 q k C) (.slice A n cap) ∧ w.grownBy wr (Value.slice A n cap).ownBlock) (fun _ i _ => n - (intOf i).toNat)
  case atStart => exact ⟨0, Nat.zero_le _, rfl, by simp, H.out.congr (fun i hi j hj => by simp [mkQ]), gbo_refl _ _⟩
  case round =>
    obtain ⟨q, hq, rfl, rfl, hO, hG⟩ := hrel
    have HO := Lib.hid hO
    have HG := Lib.hid hG
    by_cases hlt : q < n
    · obtain ⟨A', c', hv, hop⟩ := hO.open'
      obtain ⟨rfl, rfl⟩ : A = A' ∧ cap = c' := by simpa using hv
      obtain ⟨b, rfl, -, -, hc, hf⟩ := hop (by omega)
      have x0 := hc q hlt 0 (by omega)
      have y0 := hf (q * 4)
      have x1 := hc q hlt 1 (by omega)
      have y1 := hf (q * 4 + 1)
      have x2 := hc q hlt 2 (by omega)
      have y2 := hf (q * 4 + 2)
      have x3 := hc q hlt 3 (by omega)
      have y3 := hf (q * 4 + 3)
      simp only [Nat.add_zero] at x0
      have hlt' : (q : Int) < (n : Int) := by omega
      clear hO hG hc hf hv hop
      go_wp2
      go_roundw
      case rel =>
        refine ⟨q + 1, by omega, by go_num, by congr 1; omega, ?_, ?_⟩
        · have h0 : OwR wr lo 52 4 n (mkJ 4 q 0 k C) (.slice (some ⟨b, 0, none⟩) n cap) := by rw [mkJ_0]; exact HO.out
          have h1 := mkJ_step h0 (u := k + 4 * (q : Int)) hlt (by omega) (by simp <;> omega)
          have h2 := mkJ_step h1 (u := k + 4 * (q : Int) + 1) hlt (by omega) (by simp <;> omega)
          have h3 := mkJ_step h2 (u := k + 4 * (q : Int) + 1 + 1) hlt (by omega) (by simp <;> omega)
          have h4 := mkJ_step h3 (u := k + 4 * (q : Int) + 1 + 1 + 1) hlt (by omega) (by simp <;> omega)
          simp only [Nat.add_zero] at h4
          exact h4.congr fun i hi j hj => mkJ_end _ _ _ _ _ _ hj
        · refine gbo_set ?_ _ _; refine gbo_set ?_ _ _; refine gbo_set ?_ _ _; refine gbo_set ?_ _ _; exact HG.out
      case measure => simp [intOf]; omega
    · obtain rfl : q = n := by omega
      clear hO hG
      go_wp2
      go_ret
      exact ⟨ret_int (by simp), HO.out.congr (fun i hi j hj => by unfold mkQ; rw [if_pos hi]), HG.out⟩

set_option maxRecDepth 100000 in
set_option maxHeartbeats 2000000 in
theorem heldBrs_calls (n : Nat) (v : Value) (k : Int) (w : World) (h : RdSl w 4 n (mkC 4 k) v) (hn : n ≤ 1048576) (hk0 : 0 ≤ k) (hk1 : k ≤ 1099511627776) :
    Calls Try.prog 71 #[v, .int .i64 k] w fun e w' => e = .returned (.int .i64 (k + 4 * (n : Int))) ∧ w = w' := by
  obtain ⟨A, cap, rfl, hm, hrow⟩ := h
  have HR := Lib.hid hrow
  clear hrow
  go_enter Try.func71, Try.ntmps71
  go_wp2_with fail
  go_loop [1, 5] (fun kk i => ∃ q : Nat, q ≤ n ∧ i = .int .i64 q ∧ kk = .int .i64 (k + 4 * (q : Int))) (fun _ i => n - (intOf i).toNat)
  case atStart => exact ⟨0, Nat.zero_le _, rfl, by simp⟩
  case round =>
    obtain ⟨q, hq, rfl, rfl⟩ := hrel
    by_cases hlt : q < n
    · obtain ⟨b, o, rfl, hc⟩ := HR.out (by omega)
      have x0 : w.cell? ⟨b, o + q * 4, none⟩ = some (.int .i64 (k + 4 * (q : Int))) := (hc q hlt 0 (by omega)).trans (by unfold mkC; congr 2 <;> simp <;> omega)
      have x1 : w.cell? ⟨b, o + q * 4 + 1, none⟩ = some (.int .i64 (k + 4 * (q : Int) + 1)) := (hc q hlt 1 (by omega)).trans (by unfold mkC; congr 2 <;> simp <;> omega)
      have x2 : w.cell? ⟨b, o + q * 4 + 2, none⟩ = some (.int .i64 (k + 4 * (q : Int) + 1 + 1)) := (hc q hlt 2 (by omega)).trans (by unfold mkC; congr 2 <;> simp <;> omega)
      have x3 : w.cell? ⟨b, o + q * 4 + 3, none⟩ = some (.int .i64 (k + 4 * (q : Int) + 1 + 1 + 1)) := (hc q hlt 3 (by omega)).trans (by unfold mkC; congr 2 <;> simp <;> omega)
      have hlt' : (q : Int) < (n : Int) := by omega
      clear hc
      go_wp2
      go_round
      case rel => exact ⟨q + 1, by omega, by go_num, by congr 1; omega⟩
      case measure => simp [intOf]; omega
    · obtain rfl : q = n := by omega
      go_wp2
      go_ret
      exact ⟨rfl, rfl⟩

set_option maxRecDepth 100000 in
set_option maxHeartbeats 2000000 in
theorem markLcs_calls (lo n : Nat) (C : Nat → Nat → Value) (v : Value) (k : Int) (w : World) (h : OwR w lo 94 3 n C v) (hn : n ≤ 1048576) (hk0 : 0 ≤ k) (hk1 : k ≤ 1099511627776) :
    Calls Try.prog 83 #[v, .int .i64 k] w (MkPost w lo 94 3 n k v) := by
  have H := Lib.hid h
  obtain ⟨A, cap, rfl, -⟩ := h.cap
  clear h
  go_enter Try.func83, Try.ntmps83
  go_wp2_with fail
  go_loopw [1, 5] (fun kk i wr => ∃ q : Nat, q ≤ n ∧ i = .int .i64 q ∧ kk = .int .i64 (k + 3 * (q : Int)) ∧ OwR wr lo 94 3 n (mkQ 3 q k C) (.slice A n cap) ∧ w.grownBy wr (Value.slice A n cap).ownBlock) (fun _ i _ => n - (intOf i).toNat)
  case atStart => exact ⟨0, Nat.zero_le _, rfl, by simp, H.out.congr (fun i hi j hj => by simp [mkQ]), gbo_refl _ _⟩
  case round =>
    obtain ⟨q, hq, rfl, rfl, hO, hG⟩ := hrel
    have HO := Lib.hid hO
    have HG := Lib.hid hG
    by_cases hlt : q < n
    · obtain ⟨A', c', hv, hop⟩ := hO.open'
      obtain ⟨rfl, rfl⟩ : A = A' ∧ cap = c' := by simpa using hv
      obtain ⟨b, rfl, -, -, hc, hf⟩ := hop (by omega)
      have x0 := hc q hlt 0 (by omega)
      have y0 := hf (q * 3)
      have x1 := hc q hlt 1 (by omega)
      have y1 := hf (q * 3 + 1)
      have x2 := hc q hlt 2 (by omega)
      have y2 := hf (q * 3 + 2)
      simp only [Nat.add_zero] at x0
      have hlt' : (q : Int) < (n : Int) := by omega
      clear hO hG hc hf hv hop
      go_wp2
      go_roundw
      case rel =>
        refine ⟨q + 1, by omega, by go_num, by congr 1; omega, ?_, ?_⟩
        · have h0 : OwR wr lo 94 3 n (mkJ 3 q 0 k C) (.slice (some ⟨b, 0, none⟩) n cap) := by rw [mkJ_0]; exact HO.out
          have h1 := mkJ_step h0 (u := k + 3 * (q : Int)) hlt (by omega) (by simp <;> omega)
          have h2 := mkJ_step h1 (u := k + 3 * (q : Int) + 1) hlt (by omega) (by simp <;> omega)
          have h3 := mkJ_step h2 (u := k + 3 * (q : Int) + 1 + 1) hlt (by omega) (by simp <;> omega)
          simp only [Nat.add_zero] at h3
          exact h3.congr fun i hi j hj => mkJ_end _ _ _ _ _ _ hj
        · refine gbo_set ?_ _ _; refine gbo_set ?_ _ _; refine gbo_set ?_ _ _; exact HG.out
      case measure => simp [intOf]; omega
    · obtain rfl : q = n := by omega
      clear hO hG
      go_wp2
      go_ret
      exact ⟨ret_int (by simp), HO.out.congr (fun i hi j hj => by unfold mkQ; rw [if_pos hi]), HG.out⟩

set_option maxRecDepth 100000 in
set_option maxHeartbeats 2000000 in
theorem heldLcs_calls (n : Nat) (v : Value) (k : Int) (w : World) (h : RdSl w 3 n (mkC 3 k) v) (hn : n ≤ 1048576) (hk0 : 0 ≤ k) (hk1 : k ≤ 1099511627776) :
    Calls Try.prog 84 #[v, .int .i64 k] w fun e w' => e = .returned (.int .i64 (k + 3 * (n : Int))) ∧ w = w' := by
  obtain ⟨A, cap, rfl, hm, hrow⟩ := h
  have HR := Lib.hid hrow
  clear hrow
  go_enter Try.func84, Try.ntmps84
  go_wp2_with fail
  go_loop [1, 5] (fun kk i => ∃ q : Nat, q ≤ n ∧ i = .int .i64 q ∧ kk = .int .i64 (k + 3 * (q : Int))) (fun _ i => n - (intOf i).toNat)
  case atStart => exact ⟨0, Nat.zero_le _, rfl, by simp⟩
  case round =>
    obtain ⟨q, hq, rfl, rfl⟩ := hrel
    by_cases hlt : q < n
    · obtain ⟨b, o, rfl, hc⟩ := HR.out (by omega)
      have x0 : w.cell? ⟨b, o + q * 3, none⟩ = some (.int .i64 (k + 3 * (q : Int))) := (hc q hlt 0 (by omega)).trans (by unfold mkC; congr 2 <;> simp <;> omega)
      have x1 : w.cell? ⟨b, o + q * 3 + 1, none⟩ = some (.int .i64 (k + 3 * (q : Int) + 1)) := (hc q hlt 1 (by omega)).trans (by unfold mkC; congr 2 <;> simp <;> omega)
      have x2 : w.cell? ⟨b, o + q * 3 + 2, none⟩ = some (.int .i64 (k + 3 * (q : Int) + 1 + 1)) := (hc q hlt 2 (by omega)).trans (by unfold mkC; congr 2 <;> simp <;> omega)
      have hlt' : (q : Int) < (n : Int) := by omega
      clear hc
      go_wp2
      go_round
      case rel => exact ⟨q + 1, by omega, by go_num, by congr 1; omega⟩
      case measure => simp [intOf]; omega
    · obtain rfl : q = n := by omega
      go_wp2
      go_ret
      exact ⟨rfl, rfl⟩

set_option maxRecDepth 100000 in
set_option maxHeartbeats 2000000 in
theorem markInts_calls (lo n : Nat) (C : Nat → Nat → Value) (v : Value) (k : Int) (w : World) (h : OwR w lo 3 1 n C v) (hn : n ≤ 1048576) (hk0 : 0 ≤ k) (hk1 : k ≤ 1099511627776) :
    Calls Try.prog 73 #[v, .int .i64 k] w (MkPost w lo 3 1 n k v) := by
  have H := Lib.hid h
  obtain ⟨A, cap, rfl, -⟩ := h.cap
  clear h
  go_enter Try.func73, Try.ntmps73
  go_wp2_with fail
  go_loopw [1, 5] (fun kk i wr => ∃ q : Nat, q ≤ n ∧ i = .int .i64 q ∧ kk = .int .i64 (k + 1 * (q : Int)) ∧ OwR wr lo 3 1 n (mkQ 1 q k C) (.slice A n cap) ∧ w.grownBy wr (Value.slice A n cap).ownBlock) (fun _ i _ => n - (intOf i).toNat)
  case atStart => exact ⟨0, Nat.zero_le _, rfl, by simp, H.out.congr (fun i hi j hj => by simp [mkQ]), gbo_refl _ _⟩
  case round =>
    obtain ⟨q, hq, rfl, rfl, hO, hG⟩ := hrel
    have HO := Lib.hid hO
    have HG := Lib.hid hG
    by_cases hlt : q < n
    · obtain ⟨A', c', hv, hop⟩ := hO.open'
      obtain ⟨rfl, rfl⟩ : A = A' ∧ cap = c' := by simpa using hv
      obtain ⟨b, rfl, -, -, hc, hf⟩ := hop (by omega)
      have x0 : wr.cell? ⟨b, q, none⟩ = some (mkQ 1 q k C q 0) := by have := hc q hlt 0 (by omega); simp only [Nat.mul_one, Nat.add_zero] at this; exact this
      have y0 := hf q
      skip
      have hlt' : (q : Int) < (n : Int) := by omega
      clear hO hG hc hf hv hop
      go_wp2
      go_roundw
      case rel =>
        refine ⟨q + 1, by omega, by go_num, by congr 1; omega, ?_, ?_⟩
        · have h0 : OwR wr lo 3 1 n (mkJ 1 q 0 k C) (.slice (some ⟨b, 0, none⟩) n cap) := by rw [mkJ_0]; exact HO.out
          have h1 := mkJ_step h0 (u := k + (q : Int)) hlt (by omega) (by simp <;> omega)
          simp only [Nat.add_zero, Nat.mul_one] at h1
          exact h1.congr fun i hi j hj => mkJ_end _ _ _ _ _ _ hj
        · refine gbo_set ?_ _ _; exact HG.out
      case measure => simp [intOf]; omega
    · obtain rfl : q = n := by omega
      clear hO hG
      go_wp2
      go_ret
      exact ⟨ret_int (by simp), HO.out.congr (fun i hi j hj => by unfold mkQ; rw [if_pos hi]), HG.out⟩

set_option maxRecDepth 100000 in
set_option maxHeartbeats 2000000 in
theorem heldInts_calls (n : Nat) (v : Value) (k : Int) (w : World) (h : RdSl w 1 n (mkC 1 k) v) (hn : n ≤ 1048576) (hk0 : 0 ≤ k) (hk1 : k ≤ 1099511627776) :
    Calls Try.prog 74 #[v, .int .i64 k] w fun e w' => e = .returned (.int .i64 (k + 1 * (n : Int))) ∧ w = w' := by
  obtain ⟨A, cap, rfl, hm, hrow⟩ := h
  have HR := Lib.hid hrow
  clear hrow
  go_enter Try.func74, Try.ntmps74
  go_wp2_with fail
  go_loop [1, 5] (fun kk i => ∃ q : Nat, q ≤ n ∧ i = .int .i64 q ∧ kk = .int .i64 (k + 1 * (q : Int))) (fun _ i => n - (intOf i).toNat)
  case atStart => exact ⟨0, Nat.zero_le _, rfl, by simp⟩
  case round =>
    obtain ⟨q, hq, rfl, rfl⟩ := hrel
    by_cases hlt : q < n
    · obtain ⟨b, o, rfl, hc⟩ := HR.out (by omega)
      have x0 : w.cell? ⟨b, o + q, none⟩ = some (.int .i64 (k + (q : Int))) := by have := hc q hlt 0 (by omega); simp only [Nat.mul_one, Nat.add_zero] at this; rw [this]; unfold mkC; congr 2 <;> simp <;> omega
      have hlt' : (q : Int) < (n : Int) := by omega
      clear hc
      go_wp2
      go_round
      case rel => exact ⟨q + 1, by omega, by go_num, by congr 1; omega⟩
      case measure => simp [intOf]; omega
    · obtain rfl : q = n := by omega
      go_wp2
      go_ret
      exact ⟨rfl, rfl⟩
end Go.Proofs.Ytcklnjjbhngbcaa
