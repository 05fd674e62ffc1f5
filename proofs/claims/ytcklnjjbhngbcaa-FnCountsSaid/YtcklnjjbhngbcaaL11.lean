/- The laws' small helpers: wByte, wDigit. -/
import Derived.Test.YtcklnjjbhngbcaaB10
import Derived.Test.YtcklnjjbhngbcaaB3
import Derived.Test.YtcklnjjbhngbcaaP7
import Derived.Laws.BytesArg
namespace Go.Proofs.Ytcklnjjbhngbcaa
open Go.RowKit Go.Proofs.Lens

set_option maxRecDepth 100000 in
set_option maxHeartbeats 400000 in
theorem wByte_calls (v : Value) (code : List Nat) (i : Nat) (w : World) (h : RdBytes w v code) (hi : i ≤ 1048576) :
    Calls Try.prog 29 #[v, .int .i64 i] w fun e w' => e = .returned (.int .i64 ((wb code i : Nat) : Int)) ∧ w = w' := by
  have h256 := h.2
  obtain ⟨A, c, rfl, hn, hop⟩ := h.open'
  by_cases h0 : code.length = 0
  · have e : wb code i = 0 := by unfold wb; rw [if_pos h0]
    rw [e, h0]
    clear hop h256 h
    go_enter Try.func29, Try.ntmps29
    go_wp2
    go_ret
    exact ⟨rfl, rfl⟩
  · obtain ⟨b, o, rfl, hc⟩ := hop (by omega)
    have hlt : i % code.length < code.length := Nat.mod_lt _ (by omega)
    have x := hc (i % code.length) hlt
    have e : wb code i = elt code (i % code.length) := by unfold wb; rw [if_neg h0]
    rw [e]
    have hb := h256 (i % code.length)
    generalize elt code (i % code.length) = y at x hb ⊢
    obtain ⟨n, hn'⟩ : ∃ n, code.length = n := ⟨_, rfl⟩
    rw [hn'] at x hn h0 hlt ⊢
    have em : (i : Int) % (n : Int) = ((i % n : Nat) : Int) := by omega
    generalize hr : i % n = r at x em hlt
    have hd : decide ((n : Int) = 0) = false := by simp; omega
    have hr' : (r : Int) < (n : Int) := by omega
    have et : ((r : Nat) : Int).toNat = r := by simp
    have np : 0 < n := by omega
    clear hc hop h256 h hn' e hr h0
    go_enter Try.func29, Try.ntmps29
    go_wp2
    go_ret
    exact ⟨rfl, rfl⟩
theorem wByte_succ (v : Value) (code : List Nat) (i : Nat) (w : World) (h : RdBytes w v code) (hi : i + 1 ≤ 1048576) :
    Calls Try.prog 29 #[v, .int .i64 ((i : Int) + 1)] w fun e w' => e = .returned (.int .i64 ((wb code (i + 1) : Nat) : Int)) ∧ w = w' := by
  have e : ((i : Int) + 1) = ((i + 1 : Nat) : Int) := by omega
  rw [e]
  exact wByte_calls v code (i + 1) w h hi
theorem dg_nums (n : Nat) : strOfNums [48 + (n : Int)] = dg n := by
  unfold strOfNums dg
  have : (48 + (n : Int)).toNat = 48 + n := by omega
  simp [this]
set_option maxRecDepth 100000 in
set_option maxHeartbeats 400000 in
theorem wDigit_calls (n : Nat) (w : World) (hn : n ≤ 9) : Calls Try.prog 30 #[.int .i64 n] w fun e w' => e = .returned (.string (dg n)) ∧ Below w.heap.size w w' := by
  have hcv : ∀ (y : Int) (W : World), (convert 30 9 (.slice (some ⟨W.heap.size, 0, none⟩) 1 1)).run Try.prog (W.alloc (.cells #[.int .u8 y] 5)) = .ok (.string (strOfNums [y])) (W.alloc (.cells #[.int .u8 y] 5)) := fun y W =>
    run_convert_bytes_arg _ 30 5 Try.underlying30 Try.underlying5 _ 0 1 1 [y] rfl (fun i hi => by
      obtain rfl : i = 0 := by omega
      exact (Blk.made W #[.int .u8 y] 5).cell (j := 0) (by simp)) 9 Try.underlying9
  go_enter Try.func30, Try.ntmps30
  go_wp2
  go_ret
  rw [dg_nums]
  exact ⟨rfl, bl_alloc (Below.refl _ _) _⟩
theorem wDigit_succ (n : Nat) (w : World) (hn : n + 1 ≤ 9) : Calls Try.prog 30 #[.int .i64 ((n : Int) + 1)] w fun e w' => e = .returned (.string (dg (n + 1))) ∧ Below w.heap.size w w' := by
  have e : ((n : Int) + 1) = ((n + 1 : Nat) : Int) := by omega
  rw [e]
  exact wDigit_calls (n + 1) w hn
end Go.Proofs.Ytcklnjjbhngbcaa
