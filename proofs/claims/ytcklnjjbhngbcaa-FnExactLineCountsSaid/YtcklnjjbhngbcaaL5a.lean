/- markText. -/
import Derived.Test.YtcklnjjbhngbcaaB1
import Derived.Test.YtcklnjjbhngbcaaB3
import Derived.Laws.BytesArg
namespace Go.Proofs.Ytcklnjjbhngbcaa
open Go.RowKit Go.Proofs.Lens

/-- The decimal text of k, ahead of o. -/
def digF : Nat → Nat → ByteArray → ByteArray
  | 0, _, o => o
  | f + 1, k, o => if k = 0 then o else digF f (k / 10) (strOfNums [48 + ((k % 10 : Nat) : Int)] ++ o)
theorem digF_step {f k : Nat} {o : ByteArray} (hk : 0 < k) (hf : k ≤ f) : digF f k o = digF (f - 1) (k / 10) (strOfNums [48 + ((k % 10 : Nat) : Int)] ++ o) := by
  obtain ⟨g, rfl⟩ : ∃ g, f = g + 1 := ⟨f - 1, by omega⟩
  rw [digF, if_neg (by omega)]; rfl
theorem digF_zero (f : Nat) (o : ByteArray) : digF f 0 o = o := by cases f <;> simp [digF]
def mT (k : Nat) : ByteArray := if k = 0 then ⟨#[109, 48]⟩ else ⟨#[109]⟩ ++ digF k k ⟨#[]⟩
set_option maxRecDepth 100000 in
set_option maxHeartbeats 400000 in
theorem markText_calls (k : Int) (w : World) (hk : 0 ≤ k) (hk1 : k ≤ 4611686018427387904) : Calls Try.prog 149 #[.int .i64 k] w fun e w' => e = .returned (.string (mT k.toNat)) ∧ Below w.heap.size w w' := by
  obtain ⟨n, rfl⟩ : ∃ n : Nat, k = (n : Int) := ⟨k.toNat, by omega⟩
  have hcv : ∀ (y : Int) (W : World), (convert 30 9 (.slice (some ⟨W.heap.size, 0, none⟩) 1 1)).run Try.prog (W.alloc (.cells #[.int .u8 y] 5)) = .ok (.string (strOfNums [y])) (W.alloc (.cells #[.int .u8 y] 5)) := fun y W =>
    run_convert_bytes_arg _ 30 5 Try.underlying30 Try.underlying5 _ 0 1 1 [y] rfl (fun i hi => by
      obtain rfl : i = 0 := by omega
      exact (Blk.made W #[.int .u8 y] 5).cell (j := 0) (by simp)) 9 Try.underlying9
  rw [Int.toNat_natCast]
  by_cases h0 : n = 0
  · subst h0
    go_enter Try.func149, Try.ntmps149
    go_wp2
    go_ret
    exact ⟨rfl, Below.refl _ _⟩
  · have hd : decide ((n : Int) ≤ 0) = false := by simp; omega
    have H0 := Lib.hid h0
    clear h0
    go_enter Try.func149, Try.ntmps149
    go_wp2_with fail
    go_loopw [0, 3] (fun q o wr => ∃ (x f : Nat) (s : ByteArray), x ≤ n ∧ x ≤ f ∧ q = .int .i64 x ∧ o = .string s ∧ digF n n ⟨#[]⟩ = digF f x s ∧ s.size + x ≤ n ∧ Below w.heap.size w wr) (fun q _ _ => (intOf q).toNat)
    case atStart => exact ⟨n, n, _, Nat.le_refl _, Nat.le_refl _, rfl, rfl, rfl, by simp [ByteArray.size], Below.refl _ _⟩
    case round =>
      obtain ⟨x, f, s, hx0, hx1, rfl, rfl, hq, hs, hb⟩ := hrel
      have HB := Lib.hid hb
      have HQ := Lib.hid hq
      clear hb hq
      by_cases h0 : 0 < x
      · have hsz : (strOfNums [48 + (x : Int) % 10]).size + s.size ≤ 9223372036854775807 := by rw [strOfNums_size]; simp; omega
        go_wp2
        go_roundw
        case rel =>
          refine ⟨x / 10, f - 1, _, by omega, by omega, by go_num, rfl, ?_, ?_, bl_alloc HB.out _⟩
          · rw [HQ.out, digF_step h0 hx1]
            rfl
          · rw [ByteArray.size_append, strOfNums_size]; simp; omega
        case measure => simp [intOf]; omega
      · obtain rfl : x = 0 := by omega
        go_wp2
        go_ret
        have e : mT n = ⟨#[109]⟩ ++ s := by
          unfold mT
          rw [if_neg H0.out, HQ.out, digF_zero]
        rw [e]
        exact ⟨rfl, HB.out⟩
end Go.Proofs.Ytcklnjjbhngbcaa
