/- Lemmas and contracts of functions that the theorem of this claim leans on (texts L5a, L3, L5, L7). -/
import Derived.Laws.BytesArg
import Derived.Test.YtcklnjjbhngbcaaGreatDoorRowLkz05
import Derived.Test.YtcklnjjbhngbcaaGreatDoorRowLkz04
import Derived.Test.YtcklnjjbhngbcaaGreatDoorRowLkz43
import Derived.Test.YtcklnjjbhngbcaaGreatDoorRowLkz03
namespace Go.Proofs.YtcklnjjbhngbcaaGreatDoor
open Go.RowKit Go.Proofs.Lens

/-- The decimal text of k, ahead of o. -/
def digF : Nat → Nat → ByteArray → ByteArray
  | 0, _, o => o
  | f + 1, k, o => if k = 0 then o else digF f (k / 10) (strOfNums [48 + ((k % 10 : Nat) : Int)] ++ o)
theorem digF_step {f k : Nat} {o : ByteArray} (hk : 0 < k) (hf : k ≤ f) : digF f k o = digF (f - 1) (k / 10) (strOfNums [48 + ((k % 10 : Nat) : Int)] ++ o) := by
  obtain ⟨g, rfl⟩ : ∃ g, f = g + 1 := ⟨f - 1, by omega⟩
  rw [digF, if_neg (by omega)]; rfl
theorem digF_zero (f : Nat) (o : ByteArray) : digF f 0 o = o := by cases f <;> simp [digF]
def mT (k : Nat) : ByteArray := if k = 0 then ⟨#[109, 48]⟩ else ⟨#[109]⟩ ++ digF k k ⟨#[]⟩
set_option maxRecDepth 100000 in
set_option maxHeartbeats 400000 in
theorem markText_calls (k : Int) (w : World) (hk : 0 ≤ k) (hk1 : k ≤ 4611686018427387904) : Calls Tryz.prog 63 #[.int .i64 k] w fun e w' => e = .returned (.string (mT k.toNat)) ∧ Below w.heap.size w w' := by
  obtain ⟨n, rfl⟩ : ∃ n : Nat, k = (n : Int) := ⟨k.toNat, by omega⟩
  have hcv : ∀ (y : Int) (W : World), (convert 22 9 (.slice (some ⟨W.heap.size, 0, none⟩) 1 1)).run Tryz.prog (W.alloc (.cells #[.int .u8 y] 5)) = .ok (.string (strOfNums [y])) (W.alloc (.cells #[.int .u8 y] 5)) := fun y W =>
    run_convert_bytes_arg _ 22 5 Tryz.underlying22 Tryz.underlying5 _ 0 1 1 [y] rfl (fun i hi => by
      obtain rfl : i = 0 := by omega
      exact (Blk.made W #[.int .u8 y] 5).cell (j := 0) (by simp)) 9 Tryz.underlying9
  rw [Int.toNat_natCast]
  by_cases h0 : n = 0
  · subst h0
    go_enter Tryz.func63, Tryz.ntmps63
    go_wp2
    go_ret
    exact ⟨rfl, Below.refl _ _⟩
  · have hd : decide ((n : Int) ≤ 0) = false := by simp; omega
    have H0 := Lib.hid h0
    clear h0
    go_enter Tryz.func63, Tryz.ntmps63
    go_wp2_with fail
    go_loopw [0, 3] (fun q o wr => ∃ (x f : Nat) (s : ByteArray), x ≤ n ∧ x ≤ f ∧ q = .int .i64 x ∧ o = .string s ∧ digF n n ⟨#[]⟩ = digF f x s ∧ s.size + x ≤ n ∧ Below w.heap.size w wr) (fun q _ _ => (intOf q).toNat)
    case atStart => exact ⟨n, n, _, Nat.le_refl _, Nat.le_refl _, rfl, rfl, rfl, by simp [ByteArray.size], Below.refl _ _⟩
    case round =>
      obtain ⟨x, f, s, hx0, hx1, rfl, rfl, hq, hs, hb⟩ := hrel
      have HB := Lib.hid hb
      have HQ := Lib.hid hq
      clear hb hq
      by_cases h0 : 0 < x
      · have hsz : (strOfNums [48 + (x : Int) % 10]).size + s.size ≤ 9223372036854775807 := by rw [strOfNums_size]; simp; omega
        go_wp2
        go_roundw
        case rel =>
          refine ⟨x / 10, f - 1, _, by omega, by omega, by go_num, rfl, ?_, ?_, bl_alloc HB.out _⟩
          · rw [HQ.out, digF_step h0 hx1]
            rfl
          · rw [ByteArray.size_append, strOfNums_size]; simp; omega
        case measure => simp [intOf]; omega
      · obtain rfl : x = 0 := by omega
        go_wp2
        go_ret
        have e : mT n = ⟨#[109]⟩ ++ s := by
          unfold mT
          rw [if_neg H0.out, HQ.out, digF_zero]
        rw [e]
        exact ⟨rfl, HB.out⟩
end Go.Proofs.YtcklnjjbhngbcaaGreatDoor

namespace Go.Proofs.YtcklnjjbhngbcaaGreatDoor
open Go.RowKit Go.Proofs.Lens

set_option maxRecDepth 100000 in
set_option maxHeartbeats 400000 in
theorem toTrace_calls (v1 v2 : Value) (t : PTr) (w : World) (hr : RdTr w v1 v2 t) (hz : smTr t) :
    Calls Tryz.prog 17 #[.agg #[v1, v2]] w fun e w' => ∃ u1 u2, e = .returned (.agg #[u1, u2]) ∧ OwStrs w' w.heap.size u1 t.fns ∧ OwMoms w' w.heap.size u2 t.moms ∧ Below w.heap.size w w' := by
  have HR := Lib.hid hr
  have HZ := Lib.hid hz
  obtain ⟨⟨A1, c1, rfl, hn1, hrow⟩, ⟨vv, ⟨A2, c2, rfl, hn2, hrow2⟩, hvv⟩⟩ := hr
  clear hz hrow hrow2 hvv
  go_enter Tryz.func17, Tryz.ntmps17
  go_wp2_with fail
  refine (toStrings_calls _ t.fns _ (HR.out.1.later (bl_alloc (bl_alloc (bl_alloc (Below.refl _ _) _) _) _)) HZ.out.1.1).mono ?_; rintro e w1 ⟨u1, rfl, ho1, hb1⟩
  have hx := (((Blk.made w _ _).alloc _).alloc _).later hb1
  have hy := ((Blk.made (w.alloc _) _ _).alloc _).later hb1
  have hz := (Blk.made ((w.alloc _).alloc _) _ _).later hb1
  have HL1 := Lib.hid (bl_then (bl_alloc (bl_alloc (bl_alloc (Below.refl _ w) _) _) _) hb1)
  have hs1 := hb1.size
  simp only [World.size_alloc] at hx hy hz ho1 hs1
  have HO1 := Lib.hid ho1
  have a1 : w1.cell? ⟨w.heap.size, 1, none⟩ = some (.slice A2 t.moms.length c2) := hx.cell (j := 1) (by simp)
  have z0 : w1.cell? ⟨w.heap.size + 1 + 1, 0, none⟩ = some (.slice none 0 0) := hz.cell (j := 0) (by simp)
  have z0' := hz.free 0
  have HX := Lib.hid hx
  have HY := Lib.hid hy
  have HZ2 := Lib.hid hz
  obtain ⟨g1, d1, f1, rfl, -⟩ := ho1
  clear hx hy hz hb1
  go_wp2_with fail
  refine (toMoments_calls _ t.moms _ (HR.out.2.later (bl_set HL1.out (by dsimp only; omega) _)) HZ.out.2).mono ?_; rintro e w2 ⟨u2, rfl, ho2, hb2⟩
  have hy := (HY.out.far (by dsimp only; omega) _).later hb2
  have hz := (HZ2.out.set (j := 0) (by simp) _).later hb2
  have HO3 := Lib.hid ((HO1.out.far (by dsimp only; omega) _).later hb2)
  have hs2 := hb2.size
  simp only [World.size_setCell] at ho2 hs2
  have HO2 := Lib.hid ho2
  have HL2 := Lib.hid (bl_then (bl_set HL1.out (by dsimp only; omega) _) hb2)
  have b0 : w2.cell? ⟨w.heap.size + 1 + 1, 0, none⟩ = some (.slice (some ⟨g1, 0, none⟩) t.fns.length d1) := hz.cell (j := 0) (by simp)
  have b1 : w2.cell? ⟨w.heap.size + 1 + 1, 1, none⟩ = some (.slice none 0 0) := hz.cell (j := 1) (by simp)
  have b2 := hz.free 1
  have y0 : w2.cell? ⟨w.heap.size + 1, 0, none⟩ = some (.slice none 0 0) := hy.cell (j := 0) (by simp)
  have y1 : w2.cell? ⟨w.heap.size + 1, 1, none⟩ = some (.slice none 0 0) := hy.cell (j := 1) (by simp)
  have y2 := hy.free 0
  have y3 := hy.free 1
  obtain ⟨g2, d2, f2, rfl, -⟩ := ho2
  clear hy hz hb2
  go_wp2
  refine bodyPost_ret (v := .agg #[.slice (some ⟨g1, 0, none⟩) t.fns.length d1, .slice (some ⟨g2, 0, none⟩) t.moms.length d2])
    (by simp [results, Tryz.results17, go_sem, y0, y1]) rfl ⟨_, _, rfl, ?_, ?_, ?_⟩
  · refine OwStrs.lower ?_ (lo := w.heap.size + 1 + 1 + 1) (by omega)
    repeat (refine OwStrs.far ?_ (by dsimp only; omega) _)
    exact HO3.out
  · refine OwMoms.lower ?_ (lo := w1.heap.size) (by omega)
    repeat (refine OwMoms.far ?_ (by dsimp only; omega) _)
    exact HO2.out
  · repeat (refine bl_set ?_ (by dsimp only; omega) _)
    exact HL2.out


set_option maxRecDepth 100000 in
set_option maxHeartbeats 400000 in
theorem eqVar_calls (p : PVar) (w : World) :
    Calls Tryz.prog 167 #[.agg #[.string p.nm, .string p.tx], .agg #[.string p.nm, .string p.tx]] w fun e w' => e = .returned (.bool true) ∧ Below w.heap.size w w' := by
  go_enter Tryz.func167, Tryz.ntmps167
  go_wp2
  go_ret
  exact ⟨rfl, bl_alloc (bl_alloc (Below.refl _ _) _) _⟩


set_option maxRecDepth 100000 in
set_option maxHeartbeats 400000 in
theorem eqVars_calls (v1 v2 : Value) (xs : List PVar) (w : World) (h1 : RdVars w v1 xs) (h2 : RdVars w v2 xs) :
    Calls Tryz.prog 131 #[v1, v2] w fun e w' => e = .returned (.bool true) ∧ Below w.heap.size w w' := by
  have H1 := Lib.hid h1
  have H2 := Lib.hid h2
  obtain ⟨A, c, rfl, hn, hrow⟩ := h1
  obtain ⟨A2, c2, rfl, -, hrow2⟩ := h2
  clear hrow hrow2
  go_enter Tryz.func131, Tryz.ntmps131
  go_wp2
  go_loopw [5] (fun i wr => ∃ (k : Nat), k ≤ xs.length ∧ i = .int .i64 k ∧ Below w.heap.size w wr) (fun i _ => xs.length - (intOf i).toNat)
  case atStart => exact ⟨0, Nat.zero_le _, rfl, Below.refl _ _⟩
  case round =>
    obtain ⟨k, hk, rfl, hb⟩ := hrel
    have HL := Lib.hid hb
    by_cases hlt : k < xs.length
    · obtain ⟨A', c', he, _, hrow⟩ := H1.out.later hb
      obtain ⟨rfl, rfl⟩ : A = A' ∧ c = c' := by simpa using he
      obtain ⟨b, o, rfl, hc⟩ := hrow (by omega)
      obtain ⟨A', c', he', _, hrow'⟩ := H2.out.later hb
      obtain ⟨rfl, rfl⟩ : A2 = A' ∧ c2 = c' := by simpa using he'
      obtain ⟨b2, o2, rfl, hc2⟩ := hrow' (by omega)
      have x0 : wr.cell? ⟨b, o + k * 2, none⟩ = some (.string (elt xs k).nm) := hc k hlt 0 (by omega)
      have x1 : wr.cell? ⟨b, o + k * 2 + 1, none⟩ = some (.string (elt xs k).tx) := hc k hlt 1 (by omega)
      have y0 : wr.cell? ⟨b2, o2 + k * 2, none⟩ = some (.string (elt xs k).nm) := hc2 k hlt 0 (by omega)
      have y1 : wr.cell? ⟨b2, o2 + k * 2 + 1, none⟩ = some (.string (elt xs k).tx) := hc2 k hlt 1 (by omega)
      clear hc hc2 he he' hrow hrow' hb
      go_wp2_with fail
      go_still_tail 8, (by kernel_rfl)
      go_wp2_with fail
      refine (eqVar_calls (elt xs k) _).mono ?_; rintro e w1 ⟨rfl, hb1⟩
      have HL1 := Lib.hid (bl_then (bl_drew HL.out) hb1)
      clear hb1
      go_wp2
      go_roundw
      case rel => exact ⟨k + 1, by omega, by go_num, HL1.out⟩
      case measure => simp [intOf]; omega
    · clear hb
      go_wp2
      go_ret
      exact ⟨rfl, HL.out⟩


set_option maxRecDepth 100000 in
set_option maxHeartbeats 400000 in
theorem eqStrings_calls (v1 v2 : Value) (xs : List ByteArray) (w : World) (h1 : RdStrs w v1 xs) (h2 : RdStrs w v2 xs) :
    Calls Tryz.prog 58 #[v1, v2] w fun e w' => e = .returned (.bool true) ∧ Below w.heap.size w w' := by
  have H1 := Lib.hid h1
  have H2 := Lib.hid h2
  obtain ⟨A, c, rfl, hn, hrow⟩ := h1
  obtain ⟨A2, c2, rfl, -, hrow2⟩ := h2
  clear hrow hrow2
  go_enter Tryz.func58, Tryz.ntmps58
  go_wp2
  go_loopw [5] (fun i wr => ∃ (k : Nat), k ≤ xs.length ∧ i = .int .i64 k ∧ Below w.heap.size w wr) (fun i _ => xs.length - (intOf i).toNat)
  case atStart => exact ⟨0, Nat.zero_le _, rfl, Below.refl _ _⟩
  case round =>
    obtain ⟨k, hk, rfl, hb⟩ := hrel
    have HL := Lib.hid hb
    by_cases hlt : k < xs.length
    · obtain ⟨A', c', he, _, hrow⟩ := H1.out.later hb
      obtain ⟨rfl, rfl⟩ : A = A' ∧ c = c' := by simpa using he
      obtain ⟨b, o, rfl, hc⟩ := hrow (by omega)
      obtain ⟨A', c', he', _, hrow'⟩ := H2.out.later hb
      obtain ⟨rfl, rfl⟩ : A2 = A' ∧ c2 = c' := by simpa using he'
      obtain ⟨b2, o2, rfl, hc2⟩ := hrow' (by omega)
      have x0 : wr.cell? ⟨b, o + k, none⟩ = some (.string (elt xs k)) := by have := hc k hlt 0 (by omega); simp only [Nat.mul_one, Nat.add_zero] at this; exact this
      have y0 : wr.cell? ⟨b2, o2 + k, none⟩ = some (.string (elt xs k)) := by have := hc2 k hlt 0 (by omega); simp only [Nat.mul_one, Nat.add_zero] at this; exact this
      clear hc hc2 he he' hrow hrow' hb
      go_wp2_with fail
      go_quiet (fail)
      go_wp2
      go_roundw
      case rel => exact ⟨k + 1, by omega, by go_num, bl_drewN HL.out _⟩
      case measure => simp [intOf]; omega
    · clear hb
      go_wp2
      go_ret
      exact ⟨rfl, HL.out⟩


set_option maxRecDepth 100000 in
set_option maxHeartbeats 400000 in
theorem eqMoment_calls (p : PMom) (v1 v2 : Value) (w : World) (h1 : RdVars w v1 p.vars) (h2 : RdVars w v2 p.vars) :
    Calls Tryz.prog 132 #[.agg #[.int .i64 p.kind, .int .i64 p.task, .int .i64 p.fn, .int .i64 p.line, .string p.text, v1], .agg #[.int .i64 p.kind, .int .i64 p.task, .int .i64 p.fn, .int .i64 p.line, .string p.text, v2]] w
      fun e w' => e = .returned (.bool true) ∧ Below w.heap.size w w' := by
  have H1 := Lib.hid h1
  have H2 := Lib.hid h2
  clear h1 h2
  go_enter Tryz.func132, Tryz.ntmps132
  go_wp2_with fail
  refine (eqVars_calls _ _ p.vars _ (H1.out.later (bl_alloc (bl_alloc (Below.refl _ _) _) _)) (H2.out.later (bl_alloc (bl_alloc (Below.refl _ _) _) _))).mono ?_; rintro e w1 ⟨rfl, hb1⟩
  have HL1 := Lib.hid (bl_then (bl_alloc (bl_alloc (Below.refl _ w) _) _) hb1)
  clear hb1
  go_wp2
  go_ret
  exact ⟨rfl, HL1.out⟩

set_option maxRecDepth 100000 in
set_option maxHeartbeats 400000 in
theorem eqMoments_calls (v1 v2 : Value) (xs : List PMom) (w : World) (h1 : RdMoms w v1 xs) (h2 : RdMoms w v2 xs) :
    Calls Tryz.prog 59 #[v1, v2] w fun e w' => e = .returned (.bool true) ∧ Below w.heap.size w w' := by
  obtain ⟨vv, h1, hv1⟩ := h1
  obtain ⟨vv2, h2, hv2⟩ := h2
  have H1 := Lib.hid h1
  have H2 := Lib.hid h2
  have V1 := Lib.hid hv1
  have V2 := Lib.hid hv2
  obtain ⟨A, c, rfl, hn, hrow⟩ := h1
  obtain ⟨A2, c2, rfl, -, hrow2⟩ := h2
  clear hrow hrow2 hv1 hv2
  go_enter Tryz.func59, Tryz.ntmps59
  go_wp2
  go_loopw [5] (fun i wr => ∃ (k : Nat), k ≤ xs.length ∧ i = .int .i64 k ∧ Below w.heap.size w wr) (fun i _ => xs.length - (intOf i).toNat)
  case atStart => exact ⟨0, Nat.zero_le _, rfl, Below.refl _ _⟩
  case round =>
    obtain ⟨k, hk, rfl, hb⟩ := hrel
    have HL := Lib.hid hb
    by_cases hlt : k < xs.length
    · obtain ⟨A', c', he, _, hrow⟩ := H1.out.later hb
      obtain ⟨rfl, rfl⟩ : A = A' ∧ c = c' := by simpa using he
      obtain ⟨b, o, rfl, hc⟩ := hrow (by omega)
      obtain ⟨A', c', he', _, hrow'⟩ := H2.out.later hb
      obtain ⟨rfl, rfl⟩ : A2 = A' ∧ c2 = c' := by simpa using he'
      obtain ⟨b2, o2, rfl, hc2⟩ := hrow' (by omega)
      have x0 : wr.cell? ⟨b, o + k * 6, none⟩ = some (.int .i64 (elt xs k).kind) := hc k hlt 0 (by omega)
      have x1 : wr.cell? ⟨b, o + k * 6 + 1, none⟩ = some (.int .i64 (elt xs k).task) := hc k hlt 1 (by omega)
      have x2 : wr.cell? ⟨b, o + k * 6 + 2, none⟩ = some (.int .i64 (elt xs k).fn) := hc k hlt 2 (by omega)
      have x3 : wr.cell? ⟨b, o + k * 6 + 3, none⟩ = some (.int .i64 (elt xs k).line) := hc k hlt 3 (by omega)
      have x4 : wr.cell? ⟨b, o + k * 6 + 4, none⟩ = some (.string (elt xs k).text) := hc k hlt 4 (by omega)
      have x5 : wr.cell? ⟨b, o + k * 6 + 5, none⟩ = some (vv k) := hc k hlt 5 (by omega)
      have y0 : wr.cell? ⟨b2, o2 + k * 6, none⟩ = some (.int .i64 (elt xs k).kind) := hc2 k hlt 0 (by omega)
      have y1 : wr.cell? ⟨b2, o2 + k * 6 + 1, none⟩ = some (.int .i64 (elt xs k).task) := hc2 k hlt 1 (by omega)
      have y2 : wr.cell? ⟨b2, o2 + k * 6 + 2, none⟩ = some (.int .i64 (elt xs k).fn) := hc2 k hlt 2 (by omega)
      have y3 : wr.cell? ⟨b2, o2 + k * 6 + 3, none⟩ = some (.int .i64 (elt xs k).line) := hc2 k hlt 3 (by omega)
      have y4 : wr.cell? ⟨b2, o2 + k * 6 + 4, none⟩ = some (.string (elt xs k).text) := hc2 k hlt 4 (by omega)
      have y5 : wr.cell? ⟨b2, o2 + k * 6 + 5, none⟩ = some (vv2 k) := hc2 k hlt 5 (by omega)
      clear hc hc2 he he' hrow hrow' hb
      go_wp2_with fail
      go_still_tail 8, (by kernel_rfl)
      go_wp2_with fail
      refine (eqMoment_calls (elt xs k) _ _ _ ((V1.out k hlt).later (bl_drew HL.out)) ((V2.out k hlt).later (bl_drew HL.out))).mono ?_; rintro e w1 ⟨rfl, hb1⟩
      have HL1 := Lib.hid (bl_then (bl_drew HL.out) hb1)
      clear hb1
      go_wp2
      go_roundw
      case rel => exact ⟨k + 1, by omega, by go_num, HL1.out⟩
      case measure => simp [intOf]; omega
    · clear hb
      go_wp2
      go_ret
      exact ⟨rfl, HL.out⟩

set_option maxRecDepth 100000 in
set_option maxHeartbeats 400000 in
theorem eqTrace_calls (v1 v2 u1 u2 : Value) (t : PTr) (w : World) (h1 : RdTr w v1 v2 t) (h2 : RdTr w u1 u2 t) :
    Calls Tryz.prog 20 #[.agg #[v1, v2], .agg #[u1, u2]] w fun e w' => e = .returned (.bool true) ∧ Below w.heap.size w w' := by
  have H1 := Lib.hid h1
  have H2 := Lib.hid h2
  obtain ⟨⟨A1, c1, rfl, -⟩, ⟨vv, ⟨A2, c2, rfl, -⟩, -⟩⟩ := h1
  obtain ⟨⟨A3, c3, rfl, -⟩, ⟨vv2, ⟨A4, c4, rfl, -⟩, -⟩⟩ := h2
  go_enter Tryz.func20, Tryz.ntmps20
  go_wp2_with fail
  refine (eqStrings_calls _ _ t.fns _ (H1.out.1.later (bl_alloc (bl_alloc (Below.refl _ _) _) _)) (H2.out.1.later (bl_alloc (bl_alloc (Below.refl _ _) _) _))).mono ?_; rintro e w1 ⟨rfl, hb1⟩
  have HL1 := Lib.hid (bl_then (bl_alloc (bl_alloc (Below.refl _ w) _) _) hb1)
  have hx := ((Blk.made w _ _).alloc _).later hb1
  have hy := (Blk.made (w.alloc _) _ _).later hb1
  simp only [World.size_alloc] at hx hy
  have a1 : w1.cell? ⟨w.heap.size, 1, none⟩ = some (.slice A2 t.moms.length c2) := hx.cell (j := 1) (by simp)
  have a2 : w1.cell? ⟨w.heap.size + 1, 1, none⟩ = some (.slice A4 t.moms.length c4) := hy.cell (j := 1) (by simp)
  clear hx hy hb1
  go_wp2_with fail
  refine (eqMoments_calls _ _ t.moms _ (H1.out.2.later HL1.out) (H2.out.2.later HL1.out)).mono ?_; rintro e w2 ⟨rfl, hb2⟩
  have HL2 := Lib.hid (bl_then HL1.out hb2)
  clear hb2
  go_wp2
  go_ret
  exact ⟨rfl, HL2.out⟩
end Go.Proofs.YtcklnjjbhngbcaaGreatDoor

namespace Go.Proofs.YtcklnjjbhngbcaaGreatDoor
open Go.RowKit Go.Proofs.Lens

/-- The marks from k on, as the cells of a slice. -/
def mkC (sz : Nat) (k : Int) (i j : Nat) : Value := .int .i64 (k + (sz : Int) * i + j)
/-- The first q elements are marked. -/
def mkQ (sz q : Nat) (k : Int) (C : Nat → Nat → Value) (i j : Nat) : Value := if i < q then mkC sz k i j else C i j
/-- Elements q before their field j are marked. -/
def mkJ (sz q j0 : Nat) (k : Int) (C : Nat → Nat → Value) (i j : Nat) : Value := if i < q ∨ (i = q ∧ j < j0) then mkC sz k i j else C i j
theorem mkJ_0 (sz q : Nat) (k : Int) (C : Nat → Nat → Value) : mkJ sz q 0 k C = mkQ sz q k C := by
  funext i j; unfold mkJ mkQ; simp
theorem mkJ_end (sz q : Nat) (k : Int) (C : Nat → Nat → Value) (i j : Nat) (hj : j < sz) : mkJ sz q sz k C i j = mkQ sz (q + 1) k C i j := by
  unfold mkJ mkQ
  by_cases h : i < q + 1
  · rw [if_pos h, if_pos (by omega)]
  · rw [if_neg h, if_neg (by omega)]
theorem mkJ_step {sz q j0 : Nat} {k : Int} {C : Nat → Nat → Value} {w : World} {lo n b cap : Nat} {e : TypeId} (h : OwR w lo e sz n (mkJ sz q j0 k C) (.slice (some ⟨b, 0, none⟩) n cap)) (hq : q < n) (hj : j0 < sz) {u : Int} (hu : u = k + (sz : Int) * q + j0) :
    OwR (w.setCell ⟨b, q * sz + j0, none⟩ (.int .i64 u)) lo e sz n (mkJ sz q (j0 + 1) k C) (.slice (some ⟨b, 0, none⟩) n cap) := by
  refine h.set hq hj (fun i j hi hj' hne => ?_) ?_
  · unfold mkJ
    by_cases h : i < q ∨ (i = q ∧ j < j0)
    · rw [if_pos h, if_pos (by omega)]
    · rw [if_neg h, if_neg (by omega)]
  · unfold mkJ mkC
    rw [if_pos (by omega), hu]
theorem gbo_refl (w : World) (v : Value) : w.grownBy w v.ownBlock := ⟨rfl, rfl, rfl, Nat.le_refl _, fun _ _ _ => rfl⟩
theorem gbo_set {w W : World} {b n c : Nat} {o : Nat} (h : w.grownBy W (Value.slice (some ⟨b, 0, none⟩) n c).ownBlock) (j : Nat) (u : Value) : w.grownBy (W.setCell ⟨b, j, none⟩ u) (Value.slice (some ⟨b, o, none⟩) n c).ownBlock :=
  ⟨h.os, h.tape, h.output, by rw [World.size_setCell]; exact h.size, fun k hk hr => (Below.heap_setCell _ _ _ _ (fun e => hr (by rw [e]; rfl))).trans (h.block k hk hr)⟩
/-- What a mark.. leaves. -/
def MkPost (w : World) (lo : Nat) (e : TypeId) (sz n : Nat) (k : Int) (v : Value) (en : Ending) (w' : World) : Prop :=
  en = .returned (.int .i64 (k + (sz : Int) * n)) ∧ OwR w' lo e sz n (mkC sz k) v ∧ w.grownBy w' v.ownBlock


set_option maxRecDepth 100000 in
set_option maxHeartbeats 2000000 in
theorem markFrames_calls (lo n : Nat) (C : Nat → Nat → Value) (v : Value) (k : Int) (w : World) (h : OwR w lo 42 3 n C v) (hn : n ≤ 1048576) (hk0 : 0 ≤ k) (hk1 : k ≤ 1099511627776) :
    Calls Tryz.prog 64 #[v, .int .i64 k] w (MkPost w lo 42 3 n k v) := by
  have H := Lib.hid h
  obtain ⟨A, cap, rfl, -⟩ := h.cap
  clear h
  go_enter Tryz.func64, Tryz.ntmps64
  go_wp2_with fail
  go_loopw [1, 5] (fun kk i wr => ∃ q : Nat, q ≤ n ∧ i = .int .i64 q ∧ kk = .int .i64 (k + 3 * (q : Int)) ∧ OwR wr lo 42 3 n (mkQ 3 q k C) (.slice A n cap) ∧ w.grownBy wr (Value.slice A n cap).ownBlock) (fun _ i _ => n - (intOf i).toNat)
  case atStart => exact ⟨0, Nat.zero_le _, rfl, by simp, H.out.congr (fun i hi j hj => by simp [mkQ]), gbo_refl _ _⟩
  case round =>
    obtain ⟨q, hq, rfl, rfl, hO, hG⟩ := hrel
    have HO := Lib.hid hO
    have HG := Lib.hid hG
    by_cases hlt : q < n
    · obtain ⟨A', c', hv, hop⟩ := hO.open'
      obtain ⟨rfl, rfl⟩ : A = A' ∧ cap = c' := by simpa using hv
      obtain ⟨b, rfl, -, -, hc, hf⟩ := hop (by omega)
      have x0 := hc q hlt 0 (by omega)
      have y0 := hf (q * 3)
      have x1 := hc q hlt 1 (by omega)
      have y1 := hf (q * 3 + 1)
      have x2 := hc q hlt 2 (by omega)
      have y2 := hf (q * 3 + 2)
      simp only [Nat.add_zero] at x0
      have hlt' : (q : Int) < (n : Int) := by omega
      clear hO hG hc hf hv hop
      go_wp2
      go_roundw
      case rel =>
        refine ⟨q + 1, by omega, by go_num, by congr 1; omega, ?_, ?_⟩
        · have h0 : OwR wr lo 42 3 n (mkJ 3 q 0 k C) (.slice (some ⟨b, 0, none⟩) n cap) := by rw [mkJ_0]; exact HO.out
          have h1 := mkJ_step h0 (u := k + 3 * (q : Int)) hlt (by omega) (by simp <;> omega)
          have h2 := mkJ_step h1 (u := k + 3 * (q : Int) + 1) hlt (by omega) (by simp <;> omega)
          have h3 := mkJ_step h2 (u := k + 3 * (q : Int) + 1 + 1) hlt (by omega) (by simp <;> omega)
          simp only [Nat.add_zero] at h3
          exact h3.congr fun i hi j hj => mkJ_end _ _ _ _ _ _ hj
        · refine gbo_set ?_ _ _; refine gbo_set ?_ _ _; refine gbo_set ?_ _ _; exact HG.out
      case measure => simp [intOf]; omega
    · obtain rfl : q = n := by omega
      clear hO hG
      go_wp2
      go_ret
      exact ⟨ret_int (by simp), HO.out.congr (fun i hi j hj => by unfold mkQ; rw [if_pos hi]), HG.out⟩

set_option maxRecDepth 100000 in
set_option maxHeartbeats 2000000 in
theorem heldFrames_calls (n : Nat) (v : Value) (k : Int) (w : World) (h : RdSl w 3 n (mkC 3 k) v) (hn : n ≤ 1048576) (hk0 : 0 ≤ k) (hk1 : k ≤ 1099511627776) :
    Calls Tryz.prog 66 #[v, .int .i64 k] w fun e w' => e = .returned (.int .i64 (k + 3 * (n : Int))) ∧ w = w' := by
  obtain ⟨A, cap, rfl, hm, hrow⟩ := h
  have HR := Lib.hid hrow
  clear hrow
  go_enter Tryz.func66, Tryz.ntmps66
  go_wp2_with fail
  go_loop [1, 5] (fun kk i => ∃ q : Nat, q ≤ n ∧ i = .int .i64 q ∧ kk = .int .i64 (k + 3 * (q : Int))) (fun _ i => n - (intOf i).toNat)
  case atStart => exact ⟨0, Nat.zero_le _, rfl, by simp⟩
  case round =>
    obtain ⟨q, hq, rfl, rfl⟩ := hrel
    by_cases hlt : q < n
    · obtain ⟨b, o, rfl, hc⟩ := HR.out (by omega)
      have x0 : w.cell? ⟨b, o + q * 3, none⟩ = some (.int .i64 (k + 3 * (q : Int))) := (hc q hlt 0 (by omega)).trans (by unfold mkC; congr 2 <;> simp <;> omega)
      have x1 : w.cell? ⟨b, o + q * 3 + 1, none⟩ = some (.int .i64 (k + 3 * (q : Int) + 1)) := (hc q hlt 1 (by omega)).trans (by unfold mkC; congr 2 <;> simp <;> omega)
      have x2 : w.cell? ⟨b, o + q * 3 + 2, none⟩ = some (.int .i64 (k + 3 * (q : Int) + 1 + 1)) := (hc q hlt 2 (by omega)).trans (by unfold mkC; congr 2 <;> simp <;> omega)
      have hlt' : (q : Int) < (n : Int) := by omega
      clear hc
      go_wp2
      go_round
      case rel => exact ⟨q + 1, by omega, by go_num, by congr 1; omega⟩
      case measure => simp [intOf]; omega
    · obtain rfl : q = n := by omega
      go_wp2
      go_ret
      exact ⟨rfl, rfl⟩

end Go.Proofs.YtcklnjjbhngbcaaGreatDoor

namespace Go.Proofs.YtcklnjjbhngbcaaGreatDoor
open Go.RowKit Go.Proofs.Lens

set_option maxRecDepth 100000 in
set_option maxHeartbeats 400000 in
theorem eqFrame_calls (p : PFr) (w : World) :
    Calls Tryz.prog 166 #[.agg #[.int .i64 p.fn, .int .i64 p.line, .int .i64 p.frm], .agg #[.int .i64 p.fn, .int .i64 p.line, .int .i64 p.frm]] w fun e w' => e = .returned (.bool true) ∧ Below w.heap.size w w' := by
  go_enter Tryz.func166, Tryz.ntmps166
  go_wp2
  go_ret
  exact ⟨rfl, bl_alloc (bl_alloc (Below.refl _ _) _) _⟩


set_option maxRecDepth 100000 in
set_option maxHeartbeats 400000 in
theorem eqFrames_calls (v1 v2 : Value) (xs : List PFr) (w : World) (h1 : RdFrs w v1 xs) (h2 : RdFrs w v2 xs) :
    Calls Tryz.prog 130 #[v1, v2] w fun e w' => e = .returned (.bool true) ∧ Below w.heap.size w w' := by
  have H1 := Lib.hid h1
  have H2 := Lib.hid h2
  obtain ⟨A, c, rfl, hn, hrow⟩ := h1
  obtain ⟨A2, c2, rfl, -, hrow2⟩ := h2
  clear hrow hrow2
  go_enter Tryz.func130, Tryz.ntmps130
  go_wp2
  go_loopw [5] (fun i wr => ∃ (k : Nat), k ≤ xs.length ∧ i = .int .i64 k ∧ Below w.heap.size w wr) (fun i _ => xs.length - (intOf i).toNat)
  case atStart => exact ⟨0, Nat.zero_le _, rfl, Below.refl _ _⟩
  case round =>
    obtain ⟨k, hk, rfl, hb⟩ := hrel
    have HL := Lib.hid hb
    by_cases hlt : k < xs.length
    · obtain ⟨A', c', he, _, hrow⟩ := H1.out.later hb
      obtain ⟨rfl, rfl⟩ : A = A' ∧ c = c' := by simpa using he
      obtain ⟨b, o, rfl, hc⟩ := hrow (by omega)
      obtain ⟨A', c', he', _, hrow'⟩ := H2.out.later hb
      obtain ⟨rfl, rfl⟩ : A2 = A' ∧ c2 = c' := by simpa using he'
      obtain ⟨b2, o2, rfl, hc2⟩ := hrow' (by omega)
      have x0 : wr.cell? ⟨b, o + k * 3, none⟩ = some (.int .i64 (elt xs k).fn) := hc k hlt 0 (by omega)
      have x1 : wr.cell? ⟨b, o + k * 3 + 1, none⟩ = some (.int .i64 (elt xs k).line) := hc k hlt 1 (by omega)
      have x2 : wr.cell? ⟨b, o + k * 3 + 2, none⟩ = some (.int .i64 (elt xs k).frm) := hc k hlt 2 (by omega)
      have y0 : wr.cell? ⟨b2, o2 + k * 3, none⟩ = some (.int .i64 (elt xs k).fn) := hc2 k hlt 0 (by omega)
      have y1 : wr.cell? ⟨b2, o2 + k * 3 + 1, none⟩ = some (.int .i64 (elt xs k).line) := hc2 k hlt 1 (by omega)
      have y2 : wr.cell? ⟨b2, o2 + k * 3 + 2, none⟩ = some (.int .i64 (elt xs k).frm) := hc2 k hlt 2 (by omega)
      clear hc hc2 he he' hrow hrow' hb
      go_wp2_with fail
      go_still_tail 8, (by kernel_rfl)
      go_wp2_with fail
      refine (eqFrame_calls (elt xs k) _).mono ?_; rintro e w1 ⟨rfl, hb1⟩
      have HL1 := Lib.hid (bl_then (bl_drew HL.out) hb1)
      clear hb1
      go_wp2
      go_roundw
      case rel => exact ⟨k + 1, by omega, by go_num, HL1.out⟩
      case measure => simp [intOf]; omega
    · clear hb
      go_wp2
      go_ret
      exact ⟨rfl, HL.out⟩


end Go.Proofs.YtcklnjjbhngbcaaGreatDoor
