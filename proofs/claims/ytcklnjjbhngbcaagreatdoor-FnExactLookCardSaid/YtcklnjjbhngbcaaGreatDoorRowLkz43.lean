/- Lemmas and contracts of functions that the theorem of this claim leans on (texts L2, L10). -/
import Derived.Test.YtcklnjjbhngbcaaGreatDoorRowLkz05
import Derived.Test.YtcklnjjbhngbcaaGreatDoorRowLkz04
import Derived.Test.YtcklnjjbhngbcaaGreatDoorRowLkz11
import Derived.Test.YtcklnjjbhngbcaaGreatDoorRowLkz33
namespace Go.Proofs.YtcklnjjbhngbcaaGreatDoor
open Go.RowKit Go.Proofs.Lens

theorem i_str : (Tryz.prog.info? 9).map (fun i => (i.zero, i.size, i.bytes)) = some (some (.string ⟨#[]⟩), 1, 16) := by kernel_rfl
theorem i_var : (Tryz.prog.info? 40).map (fun i => (i.zero, i.size, i.bytes)) = some (some (.agg #[.string ⟨#[]⟩, .string ⟨#[]⟩]), 2, 32) := by kernel_rfl
theorem i_mom : (Tryz.prog.info? 114).map (fun i => (i.zero, i.size, i.bytes)) = some (some (.agg #[.int .i64 0, .int .i64 0, .int .i64 0, .int .i64 0, .string ⟨#[]⟩, .slice none 0 0]), 6, 72) := by kernel_rfl

/-- Strings, variables, moments that lie in blocks of their own from lo on. -/
def OwStrs (w : World) (lo : Nat) (v : Value) (xs : List ByteArray) : Prop := ∃ g c f, v = .slice (some ⟨g, 0, none⟩) xs.length c ∧ lo ≤ g ∧ Blk w g 9 xs.length f ∧ ∀ i, i < xs.length → f i = .string (elt xs i)
def OwVars (w : World) (lo : Nat) (v : Value) (xs : List PVar) : Prop := ∃ g c f, v = .slice (some ⟨g, 0, none⟩) xs.length c ∧ lo ≤ g ∧ Blk w g 40 (xs.length * 2) f ∧
  ∀ i, i < xs.length → f (i * 2) = .string (elt xs i).nm ∧ f (i * 2 + 1) = .string (elt xs i).tx

theorem OwStrs.later {w w' : World} {lo : Nat} {v : Value} {xs : List ByteArray} (h : OwStrs w lo v xs) (hb : Below w.heap.size w w') : OwStrs w' lo v xs := by
  obtain ⟨g, c, f, h1, h2, h3, h4⟩ := h
  exact ⟨g, c, f, h1, h2, h3.later hb, h4⟩
theorem OwStrs.lower {w : World} {lo lo' : Nat} {v : Value} {xs : List ByteArray} (h : OwStrs w lo v xs) (hl : lo' ≤ lo) : OwStrs w lo' v xs := by
  obtain ⟨g, c, f, h1, h2, h3, h4⟩ := h
  exact ⟨g, c, f, h1, Nat.le_trans hl h2, h3, h4⟩
theorem OwVars.later {w w' : World} {lo : Nat} {v : Value} {xs : List PVar} (h : OwVars w lo v xs) (hb : Below w.heap.size w w') : OwVars w' lo v xs := by
  obtain ⟨g, c, f, h1, h2, h3, h4⟩ := h
  exact ⟨g, c, f, h1, h2, h3.later hb, h4⟩
theorem OwVars.lower {w : World} {lo lo' : Nat} {v : Value} {xs : List PVar} (h : OwVars w lo v xs) (hl : lo' ≤ lo) : OwVars w lo' v xs := by
  obtain ⟨g, c, f, h1, h2, h3, h4⟩ := h
  exact ⟨g, c, f, h1, Nat.le_trans hl h2, h3, h4⟩
theorem OwVars.set {w : World} {lo : Nat} {v : Value} {xs : List PVar} (h : OwVars w lo v xs) {g : Nat} {e : TypeId} {N : Nat} {f : Nat → Value} (hB : Blk w g e N f) (he : e ≠ 40) (j : Nat) (u : Value) :
    OwVars (w.setCell ⟨g, j, none⟩ u) lo v xs := by
  obtain ⟨g', c, f', h1, h2, h3, h4⟩ := h
  exact ⟨g', c, f', h1, h2, h3.far (fun hg => hB.ne h3 he hg.symm) u, h4⟩
theorem OwVars.far {w : World} {lo : Nat} {v : Value} {xs : List PVar} (h : OwVars w lo v xs) {p : Addr} (hp : p.block < lo) (u : Value) : OwVars (w.setCell p u) lo v xs := by
  obtain ⟨g', c, f', h1, h2, h3, h4⟩ := h
  exact ⟨g', c, f', h1, h2, h3.far (by omega) u, h4⟩
theorem OwStrs.far {w : World} {lo : Nat} {v : Value} {xs : List ByteArray} (h : OwStrs w lo v xs) {p : Addr} (hp : p.block < lo) (u : Value) : OwStrs (w.setCell p u) lo v xs := by
  obtain ⟨g', c, f', h1, h2, h3, h4⟩ := h
  exact ⟨g', c, f', h1, h2, h3.far (by omega) u, h4⟩
theorem OwStrs.rd {w : World} {lo : Nat} {v : Value} {xs : List ByteArray} (h : OwStrs w lo v xs) (hn : xs.length ≤ 9223372036854775807) : RdStrs w v xs := by
  obtain ⟨g, c, f, rfl, _, h3, h4⟩ := h
  exact RdSl.congr (h3.rd (sz := 1) (by omega) hn) fun i hi j hj => by
    obtain rfl : j = 0 := by omega
    rw [Nat.mul_one, Nat.add_zero]; exact h4 i hi
theorem OwVars.rd {w : World} {lo : Nat} {v : Value} {xs : List PVar} (h : OwVars w lo v xs) (hn : xs.length ≤ 9223372036854775807) : RdVars w v xs := by
  obtain ⟨g, c, f, rfl, _, h3, h4⟩ := h
  exact RdSl.congr (h3.rd (sz := 2) (by omega) hn) fun i hi j hj => by
    match j, hj with
    | 0, _ => exact (h4 i hi).1
    | 1, _ => exact (h4 i hi).2

set_option maxRecDepth 100000 in
set_option maxHeartbeats 400000 in
theorem toStrings_calls (v : Value) (xs : List ByteArray) (w : World) (hr : RdStrs w v xs) (hz : xs.length ≤ 1048576) :
    Calls Tryz.prog 54 #[v] w fun e w' => ∃ v', e = .returned v' ∧ OwStrs w' w.heap.size v' xs ∧ Below w.heap.size w w' := by
  have HR := Lib.hid hr
  obtain ⟨A, c, rfl, hn, hrow⟩ := hr
  clear hrow
  obtain ⟨C, hC, -, hmk⟩ := make_law (P := Tryz.prog) 23 9 Tryz.underlying23 i_str xs.length (by omega) (by omega)
  have HC := Lib.hid hC
  clear hC
  go_enter Tryz.func54, Tryz.ntmps54
  go_wp2
  go_loopw [4] (fun i wr => ∃ (k : Nat) (f : Nat → Value), k ≤ xs.length ∧ i = .int .i64 k ∧ Blk wr w.heap.size 9 xs.length f ∧ (∀ j, j < k → f j = .string (elt xs j)) ∧ Below w.heap.size w wr) (fun i _ => xs.length - (intOf i).toNat)
  case atStart =>
    have h1 := Blk.new w C 9 (fun j => C.getD j undef) (fun j hj => by simp [hj])
    rw [HC.out, Nat.mul_one] at h1
    exact ⟨0, _, Nat.zero_le _, rfl, h1, fun j hj => absurd hj (by omega), bl_alloc (Below.refl _ _) _⟩
  case round =>
    obtain ⟨k, f, hk, rfl, hB, hf, hb⟩ := hrel
    have HB := Lib.hid hB
    have HF := Lib.hid hf
    have HL := Lib.hid hb
    by_cases hlt : k < xs.length
    · obtain ⟨A', c', he, _, hrow⟩ := HR.out.later hb
      obtain ⟨rfl, rfl⟩ : A = A' ∧ c = c' := by simpa using he
      obtain ⟨b, o, rfl, hc⟩ := hrow (by omega)
      have hc0 : wr.cell? ⟨b, o + k, none⟩ = some (.string (elt xs k)) := by have := hc k hlt 0 (by omega); simp only [Nat.mul_one, Nat.add_zero] at this; exact this
      have hd0 := hB.cell hlt
      have hd1 := hB.free k
      clear hc he hrow hB hf hb
      go_wp2
      go_roundw
      case rel => exact ⟨k + 1, _, by omega, by go_num, HB.out.set hlt _, fun j hj => by
        by_cases hjk : j = k
        · subst hjk; rw [upd_same]
        · rw [upd_ne _ _ hjk]; exact HF.out j (by omega), bl_set HL.out (Nat.le_refl _) _⟩
      case measure => simp [intOf]; omega
    · clear hB hf hb
      go_wp2
      go_ret
      exact ⟨_, rfl, ⟨_, _, _, rfl, Nat.le_refl _, HB.out, fun j hj => HF.out j (by omega)⟩, HL.out⟩

set_option maxRecDepth 100000 in
set_option maxHeartbeats 400000 in
theorem toVar_calls (p : PVar) (w : World) :
    Calls Tryz.prog 185 #[.agg #[.string p.nm, .string p.tx]] w fun e w' => e = .returned (.agg #[.string p.nm, .string p.tx]) ∧ Below w.heap.size w w' := by
  go_enter Tryz.func185, Tryz.ntmps185
  go_wp2
  refine bodyPost_ret (v := .agg #[.string p.nm, .string p.tx]) (by simp [results, Tryz.results185, go_sem]) rfl ⟨rfl, ?_⟩
  exact bl_alloc (bl_alloc (bl_alloc (Below.refl _ _) _) _) _

set_option maxRecDepth 100000 in
set_option maxHeartbeats 400000 in
theorem toVars_calls (v : Value) (xs : List PVar) (w : World) (hr : RdVars w v xs) (hz : xs.length ≤ 1048576) :
    Calls Tryz.prog 165 #[v] w fun e w' => ∃ v', e = .returned v' ∧ OwVars w' w.heap.size v' xs ∧ Below w.heap.size w w' := by
  have HR := Lib.hid hr
  obtain ⟨A, c, rfl, hn, hrow⟩ := hr
  clear hrow
  obtain ⟨C, hC, -, hmk⟩ := make_law (P := Tryz.prog) 36 40 Tryz.underlying36 i_var xs.length (by omega) (by omega)
  have HC := Lib.hid hC
  clear hC
  go_enter Tryz.func165, Tryz.ntmps165
  go_wp2
  go_loopw [4] (fun i wr => ∃ (k : Nat) (f : Nat → Value), k ≤ xs.length ∧ i = .int .i64 k ∧ Blk wr w.heap.size 40 (xs.length * 2) f ∧
    (∀ j, j < k → f (j * 2) = .string (elt xs j).nm ∧ f (j * 2 + 1) = .string (elt xs j).tx) ∧ Below w.heap.size w wr) (fun i _ => xs.length - (intOf i).toNat)
  case atStart =>
    have h1 := Blk.new w C 40 (fun j => C.getD j undef) (fun j hj => by simp [hj])
    rw [HC.out] at h1
    exact ⟨0, _, Nat.zero_le _, rfl, h1, fun j hj => absurd hj (by omega), bl_alloc (Below.refl _ _) _⟩
  case round =>
    obtain ⟨k, f, hk, rfl, hB, hf, hb⟩ := hrel
    have HB := Lib.hid hB
    have HF := Lib.hid hf
    have HL := Lib.hid hb
    by_cases hlt : k < xs.length
    · obtain ⟨A', c', he, _, hrow⟩ := HR.out.later hb
      obtain ⟨rfl, rfl⟩ : A = A' ∧ c = c' := by simpa using he
      obtain ⟨b, o, rfl, hc⟩ := hrow (by omega)
      have hc0 : wr.cell? ⟨b, o + k * 2, none⟩ = some (.string (elt xs k).nm) := hc k hlt 0 (by omega)
      have hc1 : wr.cell? ⟨b, o + k * 2 + 1, none⟩ = some (.string (elt xs k).tx) := hc k hlt 1 (by omega)
      clear hc he hrow hB hf hb
      go_wp2_with fail
      refine (toVar_calls _ _).mono ?_; rintro e w1 ⟨rfl, hb1⟩
      have HB1 := Lib.hid (HB.out.later hb1)
      have HL1 := Lib.hid (bl_then HL.out hb1)
      have hd0 := HB1.out.cell (j := k * 2) (by omega)
      have hd1 := HB1.out.cell (j := k * 2 + 1) (by omega)
      have hd2 := HB1.out.free (k * 2)
      have hd3 := HB1.out.free (k * 2 + 1)
      clear hb1 hc0 hc1
      go_wp2
      go_roundw
      case rel => exact ⟨k + 1, _, by omega, by go_num, (HB1.out.set (j := k * 2) (by omega) _).set (j := k * 2 + 1) (by omega) _, fun j hj => by
        by_cases hjk : j = k
        · subst hjk; exact ⟨by rw [upd_ne _ _ (by omega), upd_same], by rw [upd_same]⟩
        · rw [upd_ne _ _ (by omega), upd_ne _ _ (by omega), upd_ne _ _ (by omega), upd_ne _ _ (by omega)]; exact HF.out j (by omega), bl_set (bl_set HL1.out (Nat.le_refl _) _) (Nat.le_refl _) _⟩
      case measure => simp [intOf]; omega
    · clear hB hf hb
      go_wp2
      go_ret
      exact ⟨_, rfl, ⟨_, _, _, rfl, Nat.le_refl _, HB.out, fun j hj => HF.out j (by omega)⟩, HL.out⟩

/-- A moment's own five cells. -/
def momF (f : Nat → Value) (i : Nat) (m : PMom) : Prop :=
  f (i * 6) = .int .i64 m.kind ∧ f (i * 6 + 1) = .int .i64 m.task ∧ f (i * 6 + 2) = .int .i64 m.fn ∧ f (i * 6 + 3) = .int .i64 m.line ∧ f (i * 6 + 4) = .string m.text
def OwMoms (w : World) (lo : Nat) (v : Value) (ms : List PMom) : Prop := ∃ g c f, v = .slice (some ⟨g, 0, none⟩) ms.length c ∧ lo ≤ g ∧ Blk w g 114 (ms.length * 6) f ∧
  ∀ i, i < ms.length → momF f i (elt ms i) ∧ OwVars w lo (f (i * 6 + 5)) (elt ms i).vars
theorem OwMoms.later {w w' : World} {lo : Nat} {v : Value} {ms : List PMom} (h : OwMoms w lo v ms) (hb : Below w.heap.size w w') : OwMoms w' lo v ms := by
  obtain ⟨g, c, f, h1, h2, h3, h4⟩ := h
  exact ⟨g, c, f, h1, h2, h3.later hb, fun i hi => ⟨(h4 i hi).1, (h4 i hi).2.later hb⟩⟩
theorem OwMoms.lower {w : World} {lo lo' : Nat} {v : Value} {ms : List PMom} (h : OwMoms w lo v ms) (hl : lo' ≤ lo) : OwMoms w lo' v ms := by
  obtain ⟨g, c, f, h1, h2, h3, h4⟩ := h
  exact ⟨g, c, f, h1, Nat.le_trans hl h2, h3, fun i hi => ⟨(h4 i hi).1, (h4 i hi).2.lower hl⟩⟩
theorem OwMoms.far {w : World} {lo : Nat} {v : Value} {ms : List PMom} (h : OwMoms w lo v ms) {p : Addr} (hp : p.block < lo) (u : Value) : OwMoms (w.setCell p u) lo v ms := by
  obtain ⟨g', c, f', h1, h2, h3, h4⟩ := h
  exact ⟨g', c, f', h1, h2, h3.far (by omega) u, fun i hi => ⟨(h4 i hi).1, (h4 i hi).2.far hp u⟩⟩
theorem OwMoms.rd {w : World} {lo : Nat} {v : Value} {ms : List PMom} (h : OwMoms w lo v ms) (hn : smMoms ms) : RdMoms w v ms := by
  obtain ⟨g, c, f, rfl, _, h3, h4⟩ := h
  refine ⟨fun i => f (i * 6 + 5), RdSl.congr (h3.rd (sz := 6) (by omega) (by have := hn.1; omega)) fun i hi j hj => ?_, fun i hi => (h4 i hi).2.rd (by have := (hn.2 i hi).2.1; omega)⟩
  obtain ⟨⟨a0, a1, a2, a3, a4⟩, _⟩ := h4 i hi
  match j, hj with
  | 0, _ => exact a0
  | 1, _ => exact a1
  | 2, _ => exact a2
  | 3, _ => exact a3
  | 4, _ => exact a4
  | 5, _ => rfl

set_option maxRecDepth 100000 in
set_option maxHeartbeats 400000 in
theorem toMoment_calls (p : PMom) (v : Value) (w : World) (hr : RdVars w v p.vars) (hz : p.vars.length ≤ 1048576) :
    Calls Tryz.prog 128 #[.agg #[.int .i64 p.kind, .int .i64 p.task, .int .i64 p.fn, .int .i64 p.line, .string p.text, v]] w fun e w' =>
      ∃ v', e = .returned (.agg #[.int .i64 p.kind, .int .i64 p.task, .int .i64 p.fn, .int .i64 p.line, .string p.text, v']) ∧ OwVars w' w.heap.size v' p.vars ∧ Below w.heap.size w w' := by
  have HR := Lib.hid hr
  obtain ⟨A, c, rfl, hn, hrow⟩ := hr
  clear hrow
  go_enter Tryz.func128, Tryz.ntmps128
  go_wp2_with fail
  refine (toVars_calls _ p.vars _ (HR.out.later (bl_alloc (bl_alloc (bl_alloc (Below.refl _ _) _) _) _)) hz).mono ?_; rintro e w1 ⟨v1, rfl, ho, hb1⟩
  have hy := ((Blk.made (w.alloc _) _ _).alloc _).later hb1
  have hx := (Blk.made ((w.alloc _).alloc _) _ _).later hb1
  simp only [World.size_alloc] at hx hy ho
  have HO := Lib.hid ho
  have HL := Lib.hid (bl_then (bl_alloc (bl_alloc (bl_alloc (Below.refl _ w) _) _) _) hb1)
  have c0 : w1.cell? ⟨w.heap.size + 1 + 1, 0, none⟩ = some (.int .i64 p.kind) := hx.cell (j := 0) (by simp)
  have c1 : w1.cell? ⟨w.heap.size + 1 + 1, 1, none⟩ = some (.int .i64 p.task) := hx.cell (j := 1) (by simp)
  have c2 : w1.cell? ⟨w.heap.size + 1 + 1, 2, none⟩ = some (.int .i64 p.fn) := hx.cell (j := 2) (by simp)
  have c3 : w1.cell? ⟨w.heap.size + 1 + 1, 3, none⟩ = some (.int .i64 p.line) := hx.cell (j := 3) (by simp)
  have c4 : w1.cell? ⟨w.heap.size + 1 + 1, 4, none⟩ = some (.string p.text) := hx.cell (j := 4) (by simp)
  have c5 : w1.cell? ⟨w.heap.size + 1 + 1, 5, none⟩ = some (.slice none 0 0) := hx.cell (j := 5) (by simp)
  have f5 := hx.free 5
  have d0 : w1.cell? ⟨w.heap.size + 1, 0, none⟩ = some (.int .i64 0) := hy.cell (j := 0) (by simp)
  have d1 : w1.cell? ⟨w.heap.size + 1, 1, none⟩ = some (.int .i64 0) := hy.cell (j := 1) (by simp)
  have d2 : w1.cell? ⟨w.heap.size + 1, 2, none⟩ = some (.int .i64 0) := hy.cell (j := 2) (by simp)
  have d3 : w1.cell? ⟨w.heap.size + 1, 3, none⟩ = some (.int .i64 0) := hy.cell (j := 3) (by simp)
  have d4 : w1.cell? ⟨w.heap.size + 1, 4, none⟩ = some (.string ⟨#[]⟩) := hy.cell (j := 4) (by simp)
  have d5 : w1.cell? ⟨w.heap.size + 1, 5, none⟩ = some (.slice none 0 0) := hy.cell (j := 5) (by simp)
  have e0 := hy.free 0
  have e1 := hy.free 1
  have e2 := hy.free 2
  have e3 := hy.free 3
  have e4 := hy.free 4
  have e5 := hy.free 5
  have HX := Lib.hid hx
  have HY := Lib.hid hy
  clear hx hy hb1 ho
  obtain ⟨g, c', f, rfl, -⟩ := HO.out
  go_wp2
  refine bodyPost_ret (v := .agg #[.int .i64 p.kind, .int .i64 p.task, .int .i64 p.fn, .int .i64 p.line, .string p.text, .slice (some ⟨g, 0, none⟩) p.vars.length c'])
    (by simp [results, Tryz.results128, go_sem, d0, d1, d2, d3, d4, d5]) rfl ⟨_, rfl, ?_, ?_⟩
  · refine OwVars.lower ?_ (lo := w.heap.size + 1 + 1 + 1) (by omega)
    repeat (refine OwVars.far ?_ (by dsimp only; omega) _)
    exact HO.out
  · repeat (refine bl_set ?_ (by dsimp only; omega) _)
    exact HL.out

set_option maxRecDepth 100000 in
set_option maxHeartbeats 1000000 in
theorem toMoments_calls (v : Value) (ms : List PMom) (w : World) (hr : RdMoms w v ms) (hz : smMoms ms) :
    Calls Tryz.prog 55 #[v] w fun e w' => ∃ v', e = .returned v' ∧ OwMoms w' w.heap.size v' ms ∧ Below w.heap.size w w' := by
  obtain ⟨vv, hr, hvv⟩ := hr
  have HR := Lib.hid hr
  have HV := Lib.hid hvv
  have HZ := Lib.hid hz
  obtain ⟨A, c, rfl, hn, hrow⟩ := hr
  have hlen := hz.1
  clear hrow hvv hz
  obtain ⟨C, hC, -, hmk⟩ := make_law (P := Tryz.prog) 24 114 Tryz.underlying24 i_mom ms.length (by omega) (by omega)
  have HC := Lib.hid hC
  clear hC
  go_enter Tryz.func55, Tryz.ntmps55
  go_wp2
  go_loopw [4] (fun i wr => ∃ (k : Nat) (f : Nat → Value), k ≤ ms.length ∧ i = .int .i64 k ∧ Blk wr w.heap.size 114 (ms.length * 6) f ∧
    (∀ j, j < k → momF f j (elt ms j) ∧ OwVars wr (w.heap.size + 1) (f (j * 6 + 5)) (elt ms j).vars) ∧ Below w.heap.size w wr ∧ w.heap.size + 1 ≤ wr.heap.size) (fun i _ => ms.length - (intOf i).toNat)
  case atStart =>
    have h1 := Blk.new w C 114 (fun j => C.getD j undef) (fun j hj => by simp [hj])
    rw [HC.out] at h1
    exact ⟨0, _, Nat.zero_le _, rfl, h1, fun j hj => absurd hj (by omega), bl_alloc (Below.refl _ _) _, by simp⟩
  case round =>
    obtain ⟨k, f, hk, rfl, hB, hf, hb, hsz⟩ := hrel
    have HB := Lib.hid hB
    have HF := Lib.hid hf
    have HL := Lib.hid hb
    by_cases hlt : k < ms.length
    · obtain ⟨A', c', he, _, hrow⟩ := HR.out.later hb
      obtain ⟨rfl, rfl⟩ : A = A' ∧ c = c' := by simpa using he
      obtain ⟨b, o, rfl, hc⟩ := hrow (by omega)
      have hc0 : wr.cell? ⟨b, o + k * 6, none⟩ = some (.int .i64 (elt ms k).kind) := hc k hlt 0 (by omega)
      have hc1 : wr.cell? ⟨b, o + k * 6 + 1, none⟩ = some (.int .i64 (elt ms k).task) := hc k hlt 1 (by omega)
      have hc2 : wr.cell? ⟨b, o + k * 6 + 2, none⟩ = some (.int .i64 (elt ms k).fn) := hc k hlt 2 (by omega)
      have hc3 : wr.cell? ⟨b, o + k * 6 + 3, none⟩ = some (.int .i64 (elt ms k).line) := hc k hlt 3 (by omega)
      have hc4 : wr.cell? ⟨b, o + k * 6 + 4, none⟩ = some (.string (elt ms k).text) := hc k hlt 4 (by omega)
      have hc5 : wr.cell? ⟨b, o + k * 6 + 5, none⟩ = some (vv k) := hc k hlt 5 (by omega)
      clear hc he hrow hB hf hb
      go_wp2_with fail
      refine (toMoment_calls (elt ms k) _ _ ((HV.out k hlt).later HL.out) (HZ.out.2 k hlt).2.1).mono ?_; rintro e w1 ⟨v1, rfl, ho, hb1⟩
      have HB1 := Lib.hid (HB.out.later hb1)
      have HL1 := Lib.hid (bl_then HL.out hb1)
      have HO := Lib.hid (ho.lower hsz)
      have HF1 : Hid (∀ j, j < k → momF f j (elt ms j) ∧ OwVars w1 (w.heap.size + 1) (f (j * 6 + 5)) (elt ms j).vars) := fun j hj => ⟨(HF.out j hj).1, (HF.out j hj).2.later hb1⟩
      have hsz1 : w.heap.size + 1 ≤ w1.heap.size := Nat.le_trans hsz hb1.size
      have x0 := HB1.out.cell (j := k * 6) (by omega)
      have x1 := HB1.out.cell (j := k * 6 + 1) (by omega)
      have x2 := HB1.out.cell (j := k * 6 + 2) (by omega)
      have x3 := HB1.out.cell (j := k * 6 + 3) (by omega)
      have x4 := HB1.out.cell (j := k * 6 + 4) (by omega)
      have x5 := HB1.out.cell (j := k * 6 + 5) (by omega)
      have y0 := HB1.out.free (k * 6)
      have y1 := HB1.out.free (k * 6 + 1)
      have y2 := HB1.out.free (k * 6 + 2)
      have y3 := HB1.out.free (k * 6 + 3)
      have y4 := HB1.out.free (k * 6 + 4)
      have y5 := HB1.out.free (k * 6 + 5)
      obtain ⟨g1, c1, f1, rfl, -⟩ := ho
      clear hb1 hc0 hc1 hc2 hc3 hc4 hc5 HF HL HB hsz
      go_wp2
      go_roundw
      case rel => 
        refine ⟨k + 1, _, by omega, by go_num, (((((HB1.out.set (j := k * 6) (by omega) _).set (j := k * 6 + 1) (by omega) _).set (j := k * 6 + 2) (by omega) _).set (j := k * 6 + 3) (by omega) _).set (j := k * 6 + 4) (by omega) _).set (j := k * 6 + 5) (by omega) _, fun j hj => ?_, ?_, ?_⟩
        · by_cases hjk : j = k
          · subst hjk
            refine ⟨⟨?_, ?_, ?_, ?_, ?_⟩, ?_⟩
            all_goals (repeat (first | rw [upd_same] | rw [upd_ne _ _ (by omega)]))
            repeat (refine OwVars.far ?_ (by dsimp only; omega) _)
            exact HO.out
          · obtain ⟨⟨a0, a1, a2, a3, a4⟩, a5⟩ := HF1.out j (by omega)
            refine ⟨⟨?_, ?_, ?_, ?_, ?_⟩, ?_⟩
            all_goals (repeat (rw [upd_ne _ _ (by omega)]))
            · exact a0
            · exact a1
            · exact a2
            · exact a3
            · exact a4
            · repeat (refine OwVars.far ?_ (by dsimp only; omega) _)
              exact a5
        · repeat (refine bl_set ?_ (by dsimp only; omega) _)
          exact HL1.out
        · simp; exact hsz1
      case measure => simp [intOf]; omega
    · clear hB hf hb
      go_wp2
      go_ret
      exact ⟨_, rfl, ⟨_, _, _, rfl, Nat.le_refl _, HB.out, fun j hj => ⟨(HF.out j (by omega)).1, (HF.out j (by omega)).2.lower (by omega)⟩⟩, HL.out⟩
end Go.Proofs.YtcklnjjbhngbcaaGreatDoor

namespace Go.Proofs.YtcklnjjbhngbcaaGreatDoor
open Go.RowKit Go.Proofs.Lens Go.ChangeShapes Go.WideShapes

theorem RdStops.later {w w' : World} {v : Value} {xs : List PStop} (h : RdStops w v xs) (hb : Below w.heap.size w w') : RdStops w' v xs := RdSl.later h hb
section
variable {H : Type} {enc : TypeId × Value → H} {w : World} {base : Nat} {spare : Nat → Bool} {held : Bool}
end
set_option maxRecDepth 100000 in
set_option maxHeartbeats 400000 in
theorem eqStop_calls (p : PStop) (w : World) :
    Calls Tryz.prog 133 #[.agg #[.int .i64 p.kind, .int .i64 p.fn, .int .i64 p.line, .string p.nm], .agg #[.int .i64 p.kind, .int .i64 p.fn, .int .i64 p.line, .string p.nm]] w fun e w' => e = .returned (.bool true) ∧ Below w.heap.size w w' := by
  go_enter Tryz.func133, Tryz.ntmps133
  go_wp2
  go_ret
  exact ⟨rfl, bl_alloc (bl_alloc (Below.refl _ _) _) _⟩


end Go.Proofs.YtcklnjjbhngbcaaGreatDoor
