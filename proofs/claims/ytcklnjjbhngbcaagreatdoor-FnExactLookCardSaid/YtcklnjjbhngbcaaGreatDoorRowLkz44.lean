/- Lemmas and contracts of functions that the theorem of this claim leans on (texts L15). -/
import Derived.Test.YtcklnjjbhngbcaaGreatDoorRowLkz43
import Derived.Test.YtcklnjjbhngbcaaGreatDoorRowLkz04
namespace Go.Proofs.YtcklnjjbhngbcaaGreatDoor
open Go.RowKit Go.Proofs.Lens Go.ChangeShapes Go.WideShapes

theorem i_ask : (Tryz.prog.info? 47).map (fun i => (i.zero, i.size, i.bytes)) = some (some (.agg #[.int .i64 0, .int .i64 0, .string ⟨#[]⟩, .int .i64 0, .int .i64 0, .int .i64 0, .string ⟨#[]⟩]), 7, 72) := by kernel_rfl
theorem c_ask : Tryz.prog.cellsOf 120 = 7 := by kernel_rfl
def szAsk (a : PAsk) : Prop := szS a.nm ∧ szS a.stop.nm
def smAsk (a : PAsk) : Prop := a.nm.size ≤ 1048576 ∧ a.stop.nm.size ≤ 1048576
def smAsks (xs : List PAsk) : Prop := xs.length ≤ 1048576 ∧ ∀ i, i < xs.length → smAsk (elt xs i)
/-- Asks in a block of their own. -/
def AskOw (w : World) (lo : Nat) (v : Value) (xs : List PAsk) : Prop := ∃ b f, v = .slice (some ⟨b, 0, none⟩) xs.length xs.length ∧ lo ≤ b ∧ xs.length ≤ 1048576 ∧ Blk w b 47 (xs.length * 7) f ∧ ∀ i, i < xs.length → ∀ j, j < 7 → f (i * 7 + j) = askC xs i j
theorem AskOw.rd {w : World} {lo : Nat} {v : Value} {xs : List PAsk} (h : AskOw w lo v xs) : RdAsks w v xs := by
  obtain ⟨b, f, rfl, h1, h2, h3, h4⟩ := h
  have hO : OwR w lo 47 7 xs.length (askC xs) (.slice (some ⟨b, 0, none⟩) xs.length xs.length) := .inr ⟨b, xs.length, f, rfl, h1, Nat.le_refl _, by simp only [maxLen]; omega, h3, h4⟩
  exact hO.rd
theorem AskOw.later {w w' : World} {lo : Nat} {v : Value} {xs : List PAsk} (h : AskOw w lo v xs) (hb : Below w.heap.size w w') : AskOw w' lo v xs := by
  obtain ⟨b, f, e, h1, h2, h3, h4⟩ := h
  exact ⟨b, f, e, h1, h2, h3.later hb, h4⟩
section
variable {H : Type} {enc : TypeId × Value → H} {w : World} {base : Nat} {spare : Nat → Bool} {held : Bool} {fuel : Nat} {cs : List Value} {x : DataW H × List MemPlace}
theorem rd_ask1 (h : DataW.trod enc Tryz.prog w base spare held fuel 120 cs = some x) :
    ∃ p : PAsk, cs = [.int .i64 p.op, .int .i64 p.n, .string p.nm, .int .i64 p.stop.kind, .int .i64 p.stop.fn, .int .i64 p.stop.line, .string p.stop.nm] ∧ szAsk p := by
  have hl := len_of_struct Tryz.underlying120 h
  rw [c_ask] at hl
  match cs, hl with
  | [v0, v1, v2, v3, v4, v5, v6], _ =>
    obtain ⟨n0, y0, h0⟩ := field1 Tryz.underlying120 h 0 _ rfl c_int rfl
    obtain ⟨n1, y1, h1⟩ := field1 Tryz.underlying120 h 1 _ rfl c_int rfl
    obtain ⟨n2, y2, h2⟩ := field1 Tryz.underlying120 h 2 _ rfl c_str rfl
    obtain ⟨n3, y3, h3⟩ := fieldN Tryz.underlying120 h 3 _ rfl
    replace h3 : DataW.trod enc Tryz.prog w base spare held n3 118 ((List.drop 3 [v0, v1, v2, v3, v4, v5, v6]).take (Tryz.prog.cellsOf 118)) = some y3 := h3
    rw [c_stop] at h3
    obtain ⟨o, e0, _, _⟩ := DataW.trod_int Tryz.underlying3 h0
    obtain ⟨m, e1, _, _⟩ := DataW.trod_int Tryz.underlying3 h1
    obtain ⟨s, e2, _, z2⟩ := DataW.trod_string Tryz.underlying9 h2
    obtain ⟨p, e3', z3⟩ := rd_stop1 h3
    simp only [List.cons.injEq, and_true] at e0 e1 e2
    have e3 : [v3, v4, v5, v6] = _ := e3'
    clear e3' h3
    simp only [List.cons.injEq, and_true] at e3
    obtain ⟨e3, e4, e5, e6⟩ := e3
    subst e0 e1 e2 e3 e4 e5 e6
    exact ⟨⟨o, m, s, p⟩, rfl, z2, z3⟩
set_option maxRecDepth 100000 in
/-- Asks that came in. -/
theorem rd_asks {v : Value} {d : DataW H} {ps : List MemPlace} {r : Reach} {b0 : Nat} (hval : Value.okWide Tryz.prog w r b0 51 v)
    (h : DataW.Trod enc Tryz.prog w base spare held 51 v d ps) : ∃ xs : List PAsk, RdAsks w v xs ∧ ∀ i, i < xs.length → szAsk (elt xs i) := by
  obtain ⟨a, len, cap, rfl⟩ := okWide_slice Tryz.underlying51 hval
  obtain ⟨fuel, hf⟩ := h
  replace hf : DataW.trod enc Tryz.prog w base spare held fuel 51 [.slice a len cap] = some (d, ps) := hf
  obtain ⟨v', n, e, f, hr, hx⟩ := row_of_trod Tryz.underlying51 c_ask (by omega) hf
  have e' : (Value.slice a len cap) = v' := by simpa using e
  subst e'
  obtain ⟨ss, rfl, hp⟩ := exists_list (fun i (p : PAsk) => f i 0 = .int .i64 p.op ∧ f i 1 = .int .i64 p.n ∧ f i 2 = .string p.nm ∧ f i 3 = .int .i64 p.stop.kind ∧ f i 4 = .int .i64 p.stop.fn ∧ f i 5 = .int .i64 p.stop.line ∧ f i 6 = .string p.stop.nm ∧ szAsk p) n (fun i hi => by
    obtain ⟨m, cs', y, hl, hc, ht⟩ := hx i hi
    obtain ⟨p, rfl, hz⟩ := rd_ask1 ht
    exact ⟨p, by simpa using (hc 0 (by omega)).symm, by simpa using (hc 1 (by omega)).symm, by simpa using (hc 2 (by omega)).symm, by simpa using (hc 3 (by omega)).symm, by simpa using (hc 4 (by omega)).symm, by simpa using (hc 5 (by omega)).symm, by simpa using (hc 6 (by omega)).symm, hz⟩)
  refine ⟨ss, RdSl.congr hr fun i hi j hj => ?_, fun i hi => (hp i hi).2.2.2.2.2.2.2⟩
  obtain ⟨h0, h1, h2, h3, h4, h5, h6, _⟩ := hp i hi
  match j, hj with
  | 0, _ => exact h0
  | 1, _ => exact h1
  | 2, _ => exact h2
  | 3, _ => exact h3
  | 4, _ => exact h4
  | 5, _ => exact h5
  | 6, _ => exact h6
end
set_option maxRecDepth 100000 in
set_option maxHeartbeats 1000000 in
theorem szAsk_calls (p : PAsk) (left : Int) (w : World) (hz : szAsk p) (h0 : 0 ≤ left) (h1 : left ≤ 1048576) :
    Calls Tryz.prog 53 #[.agg #[.int .i64 p.op, .int .i64 p.n, .string p.nm, .int .i64 p.stop.kind, .int .i64 p.stop.fn, .int .i64 p.stop.line, .string p.stop.nm], .int .i64 left] w (SzPost left (smAsk p) w) := by
  obtain ⟨hz0, hz1⟩ := hz
  have hz2 := hz0
  have hz3 := hz1
  unfold szS at hz2 hz3
  go_enter Tryz.func53, Tryz.ntmps53
  go_wp2_with (go_at_call 127; refine (szStop_un p.stop _ _ hz1 (by omega) (by omega)).mono ?_; rintro e w1 ⟨r1, rfl, hr1', hb1⟩)
  all_goals first
    | (go_ret
       exact SzPost.mk (.inl (by omega)) (bl_alloc (Below.refl _ _) _))
    | (go_ret
       exact SzPost.mk (.inl (by omega)) (bl_then (bl_alloc (Below.refl _ _) _) hb1))
    | (go_ret
       exact SzPost.mk (.inr ⟨by omega, by omega, by omega, by omega⟩) (bl_then (bl_alloc (Below.refl _ _) _) hb1))
set_option maxRecDepth 100000 in
set_option maxHeartbeats 1000000 in
theorem szAskS_calls (v : Value) (xs : List PAsk) (left : Int) (w : World) (hr : RdAsks w v xs) (hz : ∀ i, i < xs.length → szAsk (elt xs i)) (h0 : 0 ≤ left) (h1 : left ≤ 1048576) :
    Calls Tryz.prog 16 #[v, .int .i64 left] w (SzPost left (smAsks xs) w) := by
  have HR := Lib.hid hr
  have HZ := Lib.hid hz
  clear hz
  obtain ⟨A, c, rfl, hn, hrow⟩ := hr
  clear hrow
  go_enter Tryz.func16, Tryz.ntmps16
  go_wp2
  · go_ret
    exact SzPost.mk (.inl (by omega)) (Below.refl _ _)
  · go_loopw [1, 5] (fun l i wr => ∃ (k : Nat) (r : Int), k ≤ xs.length ∧ i = .int .i64 k ∧ l = .int .i64 r ∧ 0 ≤ r ∧ r ≤ left - xs.length ∧ Below w.heap.size w wr ∧ ∀ j, j < k → smAsk (elt xs j)) (fun _ i _ => xs.length - (intOf i).toNat)
    case atStart => exact ⟨0, _, Nat.zero_le _, rfl, rfl, by omega, by omega, Below.refl _ _, fun j hj => absurd hj (by omega)⟩
    case round =>
      obtain ⟨k, r, hk, rfl, rfl, hr0, hr1, hb, hs⟩ := hrel
      have HS := Lib.hid hs
      clear hs
      by_cases hlt : k < xs.length
      · obtain ⟨A', c', he, _, hrow⟩ := HR.out.later hb
        obtain ⟨rfl, rfl⟩ : A = A' ∧ c = c' := by simpa using he
        obtain ⟨b, o, rfl, hc⟩ := hrow (by omega)
        have hc0 : wr.cell? ⟨b, o + k * 7, none⟩ = some (.int .i64 (elt xs k).op) := hc k hlt 0 (by omega)
        have hc1 : wr.cell? ⟨b, o + k * 7 + 1, none⟩ = some (.int .i64 (elt xs k).n) := hc k hlt 1 (by omega)
        have hc2 : wr.cell? ⟨b, o + k * 7 + 2, none⟩ = some (.string (elt xs k).nm) := hc k hlt 2 (by omega)
        have hc3 : wr.cell? ⟨b, o + k * 7 + 3, none⟩ = some (.int .i64 (elt xs k).stop.kind) := hc k hlt 3 (by omega)
        have hc4 : wr.cell? ⟨b, o + k * 7 + 4, none⟩ = some (.int .i64 (elt xs k).stop.fn) := hc k hlt 4 (by omega)
        have hc5 : wr.cell? ⟨b, o + k * 7 + 5, none⟩ = some (.int .i64 (elt xs k).stop.line) := hc k hlt 5 (by omega)
        have hc6 : wr.cell? ⟨b, o + k * 7 + 6, none⟩ = some (.string (elt xs k).stop.nm) := hc k hlt 6 (by omega)
        clear hc he hrow
        have HZ1 := Lib.hid (HZ.out k hlt)
        go_wp2_with (go_at_call 53; refine (szAsk_calls (elt xs k) _ _ HZ1.out hr0 (by omega)).mono ?_; rintro e w1 ⟨r1, rfl, hr1', hb1⟩)
        · go_ret
          exact SzPost.mk (.inl (by omega)) (bl_then hb hb1)
        · have hq : 0 ≤ r1 ∧ r1 ≤ r ∧ smAsk (elt xs k) := by rcases hr1' with h | h; omega; exact h
          go_roundw
          case rel => exact ⟨k + 1, r1, by omega, by go_num, rfl, hq.1, by omega, bl_then hb hb1, fun j hj => by
            by_cases hjk : j < k
            · exact HS.out j hjk
            · obtain rfl : j = k := by omega
              exact hq.2.2⟩
          case measure => simp [intOf]; omega
      · go_wp2
        go_ret
        exact SzPost.mk (.inr ⟨by omega, by omega, by omega, fun j hj => HS.out j (by omega)⟩) hb
set_option maxRecDepth 100000 in
set_option maxHeartbeats 1000000 in
theorem toAsk_calls (p : PAsk) (w : World) : Calls Tryz.prog 56 #[.agg #[.int .i64 p.op, .int .i64 p.n, .string p.nm, .int .i64 p.stop.kind, .int .i64 p.stop.fn, .int .i64 p.stop.line, .string p.stop.nm]] w fun e w' => e = .returned (.agg #[.int .i64 p.op, .int .i64 p.n, .string p.nm, .int .i64 p.stop.kind, .int .i64 p.stop.fn, .int .i64 p.stop.line, .string p.stop.nm]) ∧ Below w.heap.size w w' := by
  have hB2 := ((Blk.made (w.alloc (.cells #[.int .i64 p.op, .int .i64 p.n, .string p.nm, .int .i64 p.stop.kind, .int .i64 p.stop.fn, .int .i64 p.stop.line, .string p.stop.nm] 120)) #[.int .i64 0, .int .i64 0, .string ⟨#[]⟩, .int .i64 0, .int .i64 0, .int .i64 0, .string ⟨#[]⟩] 47).alloc (.cells #[.int .i64 p.op, .int .i64 p.n, .string p.nm, .int .i64 0, .int .i64 0, .int .i64 0, .string ⟨#[]⟩] 47))
  have hB3 := (Blk.made ((w.alloc (.cells #[.int .i64 p.op, .int .i64 p.n, .string p.nm, .int .i64 p.stop.kind, .int .i64 p.stop.fn, .int .i64 p.stop.line, .string p.stop.nm] 120)).alloc (.cells #[.int .i64 0, .int .i64 0, .string ⟨#[]⟩, .int .i64 0, .int .i64 0, .int .i64 0, .string ⟨#[]⟩] 47)) #[.int .i64 p.op, .int .i64 p.n, .string p.nm, .int .i64 0, .int .i64 0, .int .i64 0, .string ⟨#[]⟩] 47)
  have hbl := bl_alloc (bl_alloc (bl_alloc (Below.refl _ w) (.cells #[.int .i64 p.op, .int .i64 p.n, .string p.nm, .int .i64 p.stop.kind, .int .i64 p.stop.fn, .int .i64 p.stop.line, .string p.stop.nm] 120)) (.cells #[.int .i64 0, .int .i64 0, .string ⟨#[]⟩, .int .i64 0, .int .i64 0, .int .i64 0, .string ⟨#[]⟩] 47)) (.cells #[.int .i64 p.op, .int .i64 p.n, .string p.nm, .int .i64 0, .int .i64 0, .int .i64 0, .string ⟨#[]⟩] 47)
  simp only [World.size_alloc] at hB2 hB3
  have H2 := Lib.hid hB2
  have H3 := Lib.hid hB3
  have HL := Lib.hid hbl
  clear hB2 hB3 hbl
  go_enter Tryz.func56, Tryz.ntmps56
  go_wp2_with fail
  refine (toStop_un p.stop _).mono ?_; rintro e w1 ⟨rfl, hb⟩
  replace H2 := Lib.hid (H2.out.later hb)
  replace H3 := Lib.hid (H3.out.later hb)
  replace HL := Lib.hid (bl_then HL.out hb)
  clear hb
  have x0 : w1.cell? ⟨w.heap.size + 1 + 1, 0, none⟩ = some (.int .i64 p.op) := H3.out.cell (j := 0) (by simp)
  have x1 : w1.cell? ⟨w.heap.size + 1 + 1, 1, none⟩ = some (.int .i64 p.n) := H3.out.cell (j := 1) (by simp)
  have x2 : w1.cell? ⟨w.heap.size + 1 + 1, 2, none⟩ = some (.string p.nm) := H3.out.cell (j := 2) (by simp)
  have x3 : w1.cell? ⟨w.heap.size + 1 + 1, 3, none⟩ = some (.int .i64 0) := H3.out.cell (j := 3) (by simp)
  have x4 : w1.cell? ⟨w.heap.size + 1 + 1, 4, none⟩ = some (.int .i64 0) := H3.out.cell (j := 4) (by simp)
  have x5 : w1.cell? ⟨w.heap.size + 1 + 1, 5, none⟩ = some (.int .i64 0) := H3.out.cell (j := 5) (by simp)
  have x6 : w1.cell? ⟨w.heap.size + 1 + 1, 6, none⟩ = some (.string ⟨#[]⟩) := H3.out.cell (j := 6) (by simp)
  have z3 := H3.out.free 3
  have z4 := H3.out.free 4
  have z5 := H3.out.free 5
  have z6 := H3.out.free 6
  have y0 : w1.cell? ⟨w.heap.size + 1, 0, none⟩ = some (.int .i64 0) := H2.out.cell (j := 0) (by simp)
  have y1 : w1.cell? ⟨w.heap.size + 1, 1, none⟩ = some (.int .i64 0) := H2.out.cell (j := 1) (by simp)
  have y2 : w1.cell? ⟨w.heap.size + 1, 2, none⟩ = some (.string ⟨#[]⟩) := H2.out.cell (j := 2) (by simp)
  have y3 : w1.cell? ⟨w.heap.size + 1, 3, none⟩ = some (.int .i64 0) := H2.out.cell (j := 3) (by simp)
  have y4 : w1.cell? ⟨w.heap.size + 1, 4, none⟩ = some (.int .i64 0) := H2.out.cell (j := 4) (by simp)
  have y5 : w1.cell? ⟨w.heap.size + 1, 5, none⟩ = some (.int .i64 0) := H2.out.cell (j := 5) (by simp)
  have y6 : w1.cell? ⟨w.heap.size + 1, 6, none⟩ = some (.string ⟨#[]⟩) := H2.out.cell (j := 6) (by simp)
  have v0 := H2.out.free 0
  have v1 := H2.out.free 1
  have v2 := H2.out.free 2
  have v3 := H2.out.free 3
  have v4 := H2.out.free 4
  have v5 := H2.out.free 5
  have v6 := H2.out.free 6
  go_wp2_with fail
  refine bodyPost_ret (v := .agg #[.int .i64 p.op, .int .i64 p.n, .string p.nm, .int .i64 p.stop.kind, .int .i64 p.stop.fn, .int .i64 p.stop.line, .string p.stop.nm]) (by simp [results, Tryz.results56, go_sem, y0, y1, y2, y3, y4, y5, y6]) rfl ⟨rfl, ?_⟩
  repeat (with_reducible first | exact HL.out | refine bl_set ?_ (by dsimp only; omega) _)
set_option maxRecDepth 100000 in
set_option maxHeartbeats 2000000 in
theorem toAskS_calls (v : Value) (xs : List PAsk) (w : World) (hr : RdAsks w v xs) (hz : xs.length ≤ 1048576) :
    Calls Tryz.prog 18 #[v] w fun e w' => ∃ v', e = .returned v' ∧ AskOw w' w.heap.size v' xs ∧ Below w.heap.size w w' := by
  have HR := Lib.hid hr
  obtain ⟨A, c, rfl, hn, hrow⟩ := hr
  clear hrow
  obtain ⟨C, hC, -, hmk⟩ := make_law (P := Tryz.prog) 28 47 Tryz.underlying28 i_ask xs.length (by omega) (by omega)
  have HC := Lib.hid hC
  clear hC
  go_enter Tryz.func18, Tryz.ntmps18
  go_wp2
  go_loopw [4] (fun i wr => ∃ (k : Nat) (f : Nat → Value), k ≤ xs.length ∧ i = .int .i64 k ∧ Blk wr w.heap.size 47 (xs.length * 7) f ∧
    (∀ i, i < k → ∀ j, j < 7 → f (i * 7 + j) = askC xs i j) ∧ Below w.heap.size w wr) (fun i _ => xs.length - (intOf i).toNat)
  case atStart =>
    have h1 := Blk.new w C 47 (fun j => C.getD j undef) (fun j hj => by simp [hj])
    rw [HC.out] at h1
    exact ⟨0, _, Nat.zero_le _, rfl, h1, fun j hj => absurd hj (by omega), bl_alloc (Below.refl _ _) _⟩
  case round =>
    obtain ⟨k, f, hk, rfl, hB, hf, hb⟩ := hrel
    have HB := Lib.hid hB
    have HF := Lib.hid hf
    have HL := Lib.hid hb
    by_cases hlt : k < xs.length
    · obtain ⟨A', c', he, _, hrow⟩ := HR.out.later hb
      obtain ⟨rfl, rfl⟩ : A = A' ∧ c = c' := by simpa using he
      obtain ⟨b, o, rfl, hc⟩ := hrow (by omega)
      have hc0 : wr.cell? ⟨b, o + k * 7, none⟩ = some (.int .i64 (elt xs k).op) := hc k hlt 0 (by omega)
      have hc1 : wr.cell? ⟨b, o + k * 7 + 1, none⟩ = some (.int .i64 (elt xs k).n) := hc k hlt 1 (by omega)
      have hc2 : wr.cell? ⟨b, o + k * 7 + 2, none⟩ = some (.string (elt xs k).nm) := hc k hlt 2 (by omega)
      have hc3 : wr.cell? ⟨b, o + k * 7 + 3, none⟩ = some (.int .i64 (elt xs k).stop.kind) := hc k hlt 3 (by omega)
      have hc4 : wr.cell? ⟨b, o + k * 7 + 4, none⟩ = some (.int .i64 (elt xs k).stop.fn) := hc k hlt 4 (by omega)
      have hc5 : wr.cell? ⟨b, o + k * 7 + 5, none⟩ = some (.int .i64 (elt xs k).stop.line) := hc k hlt 5 (by omega)
      have hc6 : wr.cell? ⟨b, o + k * 7 + 6, none⟩ = some (.string (elt xs k).stop.nm) := hc k hlt 6 (by omega)
      clear hc he hrow hB hf hb
      go_wp2_with fail
      refine (toAsk_calls (elt xs k) _).mono ?_; rintro e w1 ⟨rfl, hb1⟩
      have HB1 := Lib.hid (HB.out.later hb1)
      have HL1 := Lib.hid (bl_then HL.out hb1)
      have hd0 := HB1.out.cell (j := k * 7) (by omega)
      have hd1 := HB1.out.cell (j := k * 7 + 1) (by omega)
      have hd2 := HB1.out.cell (j := k * 7 + 2) (by omega)
      have hd3 := HB1.out.cell (j := k * 7 + 3) (by omega)
      have hd4 := HB1.out.cell (j := k * 7 + 4) (by omega)
      have hd5 := HB1.out.cell (j := k * 7 + 5) (by omega)
      have hd6 := HB1.out.cell (j := k * 7 + 6) (by omega)
      have he0 := HB1.out.free (k * 7)
      have he1 := HB1.out.free (k * 7 + 1)
      have he2 := HB1.out.free (k * 7 + 2)
      have he3 := HB1.out.free (k * 7 + 3)
      have he4 := HB1.out.free (k * 7 + 4)
      have he5 := HB1.out.free (k * 7 + 5)
      have he6 := HB1.out.free (k * 7 + 6)
      clear hb1 hc0 hc1 hc2 hc3 hc4 hc5 hc6
      go_wp2
      go_roundw
      case rel => exact ⟨k + 1, _, by omega, by go_num, (((((((HB1.out.set (j := k * 7) (by omega) _).set (j := k * 7 + 1) (by omega) _).set (j := k * 7 + 2) (by omega) _).set (j := k * 7 + 3) (by omega) _).set (j := k * 7 + 4) (by omega) _).set (j := k * 7 + 5) (by omega) _).set (j := k * 7 + 6) (by omega) _), fun i hi j hj => by
        by_cases hik : i = k
        · subst hik
          match j, hj with
          | 0, _ => simp only [Nat.add_zero]; rw [upd_ne _ _ (by omega), upd_ne _ _ (by omega), upd_ne _ _ (by omega), upd_ne _ _ (by omega), upd_ne _ _ (by omega), upd_ne _ _ (by omega), upd_same]; rfl
          | 1, _ => rw [upd_ne _ _ (by omega), upd_ne _ _ (by omega), upd_ne _ _ (by omega), upd_ne _ _ (by omega), upd_ne _ _ (by omega), upd_same]; rfl
          | 2, _ => rw [upd_ne _ _ (by omega), upd_ne _ _ (by omega), upd_ne _ _ (by omega), upd_ne _ _ (by omega), upd_same]; rfl
          | 3, _ => rw [upd_ne _ _ (by omega), upd_ne _ _ (by omega), upd_ne _ _ (by omega), upd_same]; rfl
          | 4, _ => rw [upd_ne _ _ (by omega), upd_ne _ _ (by omega), upd_same]; rfl
          | 5, _ => rw [upd_ne _ _ (by omega), upd_same]; rfl
          | 6, _ => rw [upd_same]; rfl
        · rw [upd_ne _ _ (by omega), upd_ne _ _ (by omega), upd_ne _ _ (by omega), upd_ne _ _ (by omega), upd_ne _ _ (by omega), upd_ne _ _ (by omega), upd_ne _ _ (by omega)]
          exact HF.out i (by omega) j hj,
        bl_set (bl_set (bl_set (bl_set (bl_set (bl_set (bl_set HL1.out (Nat.le_refl _) _) (Nat.le_refl _) _) (Nat.le_refl _) _) (Nat.le_refl _) _) (Nat.le_refl _) _) (Nat.le_refl _) _) (Nat.le_refl _) _⟩
      case measure => simp [intOf]; omega
    · clear hB hf hb
      go_wp2
      go_ret
      obtain rfl : k = xs.length := by omega
      exact ⟨_, rfl, ⟨w.heap.size, f, rfl, Nat.le_refl _, hz, HB.out, HF.out⟩, HL.out⟩
set_option maxRecDepth 100000 in
set_option maxHeartbeats 1000000 in
theorem eqAsk_calls (p : PAsk) (w : World) :
    Calls Tryz.prog 60 #[.agg #[.int .i64 p.op, .int .i64 p.n, .string p.nm, .int .i64 p.stop.kind, .int .i64 p.stop.fn, .int .i64 p.stop.line, .string p.stop.nm], .agg #[.int .i64 p.op, .int .i64 p.n, .string p.nm, .int .i64 p.stop.kind, .int .i64 p.stop.fn, .int .i64 p.stop.line, .string p.stop.nm]] w fun e w' => e = .returned (.bool true) ∧ Below w.heap.size w w' := by
  go_enter Tryz.func60, Tryz.ntmps60
  go_wp2_with (go_at_call 133; refine (eqStop_calls p.stop _).mono ?_; rintro e w1 ⟨rfl, hb1⟩)
  go_ret
  exact ⟨rfl, bl_then (bl_alloc (bl_alloc (Below.refl _ _) _) _) hb1⟩
set_option maxRecDepth 100000 in
set_option maxHeartbeats 2000000 in
theorem eqAskS_calls (v1 v2 : Value) (xs : List PAsk) (w : World) (h1 : RdAsks w v1 xs) (h2 : RdAsks w v2 xs) :
    Calls Tryz.prog 21 #[v1, v2] w fun e w' => e = .returned (.bool true) ∧ Below w.heap.size w w' := by
  have H1 := Lib.hid h1
  have H2 := Lib.hid h2
  obtain ⟨A, c, rfl, hn, hrow⟩ := h1
  obtain ⟨A2, c2, rfl, -, hrow2⟩ := h2
  clear hrow hrow2
  go_enter Tryz.func21, Tryz.ntmps21
  go_wp2
  go_loopw [5] (fun i wr => ∃ (k : Nat), k ≤ xs.length ∧ i = .int .i64 k ∧ Below w.heap.size w wr) (fun i _ => xs.length - (intOf i).toNat)
  case atStart => exact ⟨0, Nat.zero_le _, rfl, Below.refl _ _⟩
  case round =>
    obtain ⟨k, hk, rfl, hb⟩ := hrel
    have HL := Lib.hid hb
    by_cases hlt : k < xs.length
    · obtain ⟨A', c', he, _, hrow⟩ := H1.out.later hb
      obtain ⟨rfl, rfl⟩ : A = A' ∧ c = c' := by simpa using he
      obtain ⟨b, o, rfl, hc⟩ := hrow (by omega)
      obtain ⟨A', c', he', _, hrow'⟩ := H2.out.later hb
      obtain ⟨rfl, rfl⟩ : A2 = A' ∧ c2 = c' := by simpa using he'
      obtain ⟨b2, o2, rfl, hc2⟩ := hrow' (by omega)
      have x0 : wr.cell? ⟨b, o + k * 7, none⟩ = some (.int .i64 (elt xs k).op) := hc k hlt 0 (by omega)
      have x1 : wr.cell? ⟨b, o + k * 7 + 1, none⟩ = some (.int .i64 (elt xs k).n) := hc k hlt 1 (by omega)
      have x2 : wr.cell? ⟨b, o + k * 7 + 2, none⟩ = some (.string (elt xs k).nm) := hc k hlt 2 (by omega)
      have x3 : wr.cell? ⟨b, o + k * 7 + 3, none⟩ = some (.int .i64 (elt xs k).stop.kind) := hc k hlt 3 (by omega)
      have x4 : wr.cell? ⟨b, o + k * 7 + 4, none⟩ = some (.int .i64 (elt xs k).stop.fn) := hc k hlt 4 (by omega)
      have x5 : wr.cell? ⟨b, o + k * 7 + 5, none⟩ = some (.int .i64 (elt xs k).stop.line) := hc k hlt 5 (by omega)
      have x6 : wr.cell? ⟨b, o + k * 7 + 6, none⟩ = some (.string (elt xs k).stop.nm) := hc k hlt 6 (by omega)
      have y0 : wr.cell? ⟨b2, o2 + k * 7, none⟩ = some (.int .i64 (elt xs k).op) := hc2 k hlt 0 (by omega)
      have y1 : wr.cell? ⟨b2, o2 + k * 7 + 1, none⟩ = some (.int .i64 (elt xs k).n) := hc2 k hlt 1 (by omega)
      have y2 : wr.cell? ⟨b2, o2 + k * 7 + 2, none⟩ = some (.string (elt xs k).nm) := hc2 k hlt 2 (by omega)
      have y3 : wr.cell? ⟨b2, o2 + k * 7 + 3, none⟩ = some (.int .i64 (elt xs k).stop.kind) := hc2 k hlt 3 (by omega)
      have y4 : wr.cell? ⟨b2, o2 + k * 7 + 4, none⟩ = some (.int .i64 (elt xs k).stop.fn) := hc2 k hlt 4 (by omega)
      have y5 : wr.cell? ⟨b2, o2 + k * 7 + 5, none⟩ = some (.int .i64 (elt xs k).stop.line) := hc2 k hlt 5 (by omega)
      have y6 : wr.cell? ⟨b2, o2 + k * 7 + 6, none⟩ = some (.string (elt xs k).stop.nm) := hc2 k hlt 6 (by omega)
      clear hc hc2 he he' hrow hrow' hb
      go_wp2_with fail
      go_still_tail 8, (by kernel_rfl)
      go_wp2_with fail
      refine (eqAsk_calls (elt xs k) _).mono ?_; rintro e w1 ⟨rfl, hb1⟩
      have HL1 := Lib.hid (bl_then (bl_drew HL.out) hb1)
      clear hb1
      go_wp2
      go_roundw
      case rel => exact ⟨k + 1, by omega, by go_num, HL1.out⟩
      case measure => simp [intOf]; omega
    · clear hb
      go_wp2
      go_ret
      exact ⟨rfl, HL.out⟩
end Go.Proofs.YtcklnjjbhngbcaaGreatDoor
