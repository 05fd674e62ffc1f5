/- The laws' helpers at lists of stops. (Written by L10.py.) -/
import Derived.Test.YtcklnjjbhngbcaaL9
import Derived.Test.YtcklnjjbhngbcaaL2
namespace Go.Proofs.Ytcklnjjbhngbcaa
open Go.RowKit Go.Proofs.Lens Go.ChangeShapes Go.WideShapes

theorem i_stop : (Try.prog.info? 27).map (fun i => (i.zero, i.size, i.bytes)) = some (some (.agg #[.int .i64 0, .int .i64 0, .int .i64 0, .string ⟨#[]⟩]), 4, 40) := by kernel_rfl
def smStops (ss : List PStop) : Prop := ss.length ≤ 1048576 ∧ ∀ i, i < ss.length → (elt ss i).nm.size ≤ 1048576
theorem RdStops.later {w w' : World} {v : Value} {xs : List PStop} (h : RdStops w v xs) (hb : Below w.heap.size w w') : RdStops w' v xs := RdSl.later h hb
section
variable {H : Type} {enc : TypeId × Value → H} {w : World} {base : Nat} {spare : Nat → Bool} {held : Bool}
set_option maxRecDepth 100000 in
/-- Stops that came in. -/
theorem rd_stops {v : Value} {d : DataW H} {ps : List MemPlace} {r : Reach} {b0 : Nat} (hval : Value.okWide Try.prog w r b0 88 v)
    (h : DataW.Trod enc Try.prog w base spare held 88 v d ps) : ∃ ss : List PStop, RdStops w v ss ∧ ∀ i, i < ss.length → szS (elt ss i).nm := by
  obtain ⟨a, len, cap, rfl⟩ := okWide_slice Try.underlying88 hval
  obtain ⟨fuel, hf⟩ := h
  replace hf : DataW.trod enc Try.prog w base spare held fuel 88 [.slice a len cap] = some (d, ps) := hf
  obtain ⟨v', n, e, f, hr, hx⟩ := row_of_trod Try.underlying88 c_stop (by omega) hf
  have e' : (Value.slice a len cap) = v' := by simpa using e
  subst e'
  obtain ⟨ss, rfl, hp⟩ := exists_list (fun i (p : PStop) => f i 0 = .int .i64 p.kind ∧ f i 1 = .int .i64 p.fn ∧ f i 2 = .int .i64 p.line ∧ f i 3 = .string p.nm ∧ szS p.nm) n (fun i hi => by
    obtain ⟨m, cs', y, hl, hc, ht⟩ := hx i hi
    obtain ⟨p, rfl, hz⟩ := rd_stop1 ht
    exact ⟨p, by simpa using (hc 0 (by omega)).symm, by simpa using (hc 1 (by omega)).symm, by simpa using (hc 2 (by omega)).symm, by simpa using (hc 3 (by omega)).symm, hz⟩)
  refine ⟨ss, RdSl.congr hr fun i hi j hj => ?_, fun i hi => (hp i hi).2.2.2.2⟩
  obtain ⟨h0, h1, h2, h3, _⟩ := hp i hi
  match j, hj with
  | 0, _ => exact h0
  | 1, _ => exact h1
  | 2, _ => exact h2
  | 3, _ => exact h3
end
theorem szStopS_calls (v : Value) (xs : List PStop) (left : Int) (w : World) (hr : RdStops w v xs) (hz : ∀ i, i < xs.length → szS (elt xs i).nm) (h0 : 0 ≤ left) (h1 : left ≤ 1048576) :
    Calls Try.prog 75 #[v, .int .i64 left] w (SzPost left (smStops xs) w) := by
  have HR := Lib.hid hr
  have HZ := Lib.hid hz
  clear hz
  obtain ⟨A, c, rfl, hn, hrow⟩ := hr
  clear hrow
  go_enter Try.func75, Try.ntmps75
  go_wp2
  · go_ret
    exact SzPost.mk (.inl (by omega)) (Below.refl _ _)
  · go_loopw [1, 5] (fun l i wr => ∃ (k : Nat) (r : Int), k ≤ xs.length ∧ i = .int .i64 k ∧ l = .int .i64 r ∧ 0 ≤ r ∧ r ≤ left - xs.length ∧ Below w.heap.size w wr ∧ ∀ j, j < k → (elt xs j).nm.size ≤ 1048576) (fun _ i _ => xs.length - (intOf i).toNat)
    case atStart => exact ⟨0, _, Nat.zero_le _, rfl, rfl, by omega, by omega, Below.refl _ _, fun j hj => absurd hj (by omega)⟩
    case round =>
      obtain ⟨k, r, hk, rfl, rfl, hr0, hr1, hb, hs⟩ := hrel
      have HS := Lib.hid hs
      clear hs
      by_cases hlt : k < xs.length
      · obtain ⟨A', c', he, _, hrow⟩ := HR.out.later hb
        obtain ⟨rfl, rfl⟩ : A = A' ∧ c = c' := by simpa using he
        obtain ⟨b, o, rfl, hc⟩ := hrow (by omega)
        have hc0 : wr.cell? ⟨b, o + k * 4, none⟩ = some (.int .i64 (elt xs k).kind) := hc k hlt 0 (by omega)
        have hc1 : wr.cell? ⟨b, o + k * 4 + 1, none⟩ = some (.int .i64 (elt xs k).fn) := hc k hlt 1 (by omega)
        have hc2 : wr.cell? ⟨b, o + k * 4 + 2, none⟩ = some (.int .i64 (elt xs k).line) := hc k hlt 2 (by omega)
        have hc3 : wr.cell? ⟨b, o + k * 4 + 3, none⟩ = some (.string (elt xs k).nm) := hc k hlt 3 (by omega)
        clear hc he hrow
        have HZ1 := Lib.hid (HZ.out k hlt)
        go_wp2_with (go_at_call 25; refine (szStop_un (elt xs k) _ _ HZ1.out hr0 (by omega)).mono ?_; rintro e w1 ⟨r1, rfl, hr1', hb1⟩)
        · go_ret
          exact SzPost.mk (.inl (by omega)) (bl_then hb hb1)
        · have hq : 0 ≤ r1 ∧ r1 ≤ r ∧ (elt xs k).nm.size ≤ 1048576 := by rcases hr1' with h | h; omega; exact h
          go_roundw
          case rel => exact ⟨k + 1, r1, by omega, by go_num, rfl, hq.1, by omega, bl_then hb hb1, fun j hj => by
            by_cases hjk : j < k
            · exact HS.out j hjk
            · obtain rfl : j = k := by omega
              exact hq.2.2⟩
          case measure => simp [intOf]; omega
      · go_wp2
        go_ret
        exact SzPost.mk (.inr ⟨by omega, by omega, by omega, fun j hj => HS.out j (by omega)⟩) hb
set_option maxRecDepth 100000 in
set_option maxHeartbeats 1000000 in
theorem toStopS_calls (v : Value) (xs : List PStop) (w : World) (hr : RdStops w v xs) (hz : xs.length ≤ 1048576) :
    Calls Try.prog 77 #[v] w fun e w' => ∃ v', e = .returned v' ∧ RdStops w' v' xs ∧ Below w.heap.size w w' := by
  have HR := Lib.hid hr
  obtain ⟨A, c, rfl, hn, hrow⟩ := hr
  clear hrow
  obtain ⟨C, hC, -, hmk⟩ := make_law (P := Try.prog) 77 27 Try.underlying77 i_stop xs.length (by omega) (by omega)
  have HC := Lib.hid hC
  clear hC
  go_enter Try.func77, Try.ntmps77
  go_wp2
  go_loopw [4] (fun i wr => ∃ (k : Nat) (f : Nat → Value), k ≤ xs.length ∧ i = .int .i64 k ∧ Blk wr w.heap.size 27 (xs.length * 4) f ∧
    (∀ j, j < k → f (j * 4) = .int .i64 (elt xs j).kind ∧ f (j * 4 + 1) = .int .i64 (elt xs j).fn ∧ f (j * 4 + 2) = .int .i64 (elt xs j).line ∧ f (j * 4 + 3) = .string (elt xs j).nm) ∧ Below w.heap.size w wr) (fun i _ => xs.length - (intOf i).toNat)
  case atStart =>
    have h1 := Blk.new w C 27 (fun j => C.getD j undef) (fun j hj => by simp [hj])
    rw [HC.out] at h1
    exact ⟨0, _, Nat.zero_le _, rfl, h1, fun j hj => absurd hj (by omega), bl_alloc (Below.refl _ _) _⟩
  case round =>
    obtain ⟨k, f, hk, rfl, hB, hf, hb⟩ := hrel
    have HB := Lib.hid hB
    have HF := Lib.hid hf
    have HL := Lib.hid hb
    by_cases hlt : k < xs.length
    · obtain ⟨A', c', he, _, hrow⟩ := HR.out.later hb
      obtain ⟨rfl, rfl⟩ : A = A' ∧ c = c' := by simpa using he
      obtain ⟨b, o, rfl, hc⟩ := hrow (by omega)
      have hc0 : wr.cell? ⟨b, o + k * 4, none⟩ = some (.int .i64 (elt xs k).kind) := hc k hlt 0 (by omega)
      have hc1 : wr.cell? ⟨b, o + k * 4 + 1, none⟩ = some (.int .i64 (elt xs k).fn) := hc k hlt 1 (by omega)
      have hc2 : wr.cell? ⟨b, o + k * 4 + 2, none⟩ = some (.int .i64 (elt xs k).line) := hc k hlt 2 (by omega)
      have hc3 : wr.cell? ⟨b, o + k * 4 + 3, none⟩ = some (.string (elt xs k).nm) := hc k hlt 3 (by omega)
      clear hc he hrow hB hf hb
      go_wp2_with fail
      refine (toStop_un (elt xs k) _).mono ?_; rintro e w1 ⟨rfl, hb1⟩
      have HB1 := Lib.hid (HB.out.later hb1)
      have HL1 := Lib.hid (bl_then HL.out hb1)
      have hd0 := HB1.out.cell (j := k * 4) (by omega)
      have hd1 := HB1.out.cell (j := k * 4 + 1) (by omega)
      have hd2 := HB1.out.cell (j := k * 4 + 2) (by omega)
      have hd3 := HB1.out.cell (j := k * 4 + 3) (by omega)
      have he0 := HB1.out.free (k * 4)
      have he1 := HB1.out.free (k * 4 + 1)
      have he2 := HB1.out.free (k * 4 + 2)
      have he3 := HB1.out.free (k * 4 + 3)
      clear hb1 hc0 hc1 hc2 hc3
      go_wp2
      go_roundw
      case rel => exact ⟨k + 1, _, by omega, by go_num, (((HB1.out.set (j := k * 4) (by omega) _).set (j := k * 4 + 1) (by omega) _).set (j := k * 4 + 2) (by omega) _).set (j := k * 4 + 3) (by omega) _, fun j hj => by
        by_cases hjk : j = k
        · subst hjk
          refine ⟨?_, ?_, ?_, ?_⟩
          · rw [upd_ne _ _ (by omega), upd_ne _ _ (by omega), upd_ne _ _ (by omega), upd_same]
          · rw [upd_ne _ _ (by omega), upd_ne _ _ (by omega), upd_same]
          · rw [upd_ne _ _ (by omega), upd_same]
          · rw [upd_same]
        · have := HF.out j (by omega)
          refine ⟨?_, ?_, ?_, ?_⟩
          · rw [upd_ne _ _ (by omega), upd_ne _ _ (by omega), upd_ne _ _ (by omega), upd_ne _ _ (by omega)]; exact this.1
          · rw [upd_ne _ _ (by omega), upd_ne _ _ (by omega), upd_ne _ _ (by omega), upd_ne _ _ (by omega)]; exact this.2.1
          · rw [upd_ne _ _ (by omega), upd_ne _ _ (by omega), upd_ne _ _ (by omega), upd_ne _ _ (by omega)]; exact this.2.2.1
          · rw [upd_ne _ _ (by omega), upd_ne _ _ (by omega), upd_ne _ _ (by omega), upd_ne _ _ (by omega)]; exact this.2.2.2,
        bl_set (bl_set (bl_set (bl_set HL1.out (Nat.le_refl _) _) (Nat.le_refl _) _) (Nat.le_refl _) _) (Nat.le_refl _) _⟩
      case measure => simp [intOf]; omega
    · clear hB hf hb
      go_wp2
      go_ret
      refine ⟨_, rfl, ⟨_, _, rfl, by omega, fun _ => ⟨w.heap.size, 0, rfl, fun i hi j hj => ?_⟩⟩, HL.out⟩
      obtain ⟨f0, f1, f2, f3⟩ := HF.out i (by omega)
      rw [Nat.zero_add]
      rw [HB.out.cell (j := i * 4 + j) (by omega)]
      match j, hj with
      | 0, _ => rw [Nat.add_zero, f0]; rfl
      | 1, _ => rw [f1]; rfl
      | 2, _ => rw [f2]; rfl
      | 3, _ => rw [f3]; rfl


set_option maxRecDepth 100000 in
set_option maxHeartbeats 400000 in
theorem eqStop_calls (p : PStop) (w : World) :
    Calls Try.prog 130 #[.agg #[.int .i64 p.kind, .int .i64 p.fn, .int .i64 p.line, .string p.nm], .agg #[.int .i64 p.kind, .int .i64 p.fn, .int .i64 p.line, .string p.nm]] w fun e w' => e = .returned (.bool true) ∧ Below w.heap.size w w' := by
  go_enter Try.func130, Try.ntmps130
  go_wp2
  go_ret
  exact ⟨rfl, bl_alloc (bl_alloc (Below.refl _ _) _) _⟩


set_option maxRecDepth 100000 in
set_option maxHeartbeats 400000 in
theorem eqStops_calls (v1 v2 : Value) (xs : List PStop) (w : World) (h1 : RdStops w v1 xs) (h2 : RdStops w v2 xs) :
    Calls Try.prog 78 #[v1, v2] w fun e w' => e = .returned (.bool true) ∧ Below w.heap.size w w' := by
  have H1 := Lib.hid h1
  have H2 := Lib.hid h2
  obtain ⟨A, c, rfl, hn, hrow⟩ := h1
  obtain ⟨A2, c2, rfl, -, hrow2⟩ := h2
  clear hrow hrow2
  go_enter Try.func78, Try.ntmps78
  go_wp2
  go_loopw [5] (fun i wr => ∃ (k : Nat), k ≤ xs.length ∧ i = .int .i64 k ∧ Below w.heap.size w wr) (fun i _ => xs.length - (intOf i).toNat)
  case atStart => exact ⟨0, Nat.zero_le _, rfl, Below.refl _ _⟩
  case round =>
    obtain ⟨k, hk, rfl, hb⟩ := hrel
    have HL := Lib.hid hb
    by_cases hlt : k < xs.length
    · obtain ⟨A', c', he, _, hrow⟩ := H1.out.later hb
      obtain ⟨rfl, rfl⟩ : A = A' ∧ c = c' := by simpa using he
      obtain ⟨b, o, rfl, hc⟩ := hrow (by omega)
      obtain ⟨A', c', he', _, hrow'⟩ := H2.out.later hb
      obtain ⟨rfl, rfl⟩ : A2 = A' ∧ c2 = c' := by simpa using he'
      obtain ⟨b2, o2, rfl, hc2⟩ := hrow' (by omega)
      have x0 : wr.cell? ⟨b, o + k * 4, none⟩ = some (.int .i64 (elt xs k).kind) := hc k hlt 0 (by omega)
      have x1 : wr.cell? ⟨b, o + k * 4 + 1, none⟩ = some (.int .i64 (elt xs k).fn) := hc k hlt 1 (by omega)
      have x2 : wr.cell? ⟨b, o + k * 4 + 2, none⟩ = some (.int .i64 (elt xs k).line) := hc k hlt 2 (by omega)
      have x3 : wr.cell? ⟨b, o + k * 4 + 3, none⟩ = some (.string (elt xs k).nm) := hc k hlt 3 (by omega)
      have y0 : wr.cell? ⟨b2, o2 + k * 4, none⟩ = some (.int .i64 (elt xs k).kind) := hc2 k hlt 0 (by omega)
      have y1 : wr.cell? ⟨b2, o2 + k * 4 + 1, none⟩ = some (.int .i64 (elt xs k).fn) := hc2 k hlt 1 (by omega)
      have y2 : wr.cell? ⟨b2, o2 + k * 4 + 2, none⟩ = some (.int .i64 (elt xs k).line) := hc2 k hlt 2 (by omega)
      have y3 : wr.cell? ⟨b2, o2 + k * 4 + 3, none⟩ = some (.string (elt xs k).nm) := hc2 k hlt 3 (by omega)
      clear hc hc2 he he' hrow hrow' hb
      go_wp2_with fail
      go_still_tail 8, (by kernel_rfl)
      go_wp2_with fail
      refine (eqStop_calls (elt xs k) _).mono ?_; rintro e w1 ⟨rfl, hb1⟩
      have HL1 := Lib.hid (bl_then (bl_drew HL.out) hb1)
      clear hb1
      go_wp2
      go_roundw
      case rel => exact ⟨k + 1, by omega, by go_num, HL1.out⟩
      case measure => simp [intOf]; omega
    · clear hb
      go_wp2
      go_ret
      exact ⟨rfl, HL.out⟩

end Go.Proofs.Ytcklnjjbhngbcaa
