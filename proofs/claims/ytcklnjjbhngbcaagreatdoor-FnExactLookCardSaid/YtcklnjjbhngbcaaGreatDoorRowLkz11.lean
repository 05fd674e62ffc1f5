/- Lemmas and contracts of functions that the theorem of this claim leans on (texts I0, L1, I3m). -/
import Derived.Test.YtcklnjjbhngbcaaGreatDoorRowLkz02
import Derived.Test.YtcklnjjbhngbcaaGreatDoorRowLkz05
import Derived.Deep.DeepCutAuto
import Derived.Deep.CutBlock
import Derived.Test.YtcklnjjbhngbcaaGreatDoorRowLkz10
namespace Go.Proofs.YtcklnjjbhngbcaaGreatDoor
open Go.RowKit Go.Proofs.Lens

set_option maxRecDepth 100000 in
theorem l1in_calls (x a b : Int) (w : World) : Calls Tryz.prog 137 #[.int .i64 x, .int .i64 a, .int .i64 b] w fun e w' => e = .returned (.bool (inB x a b)) ∧ w = w' := by
  by_cases h1 : a ≤ x <;> by_cases h2 : x ≤ b
  all_goals
    go_enter Tryz.func137, Tryz.ntmps137
    go_wp2
    go_ret
    exact ⟨by simp [inB, h1, h2], rfl⟩
set_option maxRecDepth 100000 in
theorem inside_calls (x a b : Int) (w : World) : Calls Tryz.prog 116 #[.int .i64 x, .int .i64 a, .int .i64 b] w fun e w' => e = .returned (.bool (inB x a b)) ∧ w = w' := by
  by_cases h1 : a ≤ x <;> by_cases h2 : x ≤ b
  all_goals
    go_enter Tryz.func116, Tryz.ntmps116
    go_wp2
    go_ret
    exact ⟨by simp [inB, h1, h2], rfl⟩

set_option maxRecDepth 100000 in
set_option maxHeartbeats 400000 in
theorem toStop_calls (p : PStop) (w : World) : Calls Tryz.prog 129 #[stopV p] w fun e w' => e = .returned (stopV p) ∧ Below w.heap.size w w' := by
  unfold stopV
  go_enter Tryz.func129, Tryz.ntmps129
  go_wp2
  refine bodyPost_ret (v := .agg #[.int .i64 p.kind, .int .i64 p.fn, .int .i64 p.line, .string p.nm]) (by simp [results, Tryz.results129, go_sem]) rfl ⟨rfl, ?_⟩
  exact bl_alloc (bl_alloc (bl_alloc (Below.refl _ _) _) _) _

set_option maxRecDepth 100000 in
set_option maxHeartbeats 400000 in
theorem spec_StopOk_calls (p : PStop) (w : World) : Calls Tryz.prog 138 #[stopV p] w fun e w' => e = .returned (.bool (stopOk p)) ∧ Below w.heap.size w w' := by
  unfold stopV
  go_enter Tryz.func138, Tryz.ntmps138
  go_wp2_with (go_at_call 137; refine (l1in_calls _ _ _ _).mono ?_; rintro e w' ⟨rfl, rfl⟩)
  all_goals
    go_ret
    refine ⟨ret_bool ?_, bl_alloc (Below.refl _ _) _⟩
    go_tidy
    unfold stopOk noS
    grind [inB, List.isEmpty_iff]

set_option maxRecDepth 100000 in
set_option maxHeartbeats 400000 in
theorem impl_StopOk_calls (p : PStop) (w : World) : Calls Tryz.prog 115 #[stopV p] w fun e w' => e = .returned (.bool (stopOk p)) ∧ Below w.heap.size w w' := by
  unfold stopV
  go_enter Tryz.func115, Tryz.ntmps115
  go_wp2_with (go_at_call 116; refine (inside_calls _ _ _ _).mono ?_; rintro e w' ⟨rfl, rfl⟩)
  all_goals
    go_ret
    refine ⟨ret_bool ?_, by first | exact bl_alloc (Below.refl _ _) _ | exact bl_alloc (bl_alloc (Below.refl _ _) _) _⟩
    go_tidy
    unfold stopOk noS
    grind [inB, List.isEmpty_iff]
end Go.Proofs.YtcklnjjbhngbcaaGreatDoor

namespace Go.Proofs.YtcklnjjbhngbcaaGreatDoor
open Go.RowKit Go.Proofs.Lens

def smVar (v : PVar) : Prop := v.nm.size ≤ 1048576 ∧ v.tx.size ≤ 1048576
def smVars (xs : List PVar) : Prop := xs.length ≤ 1048576 ∧ ∀ i, i < xs.length → smVar (elt xs i)
def smMom (m : PMom) : Prop := m.text.size ≤ 1048576 ∧ smVars m.vars
def smMoms (ms : List PMom) : Prop := ms.length ≤ 1048576 ∧ ∀ i, i < ms.length → smMom (elt ms i)
def smStrs (xs : List ByteArray) : Prop := xs.length ≤ 1048576 ∧ ∀ i, i < xs.length → (elt xs i).size ≤ 1048576
def smTr (t : PTr) : Prop := smStrs t.fns ∧ smMoms t.moms
/-- What a sz.. answers: below nought, or no more than what was left, and then all is small. -/
def SzPost (left : Int) (F : Prop) (w : World) (e : Ending) (w' : World) : Prop :=
  ∃ r : Int, e = .returned (.int .i64 r) ∧ (r < 0 ∨ (0 ≤ r ∧ r ≤ left ∧ F)) ∧ Below w.heap.size w w'
theorem SzPost.mk {left r : Int} {F : Prop} {w w' : World} (h : r < 0 ∨ (0 ≤ r ∧ r ≤ left ∧ F)) (hb : Below w.heap.size w w') : SzPost left F w (.returned (.int .i64 r)) w' := ⟨r, rfl, h, hb⟩

set_option maxRecDepth 100000 in
set_option maxHeartbeats 400000 in
theorem szVar_calls (p : PVar) (left : Int) (w : World) (hz : szVar p) (h0 : 0 ≤ left) (h1 : left ≤ 1048576) :
    Calls Tryz.prog 184 #[.agg #[.string p.nm, .string p.tx], .int .i64 left] w (SzPost left (smVar p) w) := by
  obtain ⟨hz1, hz2⟩ := hz
  unfold szS at hz1 hz2
  go_enter Tryz.func184, Tryz.ntmps184
  go_wp2
  · go_ret
    exact SzPost.mk (.inl (by omega)) (bl_alloc (Below.refl _ _) _)
  · go_ret
    exact SzPost.mk (.inl (by omega)) (bl_alloc (Below.refl _ _) _)
  · go_ret
    exact SzPost.mk (.inr ⟨by omega, by omega, by unfold smVar; omega⟩) (bl_alloc (Below.refl _ _) _)

set_option maxRecDepth 100000 in
set_option maxHeartbeats 400000 in
theorem szVars_calls (v : Value) (xs : List PVar) (left : Int) (w : World) (hr : RdVars w v xs) (hz : ∀ i, i < xs.length → szVar (elt xs i)) (h0 : 0 ≤ left) (h1 : left ≤ 1048576) :
    Calls Tryz.prog 164 #[v, .int .i64 left] w (SzPost left (smVars xs) w) := by
  have HR := Lib.hid hr
  have HZ := Lib.hid hz
  clear hz
  obtain ⟨A, c, rfl, hn, hrow⟩ := hr
  clear hrow
  go_enter Tryz.func164, Tryz.ntmps164
  go_wp2
  · go_ret
    exact SzPost.mk (.inl (by omega)) (Below.refl _ _)
  · go_loopw [1, 5] (fun l i wr => ∃ (k : Nat) (r : Int), k ≤ xs.length ∧ i = .int .i64 k ∧ l = .int .i64 r ∧ 0 ≤ r ∧ r ≤ left - xs.length ∧ Below w.heap.size w wr ∧ ∀ j, j < k → smVar (elt xs j)) (fun _ i _ => xs.length - (intOf i).toNat)
    case atStart => exact ⟨0, _, Nat.zero_le _, rfl, rfl, by omega, by omega, Below.refl _ _, fun j hj => absurd hj (by omega)⟩
    case round =>
      obtain ⟨k, r, hk, rfl, rfl, hr0, hr1, hb, hs⟩ := hrel
      have HS := Lib.hid hs
      clear hs
      by_cases hlt : k < xs.length
      · obtain ⟨A', c', he, _, hrow⟩ := HR.out.later hb
        obtain ⟨rfl, rfl⟩ : A = A' ∧ c = c' := by simpa using he
        obtain ⟨b, o, rfl, hc⟩ := hrow (by omega)
        have hc0 : wr.cell? ⟨b, o + k * 2, none⟩ = some (.string (elt xs k).nm) := hc k hlt 0 (by omega)
        have hc1 : wr.cell? ⟨b, o + k * 2 + 1, none⟩ = some (.string (elt xs k).tx) := hc k hlt 1 (by omega)
        clear hc he hrow
        have HZ1 := Lib.hid (HZ.out k hlt)
        go_wp2_with (go_at_call 184; refine (szVar_calls _ _ _ HZ1.out hr0 (by omega)).mono ?_; rintro e w1 ⟨r1, rfl, hr1', hb1⟩)
        · go_ret
          exact SzPost.mk (.inl (by omega)) (bl_then hb hb1)
        · have hq : 0 ≤ r1 ∧ r1 ≤ r ∧ smVar (elt xs k) := by rcases hr1' with h | h; omega; exact h
          go_roundw
          case rel => exact ⟨k + 1, r1, by omega, by go_num, rfl, hq.1, by omega, bl_then hb hb1, fun j hj => by
            by_cases hjk : j < k
            · exact HS.out j hjk
            · obtain rfl : j = k := by omega
              exact hq.2.2⟩
          case measure => simp [intOf]; omega
      · go_wp2
        go_ret
        exact SzPost.mk (.inr ⟨by omega, by omega, by omega, fun j hj => HS.out j (by omega)⟩) hb

set_option maxRecDepth 100000 in
set_option maxHeartbeats 400000 in
theorem szMoment_calls (p : PMom) (v : Value) (left : Int) (w : World) (hr : RdVars w v p.vars) (hz : szMom p) (h0 : 0 ≤ left) (h1 : left ≤ 1048576) :
    Calls Tryz.prog 126 #[.agg #[.int .i64 p.kind, .int .i64 p.task, .int .i64 p.fn, .int .i64 p.line, .string p.text, v], .int .i64 left] w (SzPost left (smMom p) w) := by
  obtain ⟨hz1, hz2⟩ := hz
  unfold szS at hz1
  have HR := Lib.hid hr
  have HZ := Lib.hid hz2
  clear hz2
  obtain ⟨A, c, rfl, hn, hrow⟩ := hr
  clear hrow
  go_enter Tryz.func126, Tryz.ntmps126
  go_wp2_with (go_at_call 164; refine (szVars_calls _ p.vars _ _ (HR.out.later (bl_alloc (Below.refl _ _) _)) HZ.out (by omega) (by omega)).mono ?_; rintro e w1 ⟨r1, rfl, hr1, hb1⟩)
  · go_ret
    exact SzPost.mk (.inl (by omega)) (bl_alloc (Below.refl _ _) _)
  · go_ret
    exact SzPost.mk (.inl (by omega)) (bl_then (bl_alloc (Below.refl _ _) _) hb1)
  · go_ret
    exact SzPost.mk (.inr ⟨by omega, by omega, by omega, by rcases hr1 with h | h; omega; exact h.2.2⟩) (bl_then (bl_alloc (Below.refl _ _) _) hb1)

set_option maxRecDepth 100000 in
set_option maxHeartbeats 400000 in
theorem szMoments_calls (v : Value) (xs : List PMom) (left : Int) (w : World) (hr : RdMoms w v xs) (hz : ∀ i, i < xs.length → szMom (elt xs i)) (h0 : 0 ≤ left) (h1 : left ≤ 1048576) :
    Calls Tryz.prog 52 #[v, .int .i64 left] w (SzPost left (smMoms xs) w) := by
  obtain ⟨vv, hr, hvv⟩ := hr
  have HR := Lib.hid hr
  have HZ := Lib.hid hz
  have HV := Lib.hid hvv
  clear hz hvv
  obtain ⟨A, c, rfl, hn, hrow⟩ := hr
  clear hrow
  go_enter Tryz.func52, Tryz.ntmps52
  go_wp2
  · go_ret
    exact SzPost.mk (.inl (by omega)) (Below.refl _ _)
  · go_loopw [1, 5] (fun l i wr => ∃ (k : Nat) (r : Int), k ≤ xs.length ∧ i = .int .i64 k ∧ l = .int .i64 r ∧ 0 ≤ r ∧ r ≤ left - xs.length ∧ Below w.heap.size w wr ∧ ∀ j, j < k → smMom (elt xs j)) (fun _ i _ => xs.length - (intOf i).toNat)
    case atStart => exact ⟨0, _, Nat.zero_le _, rfl, rfl, by omega, by omega, Below.refl _ _, fun j hj => absurd hj (by omega)⟩
    case round =>
      obtain ⟨k, r, hk, rfl, rfl, hr0, hr1, hb, hs⟩ := hrel
      have HS := Lib.hid hs
      clear hs
      by_cases hlt : k < xs.length
      · obtain ⟨A', c', he, _, hrow⟩ := HR.out.later hb
        obtain ⟨rfl, rfl⟩ : A = A' ∧ c = c' := by simpa using he
        obtain ⟨b, o, rfl, hc⟩ := hrow (by omega)
        have hc0 : wr.cell? ⟨b, o + k * 6, none⟩ = some (.int .i64 (elt xs k).kind) := hc k hlt 0 (by omega)
        have hc1 : wr.cell? ⟨b, o + k * 6 + 1, none⟩ = some (.int .i64 (elt xs k).task) := hc k hlt 1 (by omega)
        have hc2 : wr.cell? ⟨b, o + k * 6 + 2, none⟩ = some (.int .i64 (elt xs k).fn) := hc k hlt 2 (by omega)
        have hc3 : wr.cell? ⟨b, o + k * 6 + 3, none⟩ = some (.int .i64 (elt xs k).line) := hc k hlt 3 (by omega)
        have hc4 : wr.cell? ⟨b, o + k * 6 + 4, none⟩ = some (.string (elt xs k).text) := hc k hlt 4 (by omega)
        have hc5 : wr.cell? ⟨b, o + k * 6 + 5, none⟩ = some (vv k) := hc k hlt 5 (by omega)
        clear hc he hrow
        have HZ1 := Lib.hid (HZ.out k hlt)
        have HV1 := Lib.hid ((HV.out k hlt).later hb)
        go_wp2_with (go_at_call 126; refine (szMoment_calls (elt xs k) _ _ _ HV1.out HZ1.out hr0 (by omega)).mono ?_; rintro e w1 ⟨r1, rfl, hr1', hb1⟩)
        · go_ret
          exact SzPost.mk (.inl (by omega)) (bl_then hb hb1)
        · have hq : 0 ≤ r1 ∧ r1 ≤ r ∧ smMom (elt xs k) := by rcases hr1' with h | h; omega; exact h
          go_roundw
          case rel => exact ⟨k + 1, r1, by omega, by go_num, rfl, hq.1, by omega, bl_then hb hb1, fun j hj => by
            by_cases hjk : j < k
            · exact HS.out j hjk
            · obtain rfl : j = k := by omega
              exact hq.2.2⟩
          case measure => simp [intOf]; omega
      · go_wp2
        go_ret
        exact SzPost.mk (.inr ⟨by omega, by omega, by omega, fun j hj => HS.out j (by omega)⟩) hb

set_option maxRecDepth 100000 in
set_option maxHeartbeats 400000 in
theorem szStrings_calls (v : Value) (xs : List ByteArray) (left : Int) (w : World) (hr : RdStrs w v xs) (hz : ∀ i, i < xs.length → szS (elt xs i)) (h0 : 0 ≤ left) (h1 : left ≤ 1048576) :
    Calls Tryz.prog 51 #[v, .int .i64 left] w (SzPost left (smStrs xs) w) := by
  have HR := Lib.hid hr
  have HZ := Lib.hid hz
  clear hz
  obtain ⟨A, c, rfl, hn, hrow⟩ := hr
  clear hrow
  go_enter Tryz.func51, Tryz.ntmps51
  go_wp2
  · go_ret
    exact SzPost.mk (.inl (by omega)) (Below.refl _ _)
  · go_loopw [1, 5] (fun l i wr => ∃ (k : Nat) (r : Int), k ≤ xs.length ∧ i = .int .i64 k ∧ l = .int .i64 r ∧ 0 ≤ r ∧ r ≤ left - xs.length ∧ Below w.heap.size w wr ∧ ∀ j, j < k → (elt xs j).size ≤ 1048576) (fun _ i _ => xs.length - (intOf i).toNat)
    case atStart => exact ⟨0, _, Nat.zero_le _, rfl, rfl, by omega, by omega, Below.refl _ _, fun j hj => absurd hj (by omega)⟩
    case round =>
      obtain ⟨k, r, hk, rfl, rfl, hr0, hr1, hb, hs⟩ := hrel
      have HS := Lib.hid hs
      clear hs
      by_cases hlt : k < xs.length
      · obtain ⟨A', c', he, _, hrow⟩ := HR.out.later hb
        obtain ⟨rfl, rfl⟩ : A = A' ∧ c = c' := by simpa using he
        obtain ⟨b, o, rfl, hc⟩ := hrow (by omega)
        have hc0 : wr.cell? ⟨b, o + k, none⟩ = some (.string (elt xs k)) := by have := hc k hlt 0 (by omega); simp only [Nat.mul_one, Nat.add_zero] at this; exact this
        clear hc he hrow
        have hz1 := HZ.out k hlt
        unfold szS at hz1
        go_wp2
        · go_ret
          exact SzPost.mk (.inl (by omega)) hb
        · go_roundw
          case rel => exact ⟨k + 1, _, by omega, by go_num, rfl, by omega, by omega, hb, fun j hj => by
            by_cases hjk : j < k
            · exact HS.out j hjk
            · obtain rfl : j = k := by omega
              omega⟩
          case measure => simp [intOf]; omega
      · go_wp2
        go_ret
        exact SzPost.mk (.inr ⟨by omega, by omega, by omega, fun j hj => HS.out j (by omega)⟩) hb

set_option maxRecDepth 100000 in
set_option maxHeartbeats 400000 in
theorem szTrace_calls (v1 v2 : Value) (t : PTr) (left : Int) (w : World) (hr : RdTr w v1 v2 t) (hz : szTr t) (h0 : 0 ≤ left) (h1 : left ≤ 1048576) :
    Calls Tryz.prog 15 #[.agg #[v1, v2], .int .i64 left] w (SzPost left (smTr t) w) := by
  have HR := Lib.hid hr
  have HZ := Lib.hid hz
  obtain ⟨⟨A1, c1, rfl, hn1, hrow⟩, ⟨vv, ⟨A2, c2, rfl, hn2, hrow2⟩, hvv⟩⟩ := hr
  clear hz hrow hrow2 hvv
  go_enter Tryz.func15, Tryz.ntmps15
  go_wp2_with fail
  refine (szStrings_calls _ t.fns _ _ (HR.out.1.later (bl_alloc (Below.refl _ _) _)) HZ.out.1 h0 h1).mono ?_; rintro e w1 ⟨r1, rfl, hr1, hb1⟩
  have hbw : Below w.heap.size w w1 := bl_then (bl_alloc (Below.refl _ _) _) hb1
  have hx1 : w1.cell? ⟨w.heap.size, 1, none⟩ = some (.slice A2 t.moms.length c2) := cell_later hb1 (by go_simp)
  rcases hr1 with hr1 | ⟨hr1, hr2, hr3⟩
  · go_wp2
    go_ret
    exact SzPost.mk (.inl (by omega)) hbw
  · have HS := Lib.hid hr3
    clear hr3
    go_wp2_with fail
    refine (szMoments_calls _ t.moms _ _ (HR.out.2.later hbw) HZ.out.2 hr1 (by omega)).mono ?_; rintro e w2 ⟨r2, rfl, hr3, hb2⟩
    rcases hr3 with hr3 | ⟨hr3, hr4, hr5⟩
    · go_wp2
      go_ret
      exact SzPost.mk (.inl (by omega)) (bl_then hbw hb2)
    · have HS2 := Lib.hid hr5
      clear hr5
      go_wp2
      go_ret
      exact SzPost.mk (.inr ⟨by omega, by omega, HS.out, HS2.out⟩) (bl_then hbw hb2)

set_option maxRecDepth 100000 in
set_option maxHeartbeats 400000 in
theorem szStop_calls (p : PStop) (left : Int) (w : World) (hz : szS p.nm) (h0 : 0 ≤ left) (h1 : left ≤ 1048576) :
    Calls Tryz.prog 127 #[stopV p, .int .i64 left] w (SzPost left (p.nm.size ≤ 1048576) w) := by
  unfold szS at hz
  unfold stopV
  go_enter Tryz.func127, Tryz.ntmps127
  go_wp2
  · go_ret
    exact SzPost.mk (.inl (by omega)) (bl_alloc (Below.refl _ _) _)
  · go_ret
    exact SzPost.mk (.inr ⟨by omega, by omega, by omega⟩) (bl_alloc (Below.refl _ _) _)
end Go.Proofs.YtcklnjjbhngbcaaGreatDoor

namespace Go.Proofs.YtcklnjjbhngbcaaGreatDoor
open Go.RowKit Go.Proofs.Lens

theorem varsOk_snoc (xs : List PVar) (k : Nat) (hk : k < xs.length) : varsOk (xs.take (k + 1)) = (varsOk (xs.take k) && varOk (elt xs k)) := by
  unfold varsOk; rw [take_snoc hk]; simp

set_option maxRecDepth 100000 in
set_option maxHeartbeats 2000000 in
theorem momentOk_calls (v1 v2 v : Value) (t : PTr) (m : PMom) (w : World) (h : RdTr w v1 v2 t) (hv : RdVars w v m.vars) (hsm : smMom m) (hfn : t.fns.length ≤ 1048576) :
    Calls Tryz.prog 70 #[.agg #[v1, v2], .agg #[.int .i64 m.kind, .int .i64 m.task, .int .i64 m.fn, .int .i64 m.line, .string m.text, v]] w fun e w' =>
      e = .returned (.bool (momOk t.fns.length m)) ∧ Below w.heap.size w w' := by
  obtain ⟨⟨A1, c1, rfl, -⟩, -⟩ := h
  have HV := Lib.hid hv
  obtain ⟨A, c, rfl, hn, hrow⟩ := hv
  obtain ⟨hs1, hs2, hs3⟩ := hsm
  have HS := Lib.hid hs3
  clear hrow hs3
  go_enter Tryz.func70, Tryz.ntmps70
  go_upto_region 1 with fail
  generalize hW : World.alloc (World.alloc w _) _ = W
  have hb : Below w.heap.size w W := by rw [← hW]; exact (by repeat (with_reducible first | exact Below.refl _ _ | exact HL.out | refine bl_drewN ?_ _ | refine bl_drew ?_ | refine bl_alloc ?_ _ | refine bl_set ?_ (by dsimp only; omega) _))
  have x0 : W.cell? ⟨w.heap.size, 0, none⟩ = some (.slice A1 t.fns.length c1) := by rw [← hW]; clear hW; go_simp
  have y0 : W.cell? ⟨w.heap.size + 1, 0, none⟩ = some (.int .i64 m.kind) := by rw [← hW]; clear hW; go_simp
  have y1 : W.cell? ⟨w.heap.size + 1, 1, none⟩ = some (.int .i64 m.task) := by rw [← hW]; clear hW; go_simp
  have y2 : W.cell? ⟨w.heap.size + 1, 2, none⟩ = some (.int .i64 m.fn) := by rw [← hW]; clear hW; go_simp
  have y3 : W.cell? ⟨w.heap.size + 1, 3, none⟩ = some (.int .i64 m.line) := by rw [← hW]; clear hW; go_simp
  have y4 : W.cell? ⟨w.heap.size + 1, 4, none⟩ = some (.string m.text) := by rw [← hW]; clear hW; go_simp
  have y5 : W.cell? ⟨w.heap.size + 1, 5, none⟩ = some (.slice A m.vars.length c) := by rw [← hW]; clear hW; go_simp
  have HB := Lib.hid hb
  clear hW hb
  go_cut [5] (fun s5 wx => s5 = .bool (momHd t.fns.length m) ∧ W = wx)
  case first =>
    go_wp2_with (first | (go_at_call 116; refine (inside_calls _ _ _ _).mono ?_; rintro e w1 ⟨rfl, rfl⟩))
    all_goals
      go_meet
      refine ⟨?_, rfl⟩
      go_tidy
      congr 1
      unfold momHd
      grind
  case rest =>
    obtain ⟨rfl, rfl⟩ := hcut
    clear x0 y0 y1 y2 y3 y4
    go_wp2_with fail
    go_loopw [5, 55] (fun ok i wr => ∃ k : Nat, k ≤ m.vars.length ∧ i = .int .i64 k ∧ ok = .bool (momHd t.fns.length m && varsOk (m.vars.take k)) ∧ Below w.heap.size w wr) (fun _ i _ => m.vars.length - (intOf i).toNat)
    case atStart => exact ⟨0, Nat.zero_le _, rfl, by simp [varsOk], HB.out⟩
    case round =>
      obtain ⟨k, hk, rfl, rfl, hb⟩ := hrel
      have HL := Lib.hid hb
      by_cases hlt : k < m.vars.length
      · obtain ⟨A', c', he, _, hrow⟩ := HV.out.later hb
        obtain ⟨rfl, rfl⟩ : A = A' ∧ c = c' := by simpa using he
        obtain ⟨b, o, rfl, hc⟩ := hrow (by omega)
        have hc0 : wr.cell? ⟨b, o + k * 2, none⟩ = some (.string (elt m.vars k).nm) := hc k hlt 0 (by omega)
        have hc1 : wr.cell? ⟨b, o + k * 2 + 1, none⟩ = some (.string (elt m.vars k).tx) := hc k hlt 1 (by omega)
        have HSn := Lib.hid (varsOk_snoc m.vars k hlt)
        have hz := HS.out k hlt
        obtain ⟨hz1, hz2⟩ := hz
        clear hc he hrow hb
        generalize hq : (momHd t.fns.length m && varsOk (m.vars.take k)) = q
        have HQ := Lib.hid hq
        clear hq
        go_wp2_with (first | (go_at_call 116; refine (inside_calls _ _ _ _).mono ?_; rintro e w1 ⟨rfl, rfl⟩))
        all_goals
          go_roundw
          case rel =>
            refine ⟨k + 1, by omega, by go_num, congrArg Value.bool ?_, (by repeat (with_reducible first | exact Below.refl _ _ | exact HL.out | refine bl_drewN ?_ _ | refine bl_drew ?_ | refine bl_alloc ?_ _ | refine bl_set ?_ (by dsimp only; omega) _))⟩
            rw [HSn.out, ← Bool.and_assoc, HQ.out]
            go_tidy
            unfold varOk
            grind
          case measure => simp [intOf]; omega
      · obtain rfl : k = m.vars.length := by omega
        clear hb
        go_wp2
        go_ret
        exact ⟨ret_bool (by rw [List.take_length]; rfl), HL.out⟩

theorem fnsOk_snoc (xs : List ByteArray) (k : Nat) (hk : k < xs.length) : fnsOk (xs.take (k + 1)) = (fnsOk (xs.take k) && decide ((elt xs k).size ≤ 40)) := by
  unfold fnsOk; rw [take_snoc hk]; simp
theorem rd_moment {w : World} {A : Option Addr} {n c : Nat} {ms : List PMom} (h : RdMoms w (.slice A n c) ms) {k : Nat} (hk : k < ms.length) :
    ∃ b o v, A = some ⟨b, o, none⟩ ∧ w.cell? ⟨b, o + k * 6, none⟩ = some (.int .i64 (elt ms k).kind) ∧ w.cell? ⟨b, o + k * 6 + 1, none⟩ = some (.int .i64 (elt ms k).task) ∧
      w.cell? ⟨b, o + k * 6 + 2, none⟩ = some (.int .i64 (elt ms k).fn) ∧ w.cell? ⟨b, o + k * 6 + 3, none⟩ = some (.int .i64 (elt ms k).line) ∧
      w.cell? ⟨b, o + k * 6 + 4, none⟩ = some (.string (elt ms k).text) ∧ w.cell? ⟨b, o + k * 6 + 5, none⟩ = some v ∧ RdVars w v (elt ms k).vars := by
  obtain ⟨vv, ⟨A', c', he, _, hrow⟩, hvv⟩ := h
  obtain ⟨rfl, -, -⟩ : A = A' ∧ n = ms.length ∧ c = c' := by simpa using he
  obtain ⟨b, o, rfl, hc⟩ := hrow (by omega)
  exact ⟨b, o, vv k, rfl, hc k hk 0 (by omega), hc k hk 1 (by omega), hc k hk 2 (by omega), hc k hk 3 (by omega), hc k hk 4 (by omega), hc k hk 5 (by omega), hvv k hk⟩
/-- The sizes' part that is asked first. -/
def szHd (t : PTr) : Bool := decide (t.fns.length = 0) || (decide (300 < t.fns.length) || decide (3000 < t.moms.length))
theorem sizesOk_eq (t : PTr) : sizesOk t = !(szHd t || !fnsOk t.fns) := by
  unfold sizesOk szHd
  cases fnsOk t.fns <;> grind

end Go.Proofs.YtcklnjjbhngbcaaGreatDoor
