/- Lemmas and contracts of functions that the theorem of this claim leans on (texts I0, L1, I3m, I3, B7, F0, I7a). -/
import Derived.Test.YtcklnjjbhngbcaaGreatDoorRowUnz02
import Derived.Test.YtcklnjjbhngbcaaGreatDoorRowUnz05
import Derived.Deep.DeepCutAuto
import Derived.Deep.CutBlock
import Derived.Test.YtcklnjjbhngbcaaGreatDoorRowUnz09
import Derived.Maps.OwnSet
namespace Go.Proofs.YtcklnjjbhngbcaaGreatDoor
open Go.RowKit Go.Proofs.Lens

set_option maxRecDepth 100000 in
theorem l1in_calls (x a b : Int) (w : World) : Calls Tryz.prog 137 #[.int .i64 x, .int .i64 a, .int .i64 b] w fun e w' => e = .returned (.bool (inB x a b)) ∧ w = w' := by
  by_cases h1 : a ≤ x <;> by_cases h2 : x ≤ b
  all_goals
    go_enter Tryz.func137, Tryz.ntmps137
    go_wp2
    go_ret
    exact ⟨by simp [inB, h1, h2], rfl⟩
set_option maxRecDepth 100000 in
theorem inside_calls (x a b : Int) (w : World) : Calls Tryz.prog 116 #[.int .i64 x, .int .i64 a, .int .i64 b] w fun e w' => e = .returned (.bool (inB x a b)) ∧ w = w' := by
  by_cases h1 : a ≤ x <;> by_cases h2 : x ≤ b
  all_goals
    go_enter Tryz.func116, Tryz.ntmps116
    go_wp2
    go_ret
    exact ⟨by simp [inB, h1, h2], rfl⟩

set_option maxRecDepth 100000 in
set_option maxHeartbeats 400000 in
theorem spec_StopOk_calls (p : PStop) (w : World) : Calls Tryz.prog 138 #[stopV p] w fun e w' => e = .returned (.bool (stopOk p)) ∧ Below w.heap.size w w' := by
  unfold stopV
  go_enter Tryz.func138, Tryz.ntmps138
  go_wp2_with (go_at_call 137; refine (l1in_calls _ _ _ _).mono ?_; rintro e w' ⟨rfl, rfl⟩)
  all_goals
    go_ret
    refine ⟨ret_bool ?_, bl_alloc (Below.refl _ _) _⟩
    go_tidy
    unfold stopOk noS
    grind [inB, List.isEmpty_iff]

set_option maxRecDepth 100000 in
set_option maxHeartbeats 400000 in
theorem impl_StopOk_calls (p : PStop) (w : World) : Calls Tryz.prog 115 #[stopV p] w fun e w' => e = .returned (.bool (stopOk p)) ∧ Below w.heap.size w w' := by
  unfold stopV
  go_enter Tryz.func115, Tryz.ntmps115
  go_wp2_with (go_at_call 116; refine (inside_calls _ _ _ _).mono ?_; rintro e w' ⟨rfl, rfl⟩)
  all_goals
    go_ret
    refine ⟨ret_bool ?_, by first | exact bl_alloc (Below.refl _ _) _ | exact bl_alloc (bl_alloc (Below.refl _ _) _) _⟩
    go_tidy
    unfold stopOk noS
    grind [inB, List.isEmpty_iff]
end Go.Proofs.YtcklnjjbhngbcaaGreatDoor

namespace Go.Proofs.YtcklnjjbhngbcaaGreatDoor
open Go.RowKit Go.Proofs.Lens

def smVar (v : PVar) : Prop := v.nm.size ≤ 1048576 ∧ v.tx.size ≤ 1048576
def smVars (xs : List PVar) : Prop := xs.length ≤ 1048576 ∧ ∀ i, i < xs.length → smVar (elt xs i)
def smMom (m : PMom) : Prop := m.text.size ≤ 1048576 ∧ smVars m.vars
def smMoms (ms : List PMom) : Prop := ms.length ≤ 1048576 ∧ ∀ i, i < ms.length → smMom (elt ms i)
def smStrs (xs : List ByteArray) : Prop := xs.length ≤ 1048576 ∧ ∀ i, i < xs.length → (elt xs i).size ≤ 1048576
def smTr (t : PTr) : Prop := smStrs t.fns ∧ smMoms t.moms
end Go.Proofs.YtcklnjjbhngbcaaGreatDoor

namespace Go.Proofs.YtcklnjjbhngbcaaGreatDoor
open Go.RowKit Go.Proofs.Lens

theorem varsOk_snoc (xs : List PVar) (k : Nat) (hk : k < xs.length) : varsOk (xs.take (k + 1)) = (varsOk (xs.take k) && varOk (elt xs k)) := by
  unfold varsOk; rw [take_snoc hk]; simp

set_option maxRecDepth 100000 in
set_option maxHeartbeats 2000000 in
theorem momentOk_calls (v1 v2 v : Value) (t : PTr) (m : PMom) (w : World) (h : RdTr w v1 v2 t) (hv : RdVars w v m.vars) (hsm : smMom m) (hfn : t.fns.length ≤ 1048576) :
    Calls Tryz.prog 70 #[.agg #[v1, v2], .agg #[.int .i64 m.kind, .int .i64 m.task, .int .i64 m.fn, .int .i64 m.line, .string m.text, v]] w fun e w' =>
      e = .returned (.bool (momOk t.fns.length m)) ∧ Below w.heap.size w w' := by
  obtain ⟨⟨A1, c1, rfl, -⟩, -⟩ := h
  have HV := Lib.hid hv
  obtain ⟨A, c, rfl, hn, hrow⟩ := hv
  obtain ⟨hs1, hs2, hs3⟩ := hsm
  have HS := Lib.hid hs3
  clear hrow hs3
  go_enter Tryz.func70, Tryz.ntmps70
  go_upto_region 1 with fail
  generalize hW : World.alloc (World.alloc w _) _ = W
  have hb : Below w.heap.size w W := by rw [← hW]; exact (by repeat (with_reducible first | exact Below.refl _ _ | exact HL.out | refine bl_drewN ?_ _ | refine bl_drew ?_ | refine bl_alloc ?_ _ | refine bl_set ?_ (by dsimp only; omega) _))
  have x0 : W.cell? ⟨w.heap.size, 0, none⟩ = some (.slice A1 t.fns.length c1) := by rw [← hW]; clear hW; go_simp
  have y0 : W.cell? ⟨w.heap.size + 1, 0, none⟩ = some (.int .i64 m.kind) := by rw [← hW]; clear hW; go_simp
  have y1 : W.cell? ⟨w.heap.size + 1, 1, none⟩ = some (.int .i64 m.task) := by rw [← hW]; clear hW; go_simp
  have y2 : W.cell? ⟨w.heap.size + 1, 2, none⟩ = some (.int .i64 m.fn) := by rw [← hW]; clear hW; go_simp
  have y3 : W.cell? ⟨w.heap.size + 1, 3, none⟩ = some (.int .i64 m.line) := by rw [← hW]; clear hW; go_simp
  have y4 : W.cell? ⟨w.heap.size + 1, 4, none⟩ = some (.string m.text) := by rw [← hW]; clear hW; go_simp
  have y5 : W.cell? ⟨w.heap.size + 1, 5, none⟩ = some (.slice A m.vars.length c) := by rw [← hW]; clear hW; go_simp
  have HB := Lib.hid hb
  clear hW hb
  go_cut [5] (fun s5 wx => s5 = .bool (momHd t.fns.length m) ∧ W = wx)
  case first =>
    go_wp2_with (first | (go_at_call 116; refine (inside_calls _ _ _ _).mono ?_; rintro e w1 ⟨rfl, rfl⟩))
    all_goals
      go_meet
      refine ⟨?_, rfl⟩
      go_tidy
      congr 1
      unfold momHd
      grind
  case rest =>
    obtain ⟨rfl, rfl⟩ := hcut
    clear x0 y0 y1 y2 y3 y4
    go_wp2_with fail
    go_loopw [5, 55] (fun ok i wr => ∃ k : Nat, k ≤ m.vars.length ∧ i = .int .i64 k ∧ ok = .bool (momHd t.fns.length m && varsOk (m.vars.take k)) ∧ Below w.heap.size w wr) (fun _ i _ => m.vars.length - (intOf i).toNat)
    case atStart => exact ⟨0, Nat.zero_le _, rfl, by simp [varsOk], HB.out⟩
    case round =>
      obtain ⟨k, hk, rfl, rfl, hb⟩ := hrel
      have HL := Lib.hid hb
      by_cases hlt : k < m.vars.length
      · obtain ⟨A', c', he, _, hrow⟩ := HV.out.later hb
        obtain ⟨rfl, rfl⟩ : A = A' ∧ c = c' := by simpa using he
        obtain ⟨b, o, rfl, hc⟩ := hrow (by omega)
        have hc0 : wr.cell? ⟨b, o + k * 2, none⟩ = some (.string (elt m.vars k).nm) := hc k hlt 0 (by omega)
        have hc1 : wr.cell? ⟨b, o + k * 2 + 1, none⟩ = some (.string (elt m.vars k).tx) := hc k hlt 1 (by omega)
        have HSn := Lib.hid (varsOk_snoc m.vars k hlt)
        have hz := HS.out k hlt
        obtain ⟨hz1, hz2⟩ := hz
        clear hc he hrow hb
        generalize hq : (momHd t.fns.length m && varsOk (m.vars.take k)) = q
        have HQ := Lib.hid hq
        clear hq
        go_wp2_with (first | (go_at_call 116; refine (inside_calls _ _ _ _).mono ?_; rintro e w1 ⟨rfl, rfl⟩))
        all_goals
          go_roundw
          case rel =>
            refine ⟨k + 1, by omega, by go_num, congrArg Value.bool ?_, (by repeat (with_reducible first | exact Below.refl _ _ | exact HL.out | refine bl_drewN ?_ _ | refine bl_drew ?_ | refine bl_alloc ?_ _ | refine bl_set ?_ (by dsimp only; omega) _))⟩
            rw [HSn.out, ← Bool.and_assoc, HQ.out]
            go_tidy
            unfold varOk
            grind
          case measure => simp [intOf]; omega
      · obtain rfl : k = m.vars.length := by omega
        clear hb
        go_wp2
        go_ret
        exact ⟨ret_bool (by rw [List.take_length]; rfl), HL.out⟩

theorem fnsOk_snoc (xs : List ByteArray) (k : Nat) (hk : k < xs.length) : fnsOk (xs.take (k + 1)) = (fnsOk (xs.take k) && decide ((elt xs k).size ≤ 40)) := by
  unfold fnsOk; rw [take_snoc hk]; simp
theorem rd_moment {w : World} {A : Option Addr} {n c : Nat} {ms : List PMom} (h : RdMoms w (.slice A n c) ms) {k : Nat} (hk : k < ms.length) :
    ∃ b o v, A = some ⟨b, o, none⟩ ∧ w.cell? ⟨b, o + k * 6, none⟩ = some (.int .i64 (elt ms k).kind) ∧ w.cell? ⟨b, o + k * 6 + 1, none⟩ = some (.int .i64 (elt ms k).task) ∧
      w.cell? ⟨b, o + k * 6 + 2, none⟩ = some (.int .i64 (elt ms k).fn) ∧ w.cell? ⟨b, o + k * 6 + 3, none⟩ = some (.int .i64 (elt ms k).line) ∧
      w.cell? ⟨b, o + k * 6 + 4, none⟩ = some (.string (elt ms k).text) ∧ w.cell? ⟨b, o + k * 6 + 5, none⟩ = some v ∧ RdVars w v (elt ms k).vars := by
  obtain ⟨vv, ⟨A', c', he, _, hrow⟩, hvv⟩ := h
  obtain ⟨rfl, -, -⟩ : A = A' ∧ n = ms.length ∧ c = c' := by simpa using he
  obtain ⟨b, o, rfl, hc⟩ := hrow (by omega)
  exact ⟨b, o, vv k, rfl, hc k hk 0 (by omega), hc k hk 1 (by omega), hc k hk 2 (by omega), hc k hk 3 (by omega), hc k hk 4 (by omega), hc k hk 5 (by omega), hvv k hk⟩
/-- The sizes' part that is asked first. -/
def szHd (t : PTr) : Bool := decide (t.fns.length = 0) || (decide (300 < t.fns.length) || decide (3000 < t.moms.length))
theorem sizesOk_eq (t : PTr) : sizesOk t = !(szHd t || !fnsOk t.fns) := by
  unfold sizesOk szHd
  cases fnsOk t.fns <;> grind

end Go.Proofs.YtcklnjjbhngbcaaGreatDoor

namespace Go.Proofs.YtcklnjjbhngbcaaGreatDoor
open Go.RowKit Go.Proofs.Lens

set_option maxRecDepth 100000 in
set_option maxHeartbeats 2000000 in
theorem impl_TraceOk_calls (v1 v2 : Value) (t : PTr) (w : World) (h : RdTr w v1 v2 t) (hsm : smTr t) :
    Calls Tryz.prog 27 #[.agg #[v1, v2]] w fun e w' => e = .returned (.agg #[.int .i64 (faultP t).1, .int .i64 (faultP t).2]) ∧ Below w.heap.size w w' := by
  have HT := Lib.hid h
  have HT0 := Lib.hid h
  have HSM := Lib.hid hsm
  obtain ⟨⟨A1, c1, rfl, hn1, -⟩, ⟨vv, ⟨A2, c2, rfl, hn2, -⟩, -⟩⟩ := h
  obtain ⟨⟨hs1, -⟩, ⟨hs2, -⟩⟩ := hsm
  go_enter Tryz.func27, Tryz.ntmps27
  go_upto_region 1 with fail
  generalize hW : World.alloc (World.alloc w _) _ = W
  have HB : Hid (Below w.heap.size w W) := by rw [← hW]; exact Lib.hid (by repeat (with_reducible first | exact Below.refl _ _ | exact HL.out | refine bl_drewN ?_ _ | refine bl_drew ?_ | refine bl_alloc ?_ _ | refine bl_set ?_ (by dsimp only; omega) _))
  have HX : Hid (BoxAt W w.heap.size [.slice A1 t.fns.length c1, .slice A2 t.moms.length c2]) := by rw [← hW]; exact Lib.hid ((BoxAt.new w _ _).later (bl_alloc (Below.refl _ _) _))
  have HR : Hid (Blk W (w.heap.size + 1) 62 2 (fun _ => .int .i64 0)) := by
    rw [← hW]
    have := Blk.made (w.alloc (.cells #[.slice A1 t.fns.length c1, .slice A2 t.moms.length c2] 26)) #[.int .i64 0, .int .i64 0] 62
    rw [World.size_alloc] at this
    exact Lib.hid <| this.congr fun j hj => by match j, hj with | 0, _ => rfl | 1, _ => rfl
  clear hW
  obtain ⟨x0, x1⟩ := HX.out.open2
  go_cut [3] (fun s3 wx => s3 = .bool (szHd t) ∧ W = wx)
  case first =>
    by_cases h0 : t.fns.length = 0
    · have hd : ((t.fns.length : Int) == 0) = true := by simp [h0]
      have H0 := Lib.hid h0
      clear h0
      go_wp2
      go_meet
      exact ⟨by unfold szHd; simp [H0.out], rfl⟩
    · have hd : ((t.fns.length : Int) == 0) = false := by rw [beq_eq_false_iff_ne]; omega
      have H0 := Lib.hid h0
      clear h0
      go_wp2
      all_goals
        go_meet
        refine ⟨congrArg Value.bool ?_, rfl⟩
        have h0 := H0.out
        go_tidy
        unfold szHd
        grind
  case rest =>
    obtain ⟨rfl, rfl⟩ := hcut
    clear x0 x1
    obtain ⟨x0, x1⟩ := HX.out.open2
    go_wp2_with fail
    go_loopw [3, 31] (fun b i wr => ∃ k : Nat, k ≤ t.fns.length ∧ i = .int .i64 k ∧ b = .bool (szHd t || !fnsOk (t.fns.take k)) ∧ Below W.heap.size W wr) (fun _ i _ => t.fns.length - (intOf i).toNat)
    case atStart => exact ⟨0, Nat.zero_le _, rfl, by simp [fnsOk], Below.refl _ _⟩
    case round =>
      obtain ⟨k, hk, rfl, rfl, hb⟩ := hrel
      have HL := Lib.hid hb
      by_cases hlt : k < t.fns.length
      · obtain ⟨A', c', he, _, hrow⟩ := (HT.out.1.later HB.out).later hb
        obtain ⟨rfl, rfl⟩ : A1 = A' ∧ c1 = c' := by simpa using he
        obtain ⟨b, o, rfl, hc⟩ := hrow (by omega)
        have hc0 : wr.cell? ⟨b, o + k, none⟩ = some (.string (elt t.fns k)) := by have := hc k hlt 0 (by omega); simp only [Nat.mul_one, Nat.add_zero] at this; exact this
        have HSn := Lib.hid (fnsOk_snoc t.fns k hlt)
        clear hc he hrow hb x0 x1
        generalize hq : (szHd t || !fnsOk (t.fns.take k)) = q
        have HQ := Lib.hid hq
        clear hq
        go_wp2
        all_goals
          go_roundw
          case rel =>
            refine ⟨k + 1, by omega, by go_num, congrArg Value.bool ?_, (by repeat (with_reducible first | exact Below.refl _ _ | exact HL.out | refine bl_drewN ?_ _ | refine bl_drew ?_ | refine bl_alloc ?_ _ | refine bl_set ?_ (by dsimp only; omega) _))⟩
            have hq := HQ.out
            rw [HSn.out]
            go_tidy
            grind
          case measure => simp [intOf]; omega
      · obtain rfl : k = t.fns.length := by omega
        clear hb x0 x1
        obtain ⟨x0, x1⟩ := (HX.out.later HL.out).open2
        have hr := HR.out.later HL.out
        have r0 := hr.cell (j := 0) (by omega)
        have r1 := hr.cell (j := 1) (by omega)
        have rf0 := hr.free 0
        have rf1 := hr.free 1
        have HR1 := Lib.hid hr
        clear hr
        have HB1 := Lib.hid (bl_then HB.out HL.out)
        rw [List.take_length]
        have hso := sizesOk_eq t
        generalize hq : (szHd t || !fnsOk t.fns) = q at hso
        have HSO := Lib.hid hso
        clear hso hq
        cases q with
        | true =>
          go_wp2
          have hf : faultP t = (1, 0) := by unfold faultP; rw [if_pos (by rw [HSO.out]; rfl)]
          refine bodyPost_ret (v := .agg #[.int .i64 1, .int .i64 0]) (by simp [results, Tryz.results27, go_sem, r0, r1]) rfl ⟨by rw [hf], ?_⟩
          have HL := HB1
          exact (by repeat (with_reducible first | exact Below.refl _ _ | exact HL.out | refine bl_drewN ?_ _ | refine bl_drew ?_ | refine bl_alloc ?_ _ | refine bl_set ?_ (by dsimp only; omega) _))
        | false =>
          have HT1 := Lib.hid (HT.out.later HB1.out)
          have HX1 := Lib.hid (HX.out.later HL.out)
          clear HL HB HT HX HR x0 x1
          obtain ⟨x0, x1⟩ := HX1.out.open2
          go_wp2_with fail
          go_loopw [47] (fun i wy => ∃ k : Nat, k ≤ t.moms.length ∧ i = .int .i64 k ∧ firstNZ (momCode t) (t.moms.length - 0) 0 = firstNZ (momCode t) (t.moms.length - k) k ∧ Below wr.heap.size wr wy) (fun i _ => t.moms.length - (intOf i).toNat)
          case atStart => exact ⟨0, Nat.zero_le _, rfl, rfl, Below.refl _ _⟩
          case round =>
            obtain ⟨k, hk, rfl, hq, hb⟩ := hrel
            have HL := Lib.hid hb
            have HQ := Lib.hid hq
            clear hq
            by_cases hlt : k < t.moms.length
            · obtain ⟨b, o, vk, hA, c0, c1', c2', c3, c4, c5, hvk⟩ := rd_moment (HT1.out.2.later hb) hlt
              have HA := Lib.hid hA
              have HVK := Lib.hid hvk
              obtain ⟨Av, cv, rfl, -⟩ := hvk
              have HX2 := Lib.hid (HX1.out.later HL.out)
              have HR2 := Lib.hid (HR1.out.later HL.out)
              have HT2 := Lib.hid (HT1.out.later HL.out)
              have HB2 := Lib.hid (bl_then HB1.out HL.out)
              have hsm := HSM.out.2.2 k hlt
              have hsz : w.heap.size + 1 < wr.heap.size := HR2.out.lt
              clear hb x0 x1 r0 r1 rf0 rf1 hA
              subst A2
              obtain ⟨x0, x1⟩ := HX2.out.open2
              go_upto_region 12 with fail
              generalize hW2 : World.alloc wr _ = W2
              have hbl : Below wr.heap.size wr W2 := by rw [← hW2]; exact bl_alloc (Below.refl _ _) _
              have y0 : W2.cell? ⟨wr.heap.size, 0, none⟩ = some (.int .i64 (elt t.moms k).kind) := by rw [← hW2]; clear hW2; go_simp
              have y1 : W2.cell? ⟨wr.heap.size, 1, none⟩ = some (.int .i64 (elt t.moms k).task) := by rw [← hW2]; clear hW2; go_simp
              have y2 : W2.cell? ⟨wr.heap.size, 2, none⟩ = some (.int .i64 (elt t.moms k).fn) := by rw [← hW2]; clear hW2; go_simp
              have y3 : W2.cell? ⟨wr.heap.size, 3, none⟩ = some (.int .i64 (elt t.moms k).line) := by rw [← hW2]; clear hW2; go_simp
              have y4 : W2.cell? ⟨wr.heap.size, 4, none⟩ = some (.string (elt t.moms k).text) := by rw [← hW2]; clear hW2; go_simp
              have y5 : W2.cell? ⟨wr.heap.size, 5, none⟩ = some (.slice Av (elt t.moms k).vars.length cv) := by rw [← hW2]; clear hW2; go_simp
              have HX3 := Lib.hid (HX2.out.later hbl)
              have HR3 := Lib.hid (HR2.out.later hbl)
              have HT3 := Lib.hid (HT2.out.later hbl)
              have HV3 := Lib.hid (HVK.out.later hbl)
              have HB3 := Lib.hid (bl_then HB2.out hbl)
              have HL3 := Lib.hid (bl_then HL.out hbl)
              clear hbl hW2 x0 x1 HX2 HR2 HT2 HVK HB2 HL
              obtain ⟨x0, x1⟩ := HX3.out.open2
              go_wp2_with fail
              refine (momentOk_calls _ _ _ t (elt t.moms k) _ HT3.out HV3.out hsm hs1).mono ?_
              rintro e w1 ⟨rfl, hb⟩
              have HL2 := Lib.hid (bl_then HL3.out hb)
              have hr := HR3.out.later hb
              have r0 := hr.cell (j := 0) (by omega)
              have r1 := hr.cell (j := 1) (by omega)
              have rf0 := hr.free 0
              have rf1 := hr.free 1
              have HB4 := Lib.hid (bl_then HB3.out hb)
              generalize hmo : momOk t.fns.length (elt t.moms k) = mo
              have HMO := Lib.hid hmo
              clear hr hb x0 x1 y0 y1 y2 y3 y4 y5 c0 c1' c2' c3 c4 c5 hmo
              cases mo with
              | true =>
                go_wp2
                go_roundw
                case rel => exact ⟨k + 1, by omega, by go_num, HQ.out.trans (firstNZ_skip hlt (by unfold momCode; rw [if_pos HMO.out])), HL2.out⟩
                case measure => simp [intOf]; omega
              | false =>
                go_wp2
                have hf : faultP t = (2, (k : Int)) := by
                  have h2 : firstNZ (momCode t) (t.moms.length - 0) 0 = (2, (k : Int)) := by
                    rw [HQ.out, firstNZ_hit hlt (by unfold momCode; rw [if_neg (by rw [HMO.out]; simp)]; omega)]
                    unfold momCode; rw [if_neg (by rw [HMO.out]; simp)]
                  unfold faultP
                  rw [if_neg (by rw [HSO.out]; simp), h2, if_pos (by simp)]
                refine bodyPost_ret (v := .agg #[.int .i64 2, .int .i64 k]) (by simp [results, Tryz.results27, go_sem, r0, r1]) rfl ⟨by rw [hf], ?_⟩
                have HL := HB4
                exact (by repeat (with_reducible first | exact Below.refl _ _ | exact HL.out | refine bl_drewN ?_ _ | refine bl_drew ?_ | refine bl_alloc ?_ _ | refine bl_set ?_ (by dsimp only; omega) _))
            · obtain rfl : k = t.moms.length := by omega
              clear hb x0 x1 r0 r1
              have HT2 := Lib.hid (HT1.out.later HL.out)
              have HX2 := Lib.hid (HX1.out.later HL.out)
              have HR2 := Lib.hid (HR1.out.later HL.out)
              have HB2 := Lib.hid (bl_then HB1.out HL.out)
              have HQ2 : Hid (firstNZ (momCode t) (t.moms.length - 0) 0 = (0, 0)) := Lib.hid (HQ.out.trans firstNZ_end)
              clear HB1 HX1 HR1 HQ HT1 rf0 rf1 HL
              obtain ⟨x0, x1⟩ := HX2.out.open2
              go_wp2_with fail
              refine (newWalk_calls _ _ _).mono ?_
              rintro e w1 ⟨g, f, rfl, hW, hg, hb⟩
              have HW := Lib.hid hW
              have HT3 := Lib.hid (HT2.out.later hb)
              have HX3 := Lib.hid (HX2.out.later hb)
              have HR3 := Lib.hid (HR2.out.later hb)
              have HB3 := Lib.hid (bl_then HB2.out hb)
              have HG2 : Hid (w.heap.size + 2 ≤ g) := Lib.hid (Nat.le_trans HR2.out.lt hg)
              clear HB2 HX2 HR2 HT2 hW hb x0 x1 hg
              obtain ⟨x0, x1⟩ := HX3.out.open2
              go_wp2_with fail
              go_loopw [64] (fun i wz => ∃ (k : Nat) (cl : List PFr) (f : Nat → Value), k ≤ t.moms.length ∧ i = .int .i64 k ∧ firstNZ (moveCode t) (t.moms.length - 0) 0 = firstNZ (moveCode t) (t.moms.length - k) k ∧
                Inv (stN t.moms k) k ∧ IsW wz g (.slice A1 t.fns.length c1) (.slice A2 t.moms.length c2) (stN t.moms k) cl f ∧ Below w.heap.size w wz ∧ w.heap.size + 2 ≤ g ∧
                BoxAt wz w.heap.size [.slice A1 t.fns.length c1, .slice A2 t.moms.length c2] ∧ Blk wz (w.heap.size + 1) 62 2 (fun _ => .int .i64 0)) (fun i _ => t.moms.length - (intOf i).toNat)
              case atStart =>
                exact ⟨0, [], f, Nat.zero_le _, rfl, rfl, inv0, HW.out, HB3.out, HG2.out, HX3.out, HR3.out⟩
              case round =>
                obtain ⟨k, cl, f, hk, rfl, hq, hinv, hW, hb, hg, hx, hr⟩ := hrel
                have HQ := Lib.hid hq
                have HI := Lib.hid hinv
                have HW := Lib.hid hW
                have HL := Lib.hid hb
                have HX := Lib.hid hx
                have HR := Lib.hid hr
                have HG := Lib.hid hg
                clear hq hinv hW hb hg hx hr x0 x1
                by_cases hlt : k < t.moms.length
                · have HM := Lib.hid (HT0.out.2.later HL.out)
                  obtain ⟨b, o, vk, hA, c0, c1', c2', c3, c4, c5, hvk⟩ := rd_moment HM.out hlt
                  have HA := Lib.hid hA
                  obtain ⟨Av, cv, rfl, -⟩ := hvk
                  have hgs := HW.out.blk.lt
                  clear hA
                  subst A2
                  go_upto_region 19 with fail
                  generalize hW2 : World.alloc wr _ = W2
                  have hbl : Below wr.heap.size wr W2 := by rw [← hW2]; exact bl_alloc (Below.refl _ _) _
                  have y0 : W2.cell? ⟨wr.heap.size, 0, none⟩ = some (.int .i64 (elt t.moms k).kind) := by rw [← hW2]; clear hW2; go_simp
                  have y1 : W2.cell? ⟨wr.heap.size, 1, none⟩ = some (.int .i64 (elt t.moms k).task) := by rw [← hW2]; clear hW2; go_simp
                  have y2 : W2.cell? ⟨wr.heap.size, 2, none⟩ = some (.int .i64 (elt t.moms k).fn) := by rw [← hW2]; clear hW2; go_simp
                  have y3 : W2.cell? ⟨wr.heap.size, 3, none⟩ = some (.int .i64 (elt t.moms k).line) := by rw [← hW2]; clear hW2; go_simp
                  have y4 : W2.cell? ⟨wr.heap.size, 4, none⟩ = some (.string (elt t.moms k).text) := by rw [← hW2]; clear hW2; go_simp
                  have y5 : W2.cell? ⟨wr.heap.size, 5, none⟩ = some (.slice Av (elt t.moms k).vars.length cv) := by rw [← hW2]; clear hW2; go_simp
                  have HX1 := Lib.hid (HX.out.later hbl)
                  have HR1 := Lib.hid (HR.out.later hbl)
                  have HM1 := Lib.hid (HM.out.later hbl)
                  have HW1 := Lib.hid (HW.out.later hbl)
                  have HB1 := Lib.hid (bl_then HL.out hbl)
                  clear hbl hW2 HX HR HM HW HL
                  go_wp2_with fail
                  refine (check_calls g _ _ _ _ _ (elt t.moms k) _ _ HW1.out HI.out.lo HI.out.hi).mono ?_
                  rintro e w2 ⟨rfl, hb⟩
                  have HX2 := Lib.hid (HX1.out.later hb)
                  have hr := HR1.out.later hb
                  have r0 := hr.cell (j := 0) (by omega)
                  have r1 := hr.cell (j := 1) (by omega)
                  have rf0 := hr.free 0
                  have rf1 := hr.free 1
                  have HR2 := Lib.hid hr
                  have HM2 := Lib.hid (HM1.out.later hb)
                  have HW2 := Lib.hid (HW1.out.later hb)
                  have HB2 := Lib.hid (bl_then HB1.out hb)
                  clear hb y0 y1 y2 y3 y4 y5 c0 c1' c2' c3 c4 c5 HX1 HR1 HM1 HW1 HB1 hgs hr
                  have HMC : Hid (moveCode t k = checkP (stN t.moms k) (elt t.moms k)) := Lib.hid rfl
                  generalize hcc : checkP (stN t.moms k) (elt t.moms k) = cc at HMC
                  have HCC := Lib.hid hcc
                  clear hcc
                  by_cases hz : cc = 0
                  · have hd : (cc != 0) = false := by simp [hz]
                    have HZ := Lib.hid hz
                    clear hz r0 r1 rf0 rf1
                    go_wp2_with fail
                    have hmo : momOk t.fns.length (elt t.moms k) = true := by
                      have := firstNZ_zero (f := momCode t) (d := t.moms.length - 0) (k := 0) (by rw [HQ2.out]) k (by omega) (by omega)
                      unfold momCode at this
                      by_cases h4 : momOk t.fns.length (elt t.moms k) = true
                      · exact h4
                      · rw [if_neg h4] at this; cases this
                    refine (step_calls g _ _ _ _ _ t.moms k t.fns.length _ HW2.out HM2.out hlt HI.out hmo (HCC.out.trans HZ.out)).mono ?_
                    rintro e w3 ⟨rfl, ⟨f', hW3⟩, hgb⟩
                    have HX3 := Lib.hid (BoxAt.gb HX2.out hgb (by have := HG.out; omega))
                    have HR3 := Lib.hid (Blk.gb HR2.out hgb (by have := HG.out; omega))
                    have HB3 := Lib.hid (bl_grown HB2.out hgb (by have := HG.out; omega))
                    have HW3 := Lib.hid hW3
                    have HI3 := Lib.hid (inv_step HI.out hmo (HCC.out.trans HZ.out))
                    clear hgb hW3 hmo
                    go_wp2
                    go_roundw
                    case rel =>
                      exact ⟨k + 1, _, f', by omega, by go_num, HQ.out.trans (firstNZ_skip hlt (by rw [HMC.out, HZ.out])), HI3.out, HW3.out, HB3.out, HG.out, HX3.out, HR3.out⟩
                    case measure => simp [intOf]; omega
                  · have hd : (cc != 0) = true := by simp [hz]
                    have HZ := Lib.hid hz
                    clear hz
                    go_wp2
                    have hf : faultP t = (cc, (k : Int)) := by
                      unfold faultP
                      rw [if_neg (by rw [HSO.out]; simp), HQ2.out, if_neg (by simp), HQ.out, firstNZ_hit hlt (by rw [HMC.out]; exact HZ.out), HMC.out]
                    refine bodyPost_ret (v := .agg #[.int .i64 cc, .int .i64 k]) (by simp [results, Tryz.results27, go_sem, r0, r1]) rfl ⟨by rw [hf], ?_⟩
                    have HL := HB2
                    exact (by repeat (with_reducible first | exact Below.refl _ _ | exact HL.out | refine bl_drewN ?_ _ | refine bl_drew ?_ | refine bl_alloc ?_ _ | refine bl_set ?_ (by dsimp only; omega) _))
                · obtain rfl : k = t.moms.length := by omega
                  have r0 := HR.out.cell (j := 0) (by omega)
                  have r1 := HR.out.cell (j := 1) (by omega)
                  have rf0 := HR.out.free 0
                  have rf1 := HR.out.free 1
                  go_wp2
                  have hf : faultP t = (0, 0) := by
                    unfold faultP
                    rw [if_neg (by rw [HSO.out]; simp), HQ2.out, if_neg (by simp), HQ.out, firstNZ_end]
                  refine bodyPost_ret (v := .agg #[.int .i64 0, .int .i64 0]) (by simp [results, Tryz.results27, go_sem, r0, r1]) rfl ⟨by rw [hf], ?_⟩
                  exact (by repeat (with_reducible first | exact Below.refl _ _ | exact HL.out | refine bl_drewN ?_ _ | refine bl_drew ?_ | refine bl_alloc ?_ _ | refine bl_set ?_ (by dsimp only; omega) _))
end Go.Proofs.YtcklnjjbhngbcaaGreatDoor

namespace Go.Proofs.Lens
open Go.RowKit

/-- What is asked of a map's types: how keys and elements are told. -/
structure MTy {α β : Type} (P : Program) (t kt et : TypeId) (kV : α → Value) (okK : α → Prop) (eV : β → Value) (eL : β → Lit) (okE : β → Prop) (z : β) : Prop where
  keyed : Go.Maps.Keyed P kt
  und : P.underlying t = some (.map kt et)
  key : ∀ x, okK x → ∃ l, keyOf P kt (kV x) = some l
  inj : ∀ x y, kV x = kV y → x = y
  elem : ∀ y, okE y → plainElem (H := Unit) P et (eV y) = some (.lit (eL y), [])
  back : ∀ v y ps, plainElem (H := Unit) P et v = some (.lit (eL y), ps) → v = eV y
  zero : ∀ w, (zeroValue et).run P w = .ok (eV z) w
  zok : okE z
def OwM {α β : Type} (P : Program) (kt et : TypeId) (kV : α → Value) (okK : α → Prop) (eL : β → Lit) (w : World) (b n : Nat) (M : α → Option β) : Prop :=
  ∃ D : DataW Unit, w.ownsMap P kt (plainElem P et) b n D ∧ ∀ x, okK x → ∀ l, keyOf P kt (kV x) = some l → ∀ zd, D.atKey l zd = match M x with | none => zd | some y => .lit (eL y)
section
variable {α β : Type} {P : Program} {t kt et : TypeId} {kV : α → Value} {okK : α → Prop} {eV : β → Value} {eL : β → Lit} {okE : β → Prop} {z : β}
theorem OwM.made (w : World) : OwM P kt et kV okK eL (w.alloc (.map #[] 0)) w.heap.size 0 (fun _ => none) := ⟨.map [], World.ownsMap_made _ _ _ _, fun _ _ _ _ _ => rfl⟩
theorem OwM.kept {w w' : World} {b n : Nat} {M : α → Option β} {row : Option Nat} (h : OwM P kt et kV okK eL w b n M) (hg : w.grownBy w' row) (hne : some b ≠ row) : OwM P kt et kV okK eL w' b n M := by
  obtain ⟨D, h1, h2⟩ := h
  exact ⟨D, h1.kept hg hne, h2⟩
theorem OwM.lt {w : World} {b n : Nat} {M : α → Option β} (h : OwM P kt et kV okK eL w b n M) : b < w.heap.size := by
  obtain ⟨D, h1, _⟩ := h
  exact h1.lt
theorem OwM.later {w w' : World} {b n : Nat} {M : α → Option β} (h : OwM P kt et kV okK eL w b n M) (hb : Below w.heap.size w w') : OwM P kt et kV okK eL w' b n M :=
  h.kept (row := none) ⟨hb.os, hb.tape, hb.output, hb.size, fun i hi _ => hb.block i hi⟩ (by simp)
theorem OwM.mv {w w' : World} {b n lo : Nat} {M : α → Option β} {ts : List TypeId} (h : OwM P kt et kV okK eL w b n M) (hm : Mv ts lo w w') : OwM P kt et kV okK eL w' b n M := by
  obtain ⟨D, ⟨es, c, h1, h2⟩, h3⟩ := h
  exact ⟨D, ⟨es, c, hm.kp b _ h1 (fun _ _ _ hh => by cases hh), h2⟩, h3⟩
theorem OwM.ne {w : World} {b n g N : Nat} {M : α → Option β} {e : TypeId} {f : Nat → Value} (h : OwM P kt et kV okK eL w b n M) (hB : Blk w g e N f) : g ≠ b := by
  rintro rfl
  obtain ⟨D, ⟨es, c, h1, _⟩, _⟩ := h
  obtain ⟨cur, h2, _⟩ := hB
  rw [h1] at h2
  cases h2
theorem OwM.congr {w : World} {b n : Nat} {M M' : α → Option β} (h : OwM P kt et kV okK eL w b n M) (he : ∀ x, okK x → M x = M' x) : OwM P kt et kV okK eL w b n M' := by
  obtain ⟨D, h1, h2⟩ := h
  exact ⟨D, h1, fun x hx l hl zd => by rw [h2 x hx l hl zd, he x hx]⟩
theorem OwM.look (T : MTy P t kt et kV okK eV eL okE z) {w : World} {b n : Nat} {M : α → Option β} (h : OwM P kt et kV okK eL w b n M) {x : α} (hx : okK x) :
    (Instr.lookup t (.map (some b)) (kV x) false).run P w = .ok (eV ((M x).getD z)) w := by
  obtain ⟨D, h1, h2⟩ := h
  obtain ⟨l, hl⟩ := T.key x hx
  obtain ⟨v, ps, hrun, hv⟩ := h1.lookup T.keyed T.und (T.zero w) (T.elem z T.zok) hl
  rw [hrun]
  rw [h2 x hx l hl] at hv
  cases hM : M x with
  | none => rw [hM] at hv; rw [T.back v z ps hv]; rfl
  | some y => rw [hM] at hv; rw [T.back v y ps hv]; rfl
open Classical in
noncomputable def setM (M : α → Option β) (x : α) (y : β) (i : α) : Option β := if i = x then some y else M i
theorem OwM.update (T : MTy P t kt et kV okK eV eL okE z) {w : World} {b n : Nat} {M : α → Option β} (h : OwM P kt et kV okK eL w b n M) {x : α} (hx : okK x) {y : β} (hy : okE y) (hn : n < maxLen) :
    ∃ w', (Instr.mapUpdate t (.map (some b)) (kV x) (eV y)).run P w = .ok () w' ∧ OwM P kt et kV okK eL w' b (n + 1) (setM M x y) ∧ w.grownBy w' (some b) := by
  obtain ⟨D, h1, h2⟩ := h
  obtain ⟨l, hl⟩ := T.key x hx
  obtain ⟨w', hrun, h3, hg⟩ := h1.update T.keyed T.und hn hl (T.elem y hy)
  refine ⟨w', hrun, ⟨_, h3, fun x' hx' l' hl' zd => ?_⟩, hg⟩
  unfold setM
  by_cases he : x' = x
  · subst he
    rw [hl] at hl'
    cases hl'
    rw [if_pos rfl, Go.Maps.atKey_put_same h1.isMap (T.keyed.key hl)]
  · rw [if_neg he, Go.Maps.atKey_put_other (show l' ≠ l from fun hll => he (T.inj _ _ (T.keyed.inj hl' (by rw [hll]; exact hl))))]
    exact h2 x' hx' l' hl' zd
end
/-- Whole numbers of 64 bits. -/
def ok64 (x : Int) : Prop := -9223372036854775808 ≤ x ∧ x ≤ 9223372036854775807
theorem wf64 {x : Int} (h : ok64 x) : (Lit.int .i64 x).wf = true := by
  have h1 : IntKind.min .i64 = -9223372036854775808 := by decide
  have h2 : IntKind.max .i64 = 9223372036854775807 := by decide
  simp only [Lit.wf, Bool.and_eq_true, decide_eq_true_eq]
  unfold ok64 at h
  omega
/-- The cells of a block stay what they are while a map is written. -/
theorem Blk.gm {w w' : World} {b g : Nat} {e : TypeId} {N : Nat} {f : Nat → Value} (h : Blk w b e N f) (hb : w.grownBy w' (some g)) (hne : b ≠ g) : Blk w' b e N f :=
  h.keep (hb.block b h.lt (fun e => hne (Option.some.inj e)))
end Go.Proofs.Lens

namespace Go.Proofs.YtcklnjjbhngbcaaGreatDoor
open Go.RowKit Go.Proofs.Lens

theorem i_bool : (Tryz.prog.info? 4).map (fun i => (i.zero, i.size, i.bytes)) = some (some (.bool false), 1, 1) := by kernel_rfl

theorem sound_fns {t : PTr} (h : Sound t) : 0 < t.fns.length ∧ t.fns.length ≤ 300 ∧ t.moms.length ≤ 3000 := by
  have := h.sizes
  simp only [sizesOk, Bool.and_eq_true, decide_eq_true_eq] at this
  omega
end Go.Proofs.YtcklnjjbhngbcaaGreatDoor

namespace Go.Proofs.YtcklnjjbhngbcaaGreatDoor
open Go.RowKit Go.Proofs.Lens

theorem m_int : MTy Tryz.prog 142 3 3 (fun x : Int => .int .i64 x) ok64 (fun y : Int => .int .i64 y) (fun y => .int .i64 y) ok64 0 where
  keyed := Go.Maps.int_keyed Tryz.underlying3
  und := Tryz.underlying142
  key x hx := ⟨_, Go.Maps.keyOf_int_mk Tryz.underlying3 (wf64 hx)⟩
  inj x y h := by simpa using h
  elem y hy := plainElem_int Tryz.underlying3 (wf64 hy)
  back v y ps h := by
    obtain ⟨a, rfl, h2, _⟩ := plainElem_int_inv Tryz.underlying3 h
    simp only [Prod.mk.injEq, DataW.lit.injEq, Lit.int.injEq, true_and] at h2
    rw [h2.1]
  zero w := by kernel_rfl
  zok := by unfold ok64; omega
abbrev OwMi (w : World) (b n : Nat) (M : Int → Option Int) : Prop := OwM Tryz.prog 3 3 (fun x : Int => .int .i64 x) ok64 (fun y => .int .i64 y) w b n M
theorem IsW.mv {w w' : World} {g lo : Nat} {v1 v2 : Value} {s : PS} {cl : List PFr} {f : Nat → Value} {ts : List TypeId} (h : IsW w g v1 v2 s cl f) (hm : Mv ts lo w w') (h1 : 146 ∉ ts) (h2 : 148 ∉ ts) : IsW w' g v1 v2 s cl f := by
  have hk : ∀ (b N : Nat) (f : Nat → Value), Blk w b 148 N f → w'.heap[b]? = w.heap[b]? := fun b N f hB => by
    obtain ⟨cur, h3, _⟩ := hB
    rw [h3]
    exact hm.kp b _ h3 (fun cur' e' fr' hh => by cases hh; exact h2)
  exact ⟨h.blk.mv hm h1, h.v1, h.v2, h.cur, fun i hi => by obtain ⟨p, a, b⟩ := h.stk i hi; exact ⟨p, a, b.keep hk⟩, by obtain ⟨c, a, b⟩ := h.cl; exact ⟨c, a, b.keep hk⟩⟩
theorem FrL.mv {w w' : World} {lo : Nat} {fs : List PFr} {p : Option Addr} {ts : List TypeId} (h : FrL w p fs) (hm : Mv ts lo w w') (h2 : 148 ∉ ts) : FrL w' p fs :=
  h.keep fun b N f hB => by
    obtain ⟨cur, h3, _⟩ := hB
    rw [h3]
    exact hm.kp b _ h3 (fun cur' e' fr' hh => by cases hh; exact h2)
theorem FrL.gm {w w' : World} {fs : List PFr} {p : Option Addr} {g : Nat} (h : FrL w p fs) (hg : w.grownBy w' (some g)) (hne : ∀ b e N f, Blk w b e N f → b ≠ g) : FrL w' p fs :=
  h.keep fun b N f hB => hg.block b hB.lt (fun hh => hne b _ N f hB (Option.some.inj hh))
theorem IsW.gm {w w' : World} {g gm : Nat} {v1 v2 : Value} {s : PS} {cl : List PFr} {f : Nat → Value} (h : IsW w g v1 v2 s cl f) (hg : w.grownBy w' (some gm)) (hne : ∀ b e N f, Blk w b e N f → b ≠ gm) : IsW w' g v1 v2 s cl f :=
  ⟨h.blk.gm hg (hne _ _ _ _ h.blk), h.v1, h.v2, h.cur, fun i hi => by obtain ⟨p, a, b⟩ := h.stk i hi; exact ⟨p, a, b.gm hg hne⟩, by obtain ⟨c, a, b⟩ := h.cl; exact ⟨c, a, b.gm hg hne⟩⟩

theorem bl_trans3 {lo : Nat} {a b c : World} (h : Below lo a b) (k : Below lo b c) : Below lo a c := ⟨k.os.trans h.os, k.tape.trans h.tape, k.output.trans h.output, Nat.le_trans h.size k.size, fun j hj => (k.block j hj).trans (h.block j hj)⟩
end Go.Proofs.YtcklnjjbhngbcaaGreatDoor
