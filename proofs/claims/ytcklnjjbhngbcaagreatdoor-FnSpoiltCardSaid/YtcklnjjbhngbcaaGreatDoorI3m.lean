/- momentOk, TraceOk, sound. -/
import Derived.Test.YtcklnjjbhngbcaaGreatDoorI2
import Derived.Test.YtcklnjjbhngbcaaGreatDoorI0
import Derived.Test.YtcklnjjbhngbcaaGreatDoorL1
import Derived.Deep.DeepCutAuto
import Derived.Deep.CutBlock
namespace Go.Proofs.YtcklnjjbhngbcaaGreatDoor
open Go.RowKit Go.Proofs.Lens

theorem varsOk_snoc (xs : List PVar) (k : Nat) (hk : k < xs.length) : varsOk (xs.take (k + 1)) = (varsOk (xs.take k) && varOk (elt xs k)) := by
  unfold varsOk; rw [take_snoc hk]; simp

set_option maxRecDepth 100000 in
set_option maxHeartbeats 2000000 in
theorem momentOk_calls (v1 v2 v : Value) (t : PTr) (m : PMom) (w : World) (h : RdTr w v1 v2 t) (hv : RdVars w v m.vars) (hsm : smMom m) (hfn : t.fns.length ≤ 1048576) :
    Calls Tryz.prog 70 #[.agg #[v1, v2], .agg #[.int .i64 m.kind, .int .i64 m.task, .int .i64 m.fn, .int .i64 m.line, .string m.text, v]] w fun e w' =>
      e = .returned (.bool (momOk t.fns.length m)) ∧ Below w.heap.size w w' := by
  obtain ⟨⟨A1, c1, rfl, -⟩, -⟩ := h
  have HV := Lib.hid hv
  obtain ⟨A, c, rfl, hn, hrow⟩ := hv
  obtain ⟨hs1, hs2, hs3⟩ := hsm
  have HS := Lib.hid hs3
  clear hrow hs3
  go_enter Tryz.func70, Tryz.ntmps70
  go_upto_region 1 with fail
  generalize hW : World.alloc (World.alloc w _) _ = W
  have hb : Below w.heap.size w W := by rw [← hW]; exact (by repeat (with_reducible first | exact Below.refl _ _ | exact HL.out | refine bl_drewN ?_ _ | refine bl_drew ?_ | refine bl_alloc ?_ _ | refine bl_set ?_ (by dsimp only; omega) _))
  have x0 : W.cell? ⟨w.heap.size, 0, none⟩ = some (.slice A1 t.fns.length c1) := by rw [← hW]; clear hW; go_simp
  have y0 : W.cell? ⟨w.heap.size + 1, 0, none⟩ = some (.int .i64 m.kind) := by rw [← hW]; clear hW; go_simp
  have y1 : W.cell? ⟨w.heap.size + 1, 1, none⟩ = some (.int .i64 m.task) := by rw [← hW]; clear hW; go_simp
  have y2 : W.cell? ⟨w.heap.size + 1, 2, none⟩ = some (.int .i64 m.fn) := by rw [← hW]; clear hW; go_simp
  have y3 : W.cell? ⟨w.heap.size + 1, 3, none⟩ = some (.int .i64 m.line) := by rw [← hW]; clear hW; go_simp
  have y4 : W.cell? ⟨w.heap.size + 1, 4, none⟩ = some (.string m.text) := by rw [← hW]; clear hW; go_simp
  have y5 : W.cell? ⟨w.heap.size + 1, 5, none⟩ = some (.slice A m.vars.length c) := by rw [← hW]; clear hW; go_simp
  have HB := Lib.hid hb
  clear hW hb
  go_cut [5] (fun s5 wx => s5 = .bool (momHd t.fns.length m) ∧ W = wx)
  case first =>
    go_wp2_with (first | (go_at_call 116; refine (inside_calls _ _ _ _).mono ?_; rintro e w1 ⟨rfl, rfl⟩))
    all_goals
      go_meet
      refine ⟨?_, rfl⟩
      go_tidy
      congr 1
      unfold momHd
      grind
  case rest =>
    obtain ⟨rfl, rfl⟩ := hcut
    clear x0 y0 y1 y2 y3 y4
    go_wp2_with fail
    go_loopw [5, 55] (fun ok i wr => ∃ k : Nat, k ≤ m.vars.length ∧ i = .int .i64 k ∧ ok = .bool (momHd t.fns.length m && varsOk (m.vars.take k)) ∧ Below w.heap.size w wr) (fun _ i _ => m.vars.length - (intOf i).toNat)
    case atStart => exact ⟨0, Nat.zero_le _, rfl, by simp [varsOk], HB.out⟩
    case round =>
      obtain ⟨k, hk, rfl, rfl, hb⟩ := hrel
      have HL := Lib.hid hb
      by_cases hlt : k < m.vars.length
      · obtain ⟨A', c', he, _, hrow⟩ := HV.out.later hb
        obtain ⟨rfl, rfl⟩ : A = A' ∧ c = c' := by simpa using he
        obtain ⟨b, o, rfl, hc⟩ := hrow (by omega)
        have hc0 : wr.cell? ⟨b, o + k * 2, none⟩ = some (.string (elt m.vars k).nm) := hc k hlt 0 (by omega)
        have hc1 : wr.cell? ⟨b, o + k * 2 + 1, none⟩ = some (.string (elt m.vars k).tx) := hc k hlt 1 (by omega)
        have HSn := Lib.hid (varsOk_snoc m.vars k hlt)
        have hz := HS.out k hlt
        obtain ⟨hz1, hz2⟩ := hz
        clear hc he hrow hb
        generalize hq : (momHd t.fns.length m && varsOk (m.vars.take k)) = q
        have HQ := Lib.hid hq
        clear hq
        go_wp2_with (first | (go_at_call 116; refine (inside_calls _ _ _ _).mono ?_; rintro e w1 ⟨rfl, rfl⟩))
        all_goals
          go_roundw
          case rel =>
            refine ⟨k + 1, by omega, by go_num, congrArg Value.bool ?_, (by repeat (with_reducible first | exact Below.refl _ _ | exact HL.out | refine bl_drewN ?_ _ | refine bl_drew ?_ | refine bl_alloc ?_ _ | refine bl_set ?_ (by dsimp only; omega) _))⟩
            rw [HSn.out, ← Bool.and_assoc, HQ.out]
            go_tidy
            unfold varOk
            grind
          case measure => simp [intOf]; omega
      · obtain rfl : k = m.vars.length := by omega
        clear hb
        go_wp2
        go_ret
        exact ⟨ret_bool (by rw [List.take_length]; rfl), HL.out⟩

theorem fnsOk_snoc (xs : List ByteArray) (k : Nat) (hk : k < xs.length) : fnsOk (xs.take (k + 1)) = (fnsOk (xs.take k) && decide ((elt xs k).size ≤ 40)) := by
  unfold fnsOk; rw [take_snoc hk]; simp
theorem rd_moment {w : World} {A : Option Addr} {n c : Nat} {ms : List PMom} (h : RdMoms w (.slice A n c) ms) {k : Nat} (hk : k < ms.length) :
    ∃ b o v, A = some ⟨b, o, none⟩ ∧ w.cell? ⟨b, o + k * 6, none⟩ = some (.int .i64 (elt ms k).kind) ∧ w.cell? ⟨b, o + k * 6 + 1, none⟩ = some (.int .i64 (elt ms k).task) ∧
      w.cell? ⟨b, o + k * 6 + 2, none⟩ = some (.int .i64 (elt ms k).fn) ∧ w.cell? ⟨b, o + k * 6 + 3, none⟩ = some (.int .i64 (elt ms k).line) ∧
      w.cell? ⟨b, o + k * 6 + 4, none⟩ = some (.string (elt ms k).text) ∧ w.cell? ⟨b, o + k * 6 + 5, none⟩ = some v ∧ RdVars w v (elt ms k).vars := by
  obtain ⟨vv, ⟨A', c', he, _, hrow⟩, hvv⟩ := h
  obtain ⟨rfl, -, -⟩ : A = A' ∧ n = ms.length ∧ c = c' := by simpa using he
  obtain ⟨b, o, rfl, hc⟩ := hrow (by omega)
  exact ⟨b, o, vv k, rfl, hc k hk 0 (by omega), hc k hk 1 (by omega), hc k hk 2 (by omega), hc k hk 3 (by omega), hc k hk 4 (by omega), hc k hk 5 (by omega), hvv k hk⟩
/-- The sizes' part that is asked first. -/
def szHd (t : PTr) : Bool := decide (t.fns.length = 0) || (decide (300 < t.fns.length) || decide (3000 < t.moms.length))
theorem sizesOk_eq (t : PTr) : sizesOk t = !(szHd t || !fnsOk t.fns) := by
  unfold sizesOk szHd
  cases fnsOk t.fns <;> grind

end Go.Proofs.YtcklnjjbhngbcaaGreatDoor
