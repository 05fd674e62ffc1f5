/- StackAt. -/
import Derived.Test.YtcklnjjbhngbcaaGreatDoorI5
import Derived.Test.YtcklnjjbhngbcaaGreatDoorB5
import Derived.Deep.LoopGhost
namespace Go.Proofs.YtcklnjjbhngbcaaGreatDoor
open Go.RowKit Go.Proofs.Lens

theorem i_frame' : (Tryz.prog.info? 42).map (fun i => (i.zero, i.size, i.bytes)) = some (some (.agg #[.int .i64 0, .int .i64 0, .int .i64 0]), 3, 24) := by kernel_rfl
theorem FrL.own {w w' : World} {fs : List PFr} {p : Option Addr} (h : FrL w p fs) {lo n sz : Nat} {e : TypeId} {C : Nat → Nat → Value} {v : Value} (hO : OwR w lo e sz n C v) (he : e ≠ 148) (hg : w.grownBy w' v.ownBlock) : FrL w' p fs :=
  h.keep fun b N f hB => hg.block b hB.lt (fun hh => by
    obtain ⟨N', f', hB'⟩ := hO.block hh.symm
    exact hB'.ne hB he rfl)

theorem stack_len (t : PTr) (k task : Int) : (stackP t k task).length ≤ 1048576 := by
  unfold stackP
  split
  · rename_i h
    rw [Bool.and_eq_true] at h
    have := (igood_cur h.1).deep task
    omega
  · simp
set_option maxRecDepth 100000 in
set_option maxHeartbeats 2000000 in
theorem impl_StackAt_calls (v1 v2 : Value) (t : PTr) (k task : Int) (w : World) (h : RdTr w v1 v2 t) (hsm : smTr t) :
    Calls Tryz.prog 149 #[.agg #[v1, v2], .int .i64 k, .int .i64 task] w (OwRet w 42 3 (stackP t k task).length (frC (stackP t k task))) := by
  have HT := Lib.hid h
  have HS := Lib.hid hsm
  obtain ⟨⟨A1, c1, rfl, hn1, -⟩, ⟨vv, ⟨A2, c2, rfl, hn2, -⟩, -⟩⟩ := h
  clear hsm
  cases hg : goodP t k with
  | false =>
    have HR : Hid (stackP t k task = []) := Lib.hid (by unfold stackP; rw [hg]; rfl)
    have HG := Lib.hid hg
    clear hg
    go_enter Tryz.func149, Tryz.ntmps149
    go_wp2_with fail
    refine (at_bad _ _ t k _ (HT.out.later (by repeat (with_reducible first | exact Below.refl _ _ | exact HL.out | refine bl_drewN ?_ _ | refine bl_drew ?_ | refine bl_alloc ?_ _ | refine bl_set ?_ (by dsimp only; omega) _))) HS.out HG.out).mono ?_; rintro e w1 ⟨rfl, hb⟩
    have HB := Lib.hid (bl_then (bl_alloc (Below.refl _ w) _) hb)
    clear hb
    go_wp2
    go_ret
    rw [HR.out]
    exact ⟨_, rfl, OwR.nil, HB.out⟩
  | true =>
    cases ht : inB task 0 100 with
    | false =>
      have HR : Hid (stackP t k task = []) := Lib.hid (by unfold stackP; rw [hg, ht]; rfl)
      have HG := Lib.hid hg
      have HI := Lib.hid ht
      clear hg ht
      go_enter Tryz.func149, Tryz.ntmps149
      go_wp2_with fail
      refine (at_good _ _ t k _ (HT.out.later (by repeat (with_reducible first | exact Below.refl _ _ | exact HL.out | refine bl_drewN ?_ _ | refine bl_drew ?_ | refine bl_alloc ?_ _ | refine bl_set ?_ (by dsimp only; omega) _))) HS.out HG.out).mono ?_; rintro e w1 ⟨g, cl, f, rfl, hW, hgs, hb⟩
      have HB := Lib.hid (bl_then (bl_alloc (Below.refl _ w) _) hb)
      clear hb hW hgs
      go_wp2_with fail
      refine (inside_is _ _ _ _ HI.out).mono ?_; rintro e w2 ⟨rfl, rfl⟩
      go_wp2
      go_ret
      rw [HR.out]
      exact ⟨_, rfl, OwR.nil, HB.out⟩
    | true =>
      have hR : stackP t k task = (atP t k).stk task := by unfold stackP; rw [hg, ht]; rfl
      obtain ⟨t0, t1⟩ := inB_true.1 ht
      have hd := (igood_cur hg).deep task
      rw [← hR] at hd
      have HR := Lib.hid hR
      have HG := Lib.hid hg
      have HI := Lib.hid ht
      clear hg ht hR
      generalize stackP t k task = L at HR hd
      go_enter Tryz.func149, Tryz.ntmps149
      go_wp2_with fail
      refine (at_good _ _ t k _ (HT.out.later (by repeat (with_reducible first | exact Below.refl _ _ | exact HL.out | refine bl_drewN ?_ _ | refine bl_drew ?_ | refine bl_alloc ?_ _ | refine bl_set ?_ (by dsimp only; omega) _))) HS.out HG.out).mono ?_; rintro e w1 ⟨g, cl, f, rfl, hW, hgs, hb⟩
      have HB := Lib.hid (bl_then (bl_alloc (Below.refl _ w) _) hb)
      obtain ⟨p, cp, hl⟩ := hW.at t0 t1
      have hxt : task < 101 := by omega
      have HL : Hid (FrL w1 p L) := Lib.hid (by rw [HR.out]; exact hl)
      clear hb hW hgs hl
      go_wp2_with fail
      refine (inside_is _ _ _ _ HI.out).mono ?_; rintro e w2 ⟨rfl, rfl⟩
      go_wp2_with fail
      go_loopg [8, 9] L.length (fun gk o a wr => ∃ (q : Nat) (p : Option Addr), q + gk = L.length ∧ a = .pointer p ∧ FrL wr p (L.drop q) ∧ OwR wr w.heap.size 42 3 q (frC L) o ∧ Below w.heap.size w wr)
      case atStart => exact ⟨0, p, by omega, rfl, by simpa using HL.out, OwR.nil, HB.out⟩
      case round =>
        obtain ⟨q, p, hq, rfl, hl, hO, hb⟩ := hrel
        clear HL HB
        have HO := Lib.hid hO
        have HB := Lib.hid hb
        have hsz := hb.size
        obtain ⟨A3, c3, rfl, -⟩ := hO.cap
        clear hO hb
        by_cases hlt : q < L.length
        · rw [drop_cons hlt] at hl
          obtain ⟨b, nx, rfl, hB, hl2⟩ := hl
          have HL := Lib.hid hl2
          have x0 : wr.cell? ⟨b, 0, none⟩ = some (.int .i64 (elt L q).fn) := hB.cell (j := 0) (by omega)
          have x1 : wr.cell? ⟨b, 1, none⟩ = some (.int .i64 (elt L q).line) := hB.cell (j := 1) (by omega)
          have x2 : wr.cell? ⟨b, 2, none⟩ = some (.int .i64 (elt L q).frm) := hB.cell (j := 2) (by omega)
          have HK := Lib.hid hB
          clear hB hl2
          go_wp2_with (at_builtin; refine stopped ?_)
          unfold Stopped
          refine wpList_append1 _ (by rfl) _ _ 35 (by rfl) w.heap.size 42 _ 3 24 Tryz.underlying35 i_frame' rfl (by omega) _ q _ (frC L) (by rfl) HO.out [.int .i64 (elt L q).fn, .int .i64 (elt L q).line, .int .i64 (elt L q).frm] rfl (by simp [Value.oneCell']) (by rfl) (fun _ _ _ _ => rfl) ?hN hsz (by omega) (by omega) ?_
          case hN =>
            intro j hj
            match j, hj with
            | 0, _ => rfl
            | 1, _ => rfl
            | 2, _ => rfl
          intro ga cap w1 hO1 hG1 _ _
          have x3 : w1.cell? ⟨b, 3, none⟩ = some (.pointer nx) := by
            have h1 : Blk w1 b 148 5 _ := HK.out.keep (hG1.block b HK.out.lt (fun hh => by
              obtain ⟨N', f', hB'⟩ := HO.out.block hh.symm
              exact hB'.ne HK.out (by decide) rfl))
            exact h1.cell (j := 3) (by omega)
          have HL1 := Lib.hid (HL.out.own HO.out (by decide) hG1)
          have HB1 := Lib.hid (bl_own HB.out hsz HO.out hG1)
          have HO1 := Lib.hid hO1
          clear hO1 hG1 x0 x1 x2 HK
          go_wp2
          go_roundg (gk - 1)
          case measure => omega
          case rel => exact ⟨q + 1, nx, by omega, rfl, HL1.out, HO1.out, HB1.out⟩
        · obtain rfl : q = L.length := by omega
          rw [List.drop_length] at hl
          obtain rfl : p = none := hl
          go_wp2
          go_ret
          exact ⟨_, rfl, HO.out, HB.out⟩
end Go.Proofs.YtcklnjjbhngbcaaGreatDoor
