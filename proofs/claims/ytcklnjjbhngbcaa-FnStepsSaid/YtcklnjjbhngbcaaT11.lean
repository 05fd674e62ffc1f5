/- The specification's l1inner, StackAt. -/
import Derived.Test.YtcklnjjbhngbcaaT9
import Derived.Test.YtcklnjjbhngbcaaB5
namespace Go.Proofs.Ytcklnjjbhngbcaa
open Go.RowKit Go.Proofs.Lens

theorem l1in_is (x a b : Int) (w : World) {q : Bool} (h : inB x a b = q) : Calls Try.prog 85 #[.int .i64 x, .int .i64 a, .int .i64 b] w fun e w' => e = .returned (.bool q) ∧ w = w' := h ▸ l1in_calls x a b w
set_option maxRecDepth 100000 in
set_option maxHeartbeats 2000000 in
theorem l1inner_calls (v : Value) (xs : List PFr) (w : World) (h : RdFrs w v xs) (hn : xs.length ≤ 1048576) :
    Calls Try.prog 100 #[v] w (OwRet w 59 3 xs.length (frC xs.reverse)) := by
  have HV := Lib.hid h
  obtain ⟨A, c, rfl, hm, -⟩ := h
  go_enter Try.func100, Try.ntmps100
  go_wp2_with fail
  go_loopw [3, 4] (fun o i wr => ∃ q : Nat, q ≤ xs.length ∧ i = .int .i64 ((xs.length : Int) - 1 - q) ∧ OwR wr w.heap.size 59 3 q (frC xs.reverse) o ∧ Below w.heap.size w wr) (fun _ i _ => (intOf i + 1).toNat)
  case atStart => exact ⟨0, Nat.zero_le _, by simp, OwR.nil, Below.refl _ _⟩
  case round =>
    obtain ⟨q, hq, rfl, hO, hb⟩ := hrel
    have HO := Lib.hid hO
    have HB := Lib.hid hb
    obtain ⟨A3, c3, rfl, -⟩ := hO.cap
    have hsz := hb.size
    clear hO hb
    by_cases hlt : q < xs.length
    · obtain ⟨p, hp⟩ : ∃ p : Nat, (xs.length : Int) - 1 - q = (p : Int) := ⟨xs.length - 1 - q, by omega⟩
      have hp' : p < xs.length := by omega
      obtain ⟨A', c', he, _, hrow⟩ := HV.out.later HB.out
      obtain ⟨rfl, rfl⟩ : A = A' ∧ c = c' := by simpa using he
      obtain ⟨b, o, rfl, hc⟩ := hrow (by omega)
      have x0 : wr.cell? ⟨b, o + p * 3, none⟩ = some (.int .i64 (elt xs p).fn) := hc p hp' 0 (by omega)
      have x1 : wr.cell? ⟨b, o + p * 3 + 1, none⟩ = some (.int .i64 (elt xs p).line) := hc p hp' 1 (by omega)
      have x2 : wr.cell? ⟨b, o + p * 3 + 2, none⟩ = some (.int .i64 (elt xs p).frm) := hc p hp' 2 (by omega)
      have hpi : (p : Int) < (xs.length : Int) := by omega
      have HN : Hid (elt xs.reverse q = elt xs p) := Lib.hid (by
        rw [elt_eq (by simpa using hlt), elt_eq hp', List.getElem_reverse]
        congr 1
        omega)
      rw [hp]
      have HP := Lib.hid hp
      clear hc he hrow hp
      go_wp2_with (at_builtin; refine stopped ?_)
      unfold Stopped
      refine wpList_append1 _ (by rfl) _ _ 56 (by rfl) w.heap.size 59 _ 3 24 Try.underlying56 i_frame rfl (by omega) _ q _ (frC xs.reverse) (by rfl) HO.out [.int .i64 (elt xs p).fn, .int .i64 (elt xs p).line, .int .i64 (elt xs p).frm] rfl (by simp [Value.oneCell']) (by rfl) (fun _ _ _ _ => rfl) ?hN hsz (by omega) (by omega) ?_
      case hN =>
        intro j hj
        simp only [frC, HN.out]
        match j, hj with
        | 0, _ => rfl
        | 1, _ => rfl
        | 2, _ => rfl
      intro g cap w1 hO1 hG1 _ _
      go_wp2
      go_roundw
      case rel =>
        have := HP.out
        exact ⟨q + 1, by omega, by congr 1 <;> omega, hO1, bl_own HB.out hsz HO.out hG1⟩
      case measure => simp [intOf] <;> omega
    · obtain rfl : q = xs.length := by omega
      go_wp2
      go_ret
      exact ⟨_, rfl, HO.out, HB.out⟩

set_option maxRecDepth 100000 in
set_option maxHeartbeats 2000000 in
theorem spec_StackAt_calls (v1 v2 : Value) (t : PTr) (k task : Int) (w : World) (h : RdTr w v1 v2 t) (hsm : smTr t) :
    Calls Try.prog 41 #[.agg #[v1, v2], .int .i64 k, .int .i64 task] w (OwRet w 59 3 (stackP t k task).length (frC (stackP t k task))) := by
  have HT := Lib.hid h
  have HS := Lib.hid hsm
  obtain ⟨⟨A1, c1, rfl, hn1, -⟩, ⟨vv, ⟨A2, c2, rfl, hn2, -⟩, -⟩⟩ := h
  clear hsm
  cases hs : soundP t with
  | false =>
    have HR : Hid (stackP t k task = []) := Lib.hid (by unfold stackP goodP; rw [hs]; rfl)
    have HQ := Lib.hid hs
    clear hs
    go_enter Try.func41, Try.ntmps41
    go_wp2_with fail
    refine (l1ok_is _ _ t _ (HT.out.later (by repeat (with_reducible first | exact Below.refl _ _ | exact HL.out | refine bl_drewN ?_ _ | refine bl_drew ?_ | refine bl_alloc ?_ _ | refine bl_set ?_ (by dsimp only; omega) _))) HS.out HQ.out).mono ?_; rintro e w1 ⟨rfl, hb⟩
    have HB := Lib.hid (bl_then (bl_alloc (Below.refl _ w) _) hb)
    clear hb
    go_wp2
    go_ret
    rw [HR.out]
    exact ⟨_, rfl, OwR.nil, HB.out⟩
  | true =>
    cases hp : placeOk t k with
    | false =>
      have HR : Hid (stackP t k task = []) := Lib.hid (by unfold stackP goodP; rw [hs, hp]; rfl)
      have HQ := Lib.hid hs
      have HP := Lib.hid hp
      clear hs hp
      go_enter Try.func41, Try.ntmps41
      go_wp2_with fail
      refine (l1ok_is _ _ t _ (HT.out.later (by repeat (with_reducible first | exact Below.refl _ _ | exact HL.out | refine bl_drewN ?_ _ | refine bl_drew ?_ | refine bl_alloc ?_ _ | refine bl_set ?_ (by dsimp only; omega) _))) HS.out HQ.out).mono ?_; rintro e w1 ⟨rfl, hb⟩
      have HX := Lib.hid ((BoxAt.new w [.slice A1 t.fns.length c1, .slice A2 t.moms.length c2] 35).later hb)
      have HB := Lib.hid (bl_then (bl_alloc (Below.refl _ w) _) hb)
      clear hb
      obtain ⟨x0, x1⟩ := HX.out.open2
      go_wp2_with fail
      refine (l1place_is _ _ t _ _ (HT.out.later HB.out) HP.out).mono ?_; rintro e w2 ⟨rfl, hb⟩
      clear x0 x1
      replace HB := Lib.hid (bl_then HB.out hb); clear hb
      go_wp2
      go_ret
      rw [HR.out]
      exact ⟨_, rfl, OwR.nil, HB.out⟩
    | true =>
      have hg : goodP t k = true := by unfold goodP; rw [hs, hp]; rfl
      cases ht : inB task 0 100 with
      | false =>
        have HR : Hid (stackP t k task = []) := Lib.hid (by unfold stackP; rw [hg, ht]; rfl)
        have HQ := Lib.hid hs
        have HP := Lib.hid hp
        have HI := Lib.hid ht
        clear hs hp hg ht
        go_enter Try.func41, Try.ntmps41
        go_wp2_with fail
        refine (l1ok_is _ _ t _ (HT.out.later (by repeat (with_reducible first | exact Below.refl _ _ | exact HL.out | refine bl_drewN ?_ _ | refine bl_drew ?_ | refine bl_alloc ?_ _ | refine bl_set ?_ (by dsimp only; omega) _))) HS.out HQ.out).mono ?_; rintro e w1 ⟨rfl, hb⟩
        have HX := Lib.hid ((BoxAt.new w [.slice A1 t.fns.length c1, .slice A2 t.moms.length c2] 35).later hb)
        have HB := Lib.hid (bl_then (bl_alloc (Below.refl _ w) _) hb)
        clear hb
        obtain ⟨x0, x1⟩ := HX.out.open2
        go_wp2_with fail
        refine (l1place_is _ _ t _ _ (HT.out.later HB.out) HP.out).mono ?_; rintro e w2 ⟨rfl, hb⟩
        clear x0 x1
        replace HB := Lib.hid (bl_then HB.out hb); clear hb
        go_wp2_with fail
        refine (l1in_is _ _ _ _ HI.out).mono ?_; rintro e w3 ⟨rfl, rfl⟩
        go_wp2
        go_ret
        rw [HR.out]
        exact ⟨_, rfl, OwR.nil, HB.out⟩
      | true =>
        have HR : Hid (stackP t k task = (atP t k).stk task) := Lib.hid (by unfold stackP; rw [hg, ht]; rfl)
        obtain ⟨t0, t1⟩ := inB_true.1 ht
        have hd := (good_cur hg).deep task
        have HQ := Lib.hid hs
        have HP := Lib.hid hp
        have HI := Lib.hid ht
        have HG := Lib.hid hg
        clear hs hp hg ht
        go_enter Try.func41, Try.ntmps41
        go_wp2_with fail
        refine (l1ok_is _ _ t _ (HT.out.later (by repeat (with_reducible first | exact Below.refl _ _ | exact HL.out | refine bl_drewN ?_ _ | refine bl_drew ?_ | refine bl_alloc ?_ _ | refine bl_set ?_ (by dsimp only; omega) _))) HS.out HQ.out).mono ?_; rintro e w1 ⟨rfl, hb⟩
        have HX := Lib.hid ((BoxAt.new w [.slice A1 t.fns.length c1, .slice A2 t.moms.length c2] 35).later hb)
        have HB := Lib.hid (bl_then (bl_alloc (Below.refl _ w) _) hb)
        clear hb
        obtain ⟨x0, x1⟩ := HX.out.open2
        go_wp2_with fail
        refine (l1place_is _ _ t _ _ (HT.out.later HB.out) HP.out).mono ?_; rintro e w2 ⟨rfl, hb⟩
        clear x0 x1
        replace HB := Lib.hid (bl_then HB.out hb); replace HX := Lib.hid (HX.out.later hb); clear hb
        go_wp2_with fail
        refine (l1in_is _ _ _ _ HI.out).mono ?_; rintro e w3 ⟨rfl, rfl⟩
        obtain ⟨x0, x1⟩ := HX.out.open2
        go_wp2_with fail
        refine (l1stand_calls _ _ t _ _ (HT.out.later HB.out) HS.out HG.out).mono ?_; rintro e w3 ⟨g, T, f, rfl, hS, hb⟩
        obtain ⟨Ad, cpd, c0, cr, -, -, hO⟩ := hS.at t0 t1
        have HO := Lib.hid hO
        have hxt : task < 101 := by omega
        clear hS x0 x1 hO
        replace HB := Lib.hid (bl_then HB.out hb); clear hb
        go_wp2_with fail
        have hrd : RdFrs w3 (.slice Ad ((atP t k).stk task).length cpd) ((atP t k).stk task).reverse := by
          have := HO.out.rd
          unfold RdFrs
          rw [List.length_reverse]
          exact this
        refine (l1inner_calls _ _ _ hrd (by rw [List.length_reverse]; omega)).mono ?_
        rintro e w4 ⟨u, rfl, hO, hb⟩
        rw [List.length_reverse, List.reverse_reverse] at hO
        have HO2 := Lib.hid (hO.lower (lo' := w.heap.size) HB.out.size)
        clear hO hrd
        replace HB := Lib.hid (bl_then HB.out hb); clear hb
        go_wp2
        go_ret
        rw [HR.out]
        exact ⟨_, rfl, HO2.out, HB.out⟩
end Go.Proofs.Ytcklnjjbhngbcaa
