/- The specification's l3good, l3all, l3any, l3next, l3last, Next, Last. -/
import Derived.Test.YtcklnjjbhngbcaaT18
import Derived.Test.YtcklnjjbhngbcaaI12
namespace Go.Proofs.Ytcklnjjbhngbcaa
open Go.RowKit Go.Proofs.Lens

theorem i_bools : (Try.prog.info? 101).map (fun i => (i.zero, i.size, i.bytes)) = some (some (.slice none 0 0), 1, 24) := by kernel_rfl
/-- The places of all stops. -/
def AllH (w : World) (lo n : Nat) (ms : List PMom) (ss : List PStop) (q : Nat) (v : Value) : Prop :=
  ∃ f : Nat → Value, OwR w lo 101 1 q (fun i _ => f i) v ∧ ∀ i, i < q → OwR w lo 4 1 n (hdC ms (elt ss i)) (f i)
theorem AllH.later {w w' : World} {lo n : Nat} {ms : List PMom} {ss : List PStop} {q : Nat} {v : Value} (h : AllH w lo n ms ss q v) (hb : Below w.heap.size w w') : AllH w' lo n ms ss q v := by
  obtain ⟨f, h1, h2⟩ := h
  exact ⟨f, h1.later hb, fun i hi => (h2 i hi).later hb⟩
set_option maxRecDepth 100000 in
set_option maxHeartbeats 2000000 in
theorem l3good_calls (v1 v2 v3 : Value) (t : PTr) (ss : List PStop) (k : Int) (w : World) (h : RdTr w v1 v2 t) (hsm : smTr t) (hss : RdStops w v3 ss) :
    Calls Try.prog 127 #[.agg #[v1, v2], v3, .int .i64 k] w fun e w' => e = .returned (.bool (stopsGood t ss k)) ∧ Below w.heap.size w w' := by
  have HT := Lib.hid h
  have HS := Lib.hid hsm
  obtain ⟨⟨A1, c1, rfl, hn1, -⟩, ⟨vv, ⟨A2, c2, rfl, hn2, -⟩, -⟩⟩ := h
  obtain ⟨A3, c3, rfl, hn3, hrow⟩ := hss
  have HROW := Lib.hid hrow
  have hsz := hsm.2.1
  clear hsm hrow
  cases hs : soundP t with
  | false =>
    have HR : Hid (stopsGood t ss k = false) := Lib.hid (by unfold stopsGood; rw [hs]; rfl)
    have HQ := Lib.hid hs
    clear hs
    go_enter Try.func127, Try.ntmps127
    go_wp2_with fail
    refine (l1ok_is _ _ t _ (HT.out.later (by repeat (with_reducible first | exact Below.refl _ _ | exact HL.out | refine bl_drewN ?_ _ | refine bl_drew ?_ | refine bl_alloc ?_ _ | refine bl_set ?_ (by dsimp only; omega) _))) HS.out HQ.out).mono ?_; rintro e w1 ⟨rfl, hb⟩
    have HB := Lib.hid (bl_then (bl_alloc (Below.refl _ w) _) hb)
    clear hb
    go_wp2
    go_ret
    exact ⟨by rw [HR.out]; rfl, HB.out⟩
  | true =>
    have HQ := Lib.hid hs
    cases hp : placeOk t k with
    | false =>
      have HR : Hid (stopsGood t ss k = false) := Lib.hid (by unfold stopsGood; rw [hs, hp]; rfl)
      have HP := Lib.hid hp
      clear hs hp
      go_enter Try.func127, Try.ntmps127
      go_wp2_with fail
      refine (l1ok_is _ _ t _ (HT.out.later (by repeat (with_reducible first | exact Below.refl _ _ | exact HL.out | refine bl_drewN ?_ _ | refine bl_drew ?_ | refine bl_alloc ?_ _ | refine bl_set ?_ (by dsimp only; omega) _))) HS.out HQ.out).mono ?_; rintro e w1 ⟨rfl, hb⟩
      have HX := Lib.hid ((Blk.made w #[.slice A1 t.fns.length c1, .slice A2 t.moms.length c2] 35).later hb)
      have HB := Lib.hid (bl_then (bl_alloc (Below.refl _ w) _) hb)
      have x0 : w1.cell? ⟨w.heap.size, 0, none⟩ = some (.slice A1 t.fns.length c1) := HX.out.cell (j := 0) (by simp)
      have x1 : w1.cell? ⟨w.heap.size, 1, none⟩ = some (.slice A2 t.moms.length c2) := HX.out.cell (j := 1) (by simp)
      clear hb
      go_wp2_with fail
      refine (l1place_is _ _ t _ _ (HT.out.later HB.out) HP.out).mono ?_; rintro e w2 ⟨rfl, hb⟩
      replace HB := Lib.hid (bl_then HB.out hb); clear hb
      go_wp2
      go_ret
      exact ⟨by rw [HR.out]; rfl, HB.out⟩
    | true =>
      have HP := Lib.hid hp
      have HG : Hid (stopsGood t ss k = (decide (ss.length ≤ 50) && ss.all stopOk)) := Lib.hid (by unfold stopsGood; rw [hs, hp]; simp)
      clear hs hp
      go_enter Try.func127, Try.ntmps127
      go_wp2_with fail
      refine (l1ok_is _ _ t _ (HT.out.later (by repeat (with_reducible first | exact Below.refl _ _ | exact HL.out | refine bl_drewN ?_ _ | refine bl_drew ?_ | refine bl_alloc ?_ _ | refine bl_set ?_ (by dsimp only; omega) _))) HS.out HQ.out).mono ?_; rintro e w1 ⟨rfl, hb⟩
      have HX := Lib.hid ((Blk.made w #[.slice A1 t.fns.length c1, .slice A2 t.moms.length c2] 35).later hb)
      have HB := Lib.hid (bl_then (bl_alloc (Below.refl _ w) _) hb)
      have x0 : w1.cell? ⟨w.heap.size, 0, none⟩ = some (.slice A1 t.fns.length c1) := HX.out.cell (j := 0) (by simp)
      have x1 : w1.cell? ⟨w.heap.size, 1, none⟩ = some (.slice A2 t.moms.length c2) := HX.out.cell (j := 1) (by simp)
      clear hb
      go_wp2_with fail
      refine (l1place_is _ _ t _ _ (HT.out.later HB.out) HP.out).mono ?_; rintro e w2 ⟨rfl, hb⟩
      clear x0 x1 HX
      replace HB := Lib.hid (bl_then HB.out hb); clear hb
      by_cases hl : ss.length ≤ 50
      · have hl1 : (ss.length : Int) ≤ 50 := by omega
        go_wp2_with fail
        go_loopw [25] (fun i wr => ∃ q : Nat, q ≤ ss.length ∧ i = .int .i64 q ∧ (ss.take q).all stopOk = true ∧ Below w.heap.size w wr) (fun i _ => ss.length - (intOf i).toNat)
        case atStart => exact ⟨0, Nat.zero_le _, rfl, by simp, HB.out⟩
        case round =>
          obtain ⟨q, hq, rfl, hall, hB⟩ := hrel
          clear HB
          have HB := Lib.hid hB
          have HALL := Lib.hid hall
          clear hB hall
          by_cases hlt : q < ss.length
          · obtain ⟨bs, os, rfl, c0, c1', c2', c3'⟩ := stop_cells (HROW.out.later HB.out) hlt
            go_upto_region 6 with fail
            have HSB : Hid (Blk (wr.alloc _) wr.heap.size 27 4 _) := Lib.hid (Blk.made wr #[.int .i64 (elt ss q).kind, .int .i64 (elt ss q).fn, .int .i64 (elt ss q).line, .string (elt ss q).nm] 27)
            generalize hW2 : World.alloc wr _ = W3 at HSB ⊢
            have hbl : Below wr.heap.size wr W3 := by rw [← hW2]; exact bl_alloc (Below.refl _ _) _
            clear hW2 c0 c1' c2' c3'
            replace HB := Lib.hid (bl_then HB.out hbl); clear hbl
            have y0 : W3.cell? ⟨wr.heap.size, 0, none⟩ = some (.int .i64 (elt ss q).kind) := HSB.out.cell (j := 0) (by simp)
            have y1 : W3.cell? ⟨wr.heap.size, 1, none⟩ = some (.int .i64 (elt ss q).fn) := HSB.out.cell (j := 1) (by simp)
            have y2 : W3.cell? ⟨wr.heap.size, 2, none⟩ = some (.int .i64 (elt ss q).line) := HSB.out.cell (j := 2) (by simp)
            have y3 : W3.cell? ⟨wr.heap.size, 3, none⟩ = some (.string (elt ss q).nm) := HSB.out.cell (j := 3) (by simp)
            go_wp2_with fail
            clear y0 y1 y2 y3
            cases hst : stopOk (elt ss q) with
            | false =>
              have HST := Lib.hid hst
              have HR : Hid (stopsGood t ss k = false) := Lib.hid (by rw [HG.out, all_of hlt hst]; simp)
              clear hst
              refine (spec_StopOk_un _ _ HST.out).mono ?_; rintro e w4 ⟨rfl, hb⟩
              replace HB := Lib.hid (bl_then HB.out hb); clear hb
              go_wp2
              go_ret
              exact ⟨by rw [HR.out]; rfl, HB.out⟩
            | true =>
              have HST := Lib.hid hst
              clear hst
              refine (spec_StopOk_un _ _ HST.out).mono ?_; rintro e w4 ⟨rfl, hb⟩
              replace HB := Lib.hid (bl_then HB.out hb); clear hb
              go_wp2
              go_roundw
              case rel => exact ⟨q + 1, by omega, by go_num, by rw [all_take hlt HALL.out]; exact HST.out, HB.out⟩
              case measure => simp [intOf]; omega
          · obtain rfl : q = ss.length := by omega
            have HR : Hid (stopsGood t ss k = true) := Lib.hid (by rw [HG.out]; have := HALL.out; rw [List.take_length] at this; simp [this, hl])
            go_wp2
            go_ret
            exact ⟨by rw [HR.out]; rfl, HB.out⟩
      · have HR : Hid (stopsGood t ss k = false) := Lib.hid (by rw [HG.out]; simp [hl])
        have hl' : ¬ ((ss.length : Int) ≤ 50) := by omega
        go_wp2
        go_ret
        exact ⟨by rw [HR.out]; rfl, HB.out⟩

set_option maxRecDepth 100000 in
set_option maxHeartbeats 4000000 in
theorem l3all_calls (v1 v2 v3 : Value) (t : PTr) (ss : List PStop) (w : World) (h : RdTr w v1 v2 t) (hsm : smTr t) (hs : soundP t = true) (hss : RdStops w v3 ss) (hl : ss.length ≤ 50) (hall : ss.all stopOk = true) :
    Calls Try.prog 129 #[.agg #[v1, v2], v3] w fun e w' => ∃ v, e = .returned v ∧ AllH w' w.heap.size t.moms.length t.moms ss ss.length v ∧ Below w.heap.size w w' := by
  have HT := Lib.hid h
  have HS := Lib.hid hsm
  have HQ := Lib.hid hs
  have HALL := Lib.hid hall
  obtain ⟨⟨A1, c1, rfl, hn1, -⟩, ⟨vv, ⟨A2, c2, rfl, hn2, -⟩, -⟩⟩ := h
  obtain ⟨A3, c3, rfl, hn3, hrow⟩ := hss
  have HROW := Lib.hid hrow
  have hsz := hsm.2.1
  clear hsm hrow hs hall
  go_enter Try.func129, Try.ntmps129
  go_wp2_with fail
  go_loopw [5, 10] (fun ov i wr => ∃ q : Nat, q ≤ ss.length ∧ i = .int .i64 q ∧ AllH wr w.heap.size t.moms.length t.moms ss q ov ∧ Below w.heap.size w wr ∧
    Blk wr w.heap.size 35 2 (fun j => #[Value.slice A1 t.fns.length c1, .slice A2 t.moms.length c2].getD j undef)) (fun _ i _ => ss.length - (intOf i).toNat)
  case atStart => exact ⟨0, Nat.zero_le _, rfl, ⟨fun _ => undef, OwR.nil, fun i hi => absurd hi (by omega)⟩, (by repeat (with_reducible first | exact Below.refl _ _ | exact HL.out | refine bl_drewN ?_ _ | refine bl_drew ?_ | refine bl_alloc ?_ _ | refine bl_set ?_ (by dsimp only; omega) _)), Blk.made w #[.slice A1 t.fns.length c1, .slice A2 t.moms.length c2] 35⟩
  case round =>
    obtain ⟨q, hq, rfl, ⟨f, hO, hF⟩, hB, hX⟩ := hrel
    obtain ⟨Ao, co, rfl, -⟩ := hO.cap
    have HO := Lib.hid hO
    have HF := Lib.hid hF
    have HB := Lib.hid hB
    have HX := Lib.hid hX
    clear hO hF hB hX
    by_cases hlt : q < ss.length
    · obtain ⟨bs, os, rfl, k0, k1, k2, k3⟩ := stop_cells (HROW.out.later HB.out) hlt
      go_upto_region 5 with fail
      have HSB : Hid (Blk (wr.alloc _) wr.heap.size 27 4 _) := Lib.hid (Blk.made wr #[.int .i64 (elt ss q).kind, .int .i64 (elt ss q).fn, .int .i64 (elt ss q).line, .string (elt ss q).nm] 27)
      generalize hW2 : World.alloc wr _ = W3 at HSB ⊢
      have hbl : Below wr.heap.size wr W3 := by rw [← hW2]; exact bl_alloc (Below.refl _ _) _
      clear hW2 k0 k1 k2 k3
      replace HF := Lib.hid (fun i hi => (HF.out i hi).later hbl)
      replace HB := Lib.hid (bl_then HB.out hbl); replace HO := Lib.hid (HO.out.later hbl); replace HX := Lib.hid (HX.out.later hbl); clear hbl
      have x0 : W3.cell? ⟨w.heap.size, 0, none⟩ = some (.slice A1 t.fns.length c1) := HX.out.cell (j := 0) (by simp)
      have x1 : W3.cell? ⟨w.heap.size, 1, none⟩ = some (.slice A2 t.moms.length c2) := HX.out.cell (j := 1) (by simp)
      have y0 : W3.cell? ⟨wr.heap.size, 0, none⟩ = some (.int .i64 (elt ss q).kind) := HSB.out.cell (j := 0) (by simp)
      have y1 : W3.cell? ⟨wr.heap.size, 1, none⟩ = some (.int .i64 (elt ss q).fn) := HSB.out.cell (j := 1) (by simp)
      have y2 : W3.cell? ⟨wr.heap.size, 2, none⟩ = some (.int .i64 (elt ss q).line) := HSB.out.cell (j := 2) (by simp)
      have y3 : W3.cell? ⟨wr.heap.size, 3, none⟩ = some (.string (elt ss q).nm) := HSB.out.cell (j := 3) (by simp)
      have HST : Hid (stopOk (elt ss q) = true) := Lib.hid (by
        cases hst : stopOk (elt ss q) with
        | true => rfl
        | false => have := all_of hlt hst; rw [HALL.out] at this; cases this)
      go_wp2_with fail
      refine (l3hits_un _ _ t (elt ss q) _ (HT.out.later HB.out) HS.out HQ.out HST.out).mono ?_; rintro e w4 ⟨v, rfl, hH, hb⟩
      have HH := Lib.hid (hH.lower (lo' := w.heap.size) HB.out.size)
      obtain ⟨Ah, ch, rfl, -⟩ := hH.cap
      replace HF := Lib.hid (fun i hi => (HF.out i hi).later hb)
      clear x0 x1 y0 y1 y2 y3 HSB hH
      replace HB := Lib.hid (bl_then HB.out hb); replace HO := Lib.hid (HO.out.later hb); replace HX := Lib.hid (HX.out.later hb); clear hb
      have hsl := HB.out.size
      go_wp2_with (at_builtin; refine stopped ?_)
      unfold Stopped
      refine wpList_append1 _ (by rfl) _ _ 155 (by rfl) w.heap.size 101 _ 1 24 Try.underlying155 i_bools rfl (by omega) _ q _ (fun i _ => upd f q (.slice Ah t.moms.length ch) i) (by rfl) HO.out [.slice Ah t.moms.length ch] rfl (by simp [Value.oneCell']) (by rfl) (fun i hi j _ => by rw [upd_ne _ _ (by omega)]) ?hN hsl (by omega) (by omega) ?_
      case hN =>
        intro j hj
        obtain rfl : j = 0 := by omega
        rw [upd_same]; rfl
      intro ga cg w5 hO5 hG5 _ _
      have hm : Mv [101] w.heap.size w4 w5 := (Mv.refl _ _ _).grown HB.out.size hG5 (fun b hb => by obtain ⟨N, F, hBk⟩ := HO.out.block hb; exact ⟨(HO.out.lt b hb).1, _, N, F, hBk, by decide⟩)
      have HO5 := Lib.hid hO5
      have HF5 : Hid (∀ i, i < q + 1 → OwR w5 w.heap.size 4 1 t.moms.length (hdC t.moms (elt ss i)) (upd f q (.slice Ah t.moms.length ch) i)) := Lib.hid (fun i hi => by
        by_cases hiq : i = q
        · rw [hiq, upd_same]; exact HH.out.mv hm (by decide)
        · rw [upd_ne _ _ hiq]; exact (HF.out i (by omega)).mv hm (by decide))
      replace HX := Lib.hid (HX.out.mv hm (by decide))
      replace HB := Lib.hid (bl_trans3 HB.out hm.bl)
      clear hO5 hG5 hm hsl
      go_wp2
      go_roundw
      case rel => exact ⟨q + 1, by omega, by go_num, ⟨_, HO5.out, HF5.out⟩, HB.out, HX.out⟩
      case measure => simp [intOf]; omega
    · obtain rfl : q = ss.length := by omega
      go_wp2
      go_ret
      exact ⟨_, rfl, ⟨f, HO.out, HF.out⟩, HB.out⟩
theorem allH_cells {w : World} {lo n : Nat} {ms : List PMom} {ss : List PStop} {q : Nat} {v : Value} (h : AllH w lo n ms ss q v) : ∃ A c, v = .slice A q c ∧ q ≤ 9223372036854775807 ∧ ∀ i, i < q → ∃ b, A = some ⟨b, 0, none⟩ ∧ ∃ A' c', w.cell? ⟨b, i, none⟩ = some (.slice A' n c') ∧ ∀ k, k < n → ∃ b', A' = some ⟨b', 0, none⟩ ∧ w.cell? ⟨b', k, none⟩ = some (.bool (holdsP ms (elt ss i) k)) := by
  obtain ⟨f, hO, hF⟩ := h
  obtain ⟨A0, c0, rfl, h1, h2⟩ := hO.cap
  refine ⟨A0, c0, rfl, by omega, fun i hi => ?_⟩
  obtain ⟨A7, c7, e7, hop⟩ := hO.open'
  obtain ⟨b7, e8, -, -, hc, -⟩ := hop (by omega)
  cases e7
  subst e8
  refine ⟨b7, rfl, ?_⟩
  have hz := hc i hi 0 (by omega)
  obtain ⟨A9, c9, e9, hop2⟩ := (hF i hi).open'
  refine ⟨A9, c9, ?_, fun k hk => ?_⟩
  · rw [← e9]; simpa using hz
  · obtain ⟨b9, e10, -, -, hc2, -⟩ := hop2 (by omega)
    have := hc2 k hk 0 (by omega)
    exact ⟨b9, e10, by simpa [hdC] using this⟩
set_option maxRecDepth 100000 in
set_option maxHeartbeats 2000000 in
theorem l3any_calls (lo n : Nat) (ms : List PMom) (ss : List PStop) (v : Value) (k : Nat) (w : World) (h : AllH w lo n ms ss ss.length v) (hk : k < n) :
    Calls Try.prog 151 #[v, .int .i64 k] w fun e w' => e = .returned (.bool (anyP ms ss k)) ∧ w = w' := by
  obtain ⟨A, c, rfl, hl, hc⟩ := allH_cells h
  have HC := Lib.hid hc
  have HA : Hid (anyP ms ss k = anyN ms ss ss.length k) := Lib.hid (by unfold anyN anyP; rw [List.take_length])
  have hk2 : (k : Int) < (n : Int) := by omega
  clear h hc
  go_enter Try.func151, Try.ntmps151
  go_wp2_with fail
  go_loopw [9] (fun i wr => ∃ q : Nat, q ≤ ss.length ∧ i = .int .i64 q ∧ anyN ms ss q k = false ∧ wr = w) (fun i _ => ss.length - (intOf i).toNat)
  case atStart => exact ⟨0, Nat.zero_le _, rfl, by simp [anyN], rfl⟩
  case round =>
    obtain ⟨q, hq, rfl, hno, rfl⟩ := hrel
    have HNO := Lib.hid hno
    clear hno
    by_cases hlt : q < ss.length
    · obtain ⟨b, rfl, A', c', x0, hx⟩ := HC.out q hlt
      obtain ⟨b', rfl, x1⟩ := hx k hk
      have HS := Lib.hid (anyN_succ ms ss hlt k)
      clear hx
      obtain ⟨q1, hq1⟩ : ∃ q1, holdsP ms (elt ss q) k = q1 := ⟨_, rfl⟩
      have HQ := Lib.hid hq1
      rw [hq1] at x1
      clear hq1
      cases q1 with
      | true =>
        have HT : Hid (anyP ms ss k = true) := Lib.hid (by
          unfold anyP
          rw [List.any_eq_true]
          exact ⟨elt ss q, by rw [elt_eq hlt]; exact List.getElem_mem _, HQ.out⟩)
        go_wp2
        go_ret
        exact ⟨by rw [HT.out]; rfl, rfl⟩
      | false =>
        go_wp2
        go_roundw
        case rel => exact ⟨q + 1, by omega, by go_num, by rw [HS.out, HNO.out, HQ.out]; rfl, trivial⟩
        case measure => simp [intOf]; omega
    · obtain rfl : q = ss.length := by omega
      go_wp2
      go_ret
      exact ⟨by rw [HA.out, HNO.out]; rfl, rfl⟩
set_option maxRecDepth 100000 in
set_option maxHeartbeats 2000000 in
theorem l3next_calls (lo n m : Nat) (ms : List PMom) (ss : List PStop) (v : Value) (k : Int) (w : World) (h : AllH w lo n ms ss ss.length v) (hn : n ≤ 1048576) (hk0 : -1 ≤ k) (hk1 : k ≤ n) (hm : k + 1 = (m : Int)) :
    Calls Try.prog 131 #[v, .int .i64 n, .int .i64 k] w fun e w' => e = .returned (.int .i64 (firstB (anyP ms ss) n (n - m) m : Nat)) ∧ w = w' := by
  have HH := Lib.hid h
  clear h
  go_enter Try.func131, Try.ntmps131
  go_upto_region 2 with fail
  go_loopw [7] (fun i wr => ∃ q : Nat, i = .int .i64 q ∧ m ≤ q ∧ firstB (anyP ms ss) n (n - q) q = firstB (anyP ms ss) n (n - m) m ∧ wr = w) (fun i _ => n - (intOf i).toNat)
  case atStart => exact ⟨m, rfl, Nat.le_refl _, rfl, rfl⟩
  case round =>
    obtain ⟨q, rfl, hmq, hf, rfl⟩ := hrel
    have HF := Lib.hid hf
    clear hf
    by_cases hlt : q < n
    · have hlt2 : (q : Int) < (n : Int) := by omega
      go_wp2_with fail
      refine (l3any_calls lo n ms ss v q _ HH.out hlt).mono ?_; rintro e w1 ⟨rfl, rfl⟩
      obtain ⟨q1, hq1⟩ : ∃ q1, anyP ms ss q = q1 := ⟨_, rfl⟩
      have HQ := Lib.hid hq1
      rw [hq1]
      clear hq1
      cases q1 with
      | true =>
        go_wp2
        go_ret
        exact ⟨by rw [← HF.out, firstB_hit hlt HQ.out]; rfl, rfl⟩
      | false =>
        go_wp2
        go_roundw
        case rel => exact ⟨q + 1, by go_num, by omega, by rw [← HF.out, firstB_skip hlt HQ.out], trivial⟩
        case measure => simp [intOf]; omega
    · have hge : n ≤ q := by omega
      go_wp2
      go_ret
      exact ⟨by rw [← HF.out, firstB_end hge]; rfl, rfl⟩
set_option maxRecDepth 100000 in
set_option maxHeartbeats 2000000 in
theorem l3last_calls (lo n : Nat) (ms : List PMom) (ss : List PStop) (v : Value) (k : Int) (w : World) (h : AllH w lo n ms ss ss.length v) (hn : n ≤ 1048576) (hk0 : -1 ≤ k) (hk1 : k ≤ n) :
    Calls Try.prog 128 #[v, .int .i64 k] w fun e w' => e = .returned (.int .i64 (lastB (anyP ms ss) k.toNat)) ∧ w = w' := by
  have HH := Lib.hid h
  clear h
  go_enter Try.func128, Try.ntmps128
  go_upto_region 2 with fail
  go_loopw [5] (fun i wr => ∃ x : Int, i = .int .i64 x ∧ -2 ≤ x ∧ x < n ∧ lastB (anyP ms ss) k.toNat = lastB (anyP ms ss) (x + 1).toNat ∧ wr = w) (fun i _ => (intOf i + 2).toNat)
  case atStart => exact ⟨k - 1, rfl, by omega, by omega, by congr 1; omega, rfl⟩
  case round =>
    obtain ⟨x, rfl, x0, x1, hf, rfl⟩ := hrel
    have HF := Lib.hid hf
    clear hf
    by_cases hx : 0 ≤ x
    · obtain ⟨q, rfl⟩ : ∃ q : Nat, x = (q : Int) := ⟨x.toNat, by omega⟩
      have hlt : q < n := by omega
      have HE : Hid (((q : Int) + 1).toNat = q + 1) := Lib.hid (by omega)
      go_wp2_with fail
      refine (l3any_calls lo n ms ss v q _ HH.out hlt).mono ?_; rintro e w1 ⟨rfl, rfl⟩
      obtain ⟨q1, hq1⟩ : ∃ q1, anyP ms ss q = q1 := ⟨_, rfl⟩
      have HQ := Lib.hid hq1
      rw [hq1]
      clear hq1
      cases q1 with
      | true =>
        go_wp2
        go_ret
        exact ⟨by rw [HF.out, HE.out, lastB, if_pos HQ.out]; rfl, rfl⟩
      | false =>
        go_wp2
        go_roundw
        case rel => exact ⟨(q : Int) - 1, by go_num, by omega, by omega, by rw [HF.out, HE.out, lastB, if_neg (by rw [HQ.out]; simp)]; congr 1; omega, trivial⟩
        case measure => simp [intOf]; omega
    · have HE : Hid ((x + 1).toNat = 0) := Lib.hid (by omega)
      go_wp2
      go_ret
      exact ⟨by rw [HF.out, HE.out]; rfl, rfl⟩
theorem stopsGood_parts {t : PTr} {ss : List PStop} {k : Int} (h : stopsGood t ss k = true) : soundP t = true ∧ (-1 ≤ k ∧ k ≤ (t.moms.length : Int)) ∧ ss.length ≤ 50 ∧ ss.all stopOk = true := by
  unfold stopsGood at h
  simp only [Bool.and_eq_true, decide_eq_true_eq] at h
  exact ⟨h.1.1.1, inB_true.1 h.1.1.2, h.1.2, h.2⟩
set_option maxRecDepth 100000 in
set_option maxHeartbeats 2000000 in
theorem spec_Last_calls (v1 v2 v3 : Value) (t : PTr) (ss : List PStop) (k : Int) (w : World) (h : RdTr w v1 v2 t) (hsm : smTr t) (hss : RdStops w v3 ss) :
    Calls Try.prog 76 #[.agg #[v1, v2], v3, .int .i64 k] w fun e w' => e = .returned (.int .i64 (lastP t ss k)) ∧ Below w.heap.size w w' := by
  have HT := Lib.hid h
  have HS := Lib.hid hsm
  have HSS := Lib.hid hss
  have hsz := hsm.2.1
  clear hsm hss
  go_enter Try.func76, Try.ntmps76
  go_wp2_with fail
  refine (l3good_calls _ _ _ t ss k _ (HT.out.later (by repeat (with_reducible first | exact Below.refl _ _ | exact HL.out | refine bl_drewN ?_ _ | refine bl_drew ?_ | refine bl_alloc ?_ _ | refine bl_set ?_ (by dsimp only; omega) _))) HS.out (HSS.out.later (by repeat (with_reducible first | exact Below.refl _ _ | exact HL.out | refine bl_drewN ?_ _ | refine bl_drew ?_ | refine bl_alloc ?_ _ | refine bl_set ?_ (by dsimp only; omega) _)))).mono ?_; rintro e w1 ⟨rfl, hb⟩
  have HB := Lib.hid (bl_then (bl_alloc (Below.refl _ w) _) hb)
  have HX := Lib.hid ((Blk.made w #[v1, v2] 35).later hb)
  clear hb
  cases hg : stopsGood t ss k with
  | false =>
    have HR : Hid (lastP t ss k = -2) := Lib.hid (by unfold lastP; rw [hg]; rfl)
    clear hg
    go_wp2
    go_ret
    exact ⟨by rw [HR.out]; rfl, HB.out⟩
  | true =>
    obtain ⟨g1, ⟨p0, p1⟩, g3, g4⟩ := stopsGood_parts hg
    have HR : Hid (lastP t ss k = lastB (anyP t.moms ss) k.toNat) := Lib.hid (by unfold lastP; rw [if_pos hg])
    have G1 := Lib.hid g1
    have G4 := Lib.hid g4
    clear hg g1 g4
    have x0 : w1.cell? ⟨w.heap.size, 0, none⟩ = some v1 := HX.out.cell (j := 0) (by simp)
    have x1 : w1.cell? ⟨w.heap.size, 1, none⟩ = some v2 := HX.out.cell (j := 1) (by simp)
    go_wp2_with fail
    refine (l3all_calls _ _ _ t ss _ (HT.out.later HB.out) HS.out G1.out (HSS.out.later HB.out) g3 G4.out).mono ?_; rintro e w2 ⟨v, rfl, hA, hb⟩
    have HA := Lib.hid hA
    clear hA x0 x1
    replace HB := Lib.hid (bl_then HB.out hb); clear hb
    go_wp2_with fail
    refine (l3last_calls _ _ _ ss _ k _ HA.out (by omega) p0 p1).mono ?_; rintro e w3 ⟨rfl, rfl⟩
    go_wp2
    go_ret
    exact ⟨by rw [HR.out]; rfl, HB.out⟩
theorem held_two {w W W' : World} {a1 a2 : Addr} {v1 v2 : Value} (h : Below w.heap.size w W ∧ W.cell? a1 = some v1 ∧ W.cell? a2 = some v2) (hb : Below W.heap.size W W') : Below w.heap.size w W' ∧ W'.cell? a1 = some v1 ∧ W'.cell? a2 = some v2 :=
  ⟨bl_then h.1 hb, cell_later hb h.2.1, cell_later hb h.2.2⟩
set_option maxRecDepth 100000 in
set_option maxHeartbeats 2000000 in
theorem spec_Next_calls (v1 v2 v3 : Value) (t : PTr) (ss : List PStop) (k : Int) (w : World) (h : RdTr w v1 v2 t) (hsm : smTr t) (hss : RdStops w v3 ss) :
    Calls Try.prog 79 #[.agg #[v1, v2], v3, .int .i64 k] w fun e w' => e = .returned (.int .i64 (nextP t ss k)) ∧ Below w.heap.size w w' := by
  have HT := Lib.hid h
  have HS := Lib.hid hsm
  have HSS := Lib.hid hss
  obtain ⟨⟨A1, c1, rfl, hn1, -⟩, ⟨vv, ⟨A2, c2, rfl, hn2, -⟩, -⟩⟩ := h
  have hsz := hsm.2.1
  clear hsm hss
  go_enter Try.func79, Try.ntmps79
  go_wp2_with fail
  refine (l3good_calls _ _ _ t ss k _ (HT.out.later (by repeat (with_reducible first | exact Below.refl _ _ | exact HL.out | refine bl_drewN ?_ _ | refine bl_drew ?_ | refine bl_alloc ?_ _ | refine bl_set ?_ (by dsimp only; omega) _))) HS.out (HSS.out.later (by repeat (with_reducible first | exact Below.refl _ _ | exact HL.out | refine bl_drewN ?_ _ | refine bl_drew ?_ | refine bl_alloc ?_ _ | refine bl_set ?_ (by dsimp only; omega) _)))).mono ?_; rintro e w1 ⟨rfl, hb⟩
  have HB := Lib.hid (bl_then (bl_alloc (Below.refl _ w) _) hb)
  have HX := Lib.hid ((Blk.made w #[.slice A1 t.fns.length c1, .slice A2 t.moms.length c2] 35).later hb)
  clear hb
  cases hg : stopsGood t ss k with
  | false =>
    have HR : Hid (nextP t ss k = -2) := Lib.hid (by unfold nextP; rw [hg]; rfl)
    clear hg
    go_wp2
    go_ret
    exact ⟨by rw [HR.out]; rfl, HB.out⟩
  | true =>
    obtain ⟨g1, ⟨p0, p1⟩, g3, g4⟩ := stopsGood_parts hg
    obtain ⟨m, hm⟩ : ∃ m : Nat, k + 1 = (m : Int) := ⟨(k + 1).toNat, by omega⟩
    have HR : Hid (nextP t ss k = (firstB (anyP t.moms ss) t.moms.length (t.moms.length - m) m : Nat)) := Lib.hid (by unfold nextP; rw [if_pos hg, hm, Int.toNat_natCast])
    have G1 := Lib.hid g1
    have G4 := Lib.hid g4
    have HMM := Lib.hid hm
    clear hg g1 g4 hm
    have x0 : w1.cell? ⟨w.heap.size, 0, none⟩ = some (.slice A1 t.fns.length c1) := HX.out.cell (j := 0) (by simp)
    have x1 : w1.cell? ⟨w.heap.size, 1, none⟩ = some (.slice A2 t.moms.length c2) := HX.out.cell (j := 1) (by simp)
    go_upto_region 3 with fail
    go_region_held3 (fun w' : World => Below w1.heap.size w1 w' ∧ w'.cell? ⟨w.heap.size, 0, none⟩ = some (.slice A1 t.fns.length c1) ∧ w'.cell? ⟨w.heap.size, 1, none⟩ = some (.slice A2 t.moms.length c2))
      (first | exact ⟨bl_drew (Below.refl _ _), x0, x1⟩ | exact held_two ‹_› hb7 | assumption)
      (first | (go_at_call 129; refine (l3all_calls _ _ _ t ss _ ((HT.out.later HB.out).later (And.left ‹_›)) HS.out G1.out ((HSS.out.later HB.out).later (And.left ‹_›)) g3 G4.out).mono ?_; rintro e w2 ⟨v, rfl, hA, hb7⟩) | (go_at_call 131; refine (l3next_calls _ _ m _ ss _ k _ hA (by omega) p0 p1 HMM.out).mono ?_; rintro e w3 ⟨rfl, rfl⟩))
    obtain ⟨hb2, -, -⟩ := ‹Below w1.heap.size w1 w2 ∧ _›
    replace HB := Lib.hid (bl_then HB.out hb2)
    clear hb2 hA hb7 x0 x1
    go_wp2
    go_ret
    exact ⟨by rw [HR.out]; rfl, HB.out⟩
end Go.Proofs.Ytcklnjjbhngbcaa
