/- The program's StopsAt and Hits. -/
import Derived.Test.YtcklnjjbhngbcaaI10
import Derived.Test.YtcklnjjbhngbcaaI4
namespace Go.Proofs.Ytcklnjjbhngbcaa
open Go.RowKit Go.Proofs.Lens

theorem impl_StopOk_is (p : PStop) (w : World) {b : Bool} (h : stopOk p = b) : Calls Try.prog 28 #[stopV p] w fun e w' => e = .returned (.bool b) ∧ Below w.heap.size w w' := h ▸ impl_StopOk_calls p w
theorem impl_StopOk_un (p : PStop) (w : World) {b : Bool} (h : stopOk p = b) : Calls Try.prog 28 #[.agg #[.int .i64 p.kind, .int .i64 p.fn, .int .i64 p.line, .string p.nm]] w fun e w' => e = .returned (.bool b) ∧ Below w.heap.size w w' := impl_StopOk_is p w h
theorem holds_un (v1 v2 : Value) (t : PTr) (s : PStop) (w : World) (h : RdTr w v1 v2 t) (hsm : smTr t) (hs : soundP t = true) (hst : stopOk s = true) :
    Calls Try.prog 88 #[.agg #[v1, v2], .agg #[.int .i64 s.kind, .int .i64 s.fn, .int .i64 s.line, .string s.nm]] w (OwRet w 4 1 t.moms.length (hdC t.moms s)) := holds_calls v1 v2 t s w h hsm hs hst
set_option maxRecDepth 100000 in
set_option maxHeartbeats 2000000 in
theorem impl_StopsAt_calls (v1 v2 : Value) (t : PTr) (s : PStop) (k : Int) (w : World) (h : RdTr w v1 v2 t) (hsm : smTr t) :
    Calls Try.prog 56 #[.agg #[v1, v2], stopV s, .int .i64 k] w fun e w' => e = .returned (.bool (stopsAtP t s k)) ∧ Below w.heap.size w w' := by
  have HT := Lib.hid h
  have HS := Lib.hid hsm
  obtain ⟨⟨A1, c1, rfl, hn1, -⟩, ⟨vv, ⟨A2, c2, rfl, hn2, -⟩, -⟩⟩ := h
  have hsz := hsm.2.1
  clear hsm
  unfold stopV
  cases hs : soundP t with
  | false =>
    have HR : Hid (stopsAtP t s k = false) := Lib.hid (by unfold stopsAtP; rw [hs]; rfl)
    have HQ := Lib.hid hs
    clear hs
    go_enter Try.func56, Try.ntmps56
    go_wp2_with fail
    refine (sound_is _ _ t _ (HT.out.later (by repeat (with_reducible first | exact Below.refl _ _ | exact HL.out | refine bl_drewN ?_ _ | refine bl_drew ?_ | refine bl_alloc ?_ _ | refine bl_set ?_ (by dsimp only; omega) _))) HS.out HQ.out).mono ?_; rintro e w1 ⟨rfl, hb⟩
    have HB := Lib.hid (bl_then (bl_alloc (bl_alloc (Below.refl _ w) _) _) hb)
    clear hb
    go_wp2
    go_ret
    exact ⟨by rw [HR.out]; rfl, HB.out⟩
  | true =>
    have HQ := Lib.hid hs
    cases hst : stopOk s with
    | false =>
      have HR : Hid (stopsAtP t s k = false) := Lib.hid (by unfold stopsAtP; rw [hs, hst]; rfl)
      have HP := Lib.hid hst
      clear hs hst
      go_enter Try.func56, Try.ntmps56
      go_wp2_with fail
      refine (sound_is _ _ t _ (HT.out.later (by repeat (with_reducible first | exact Below.refl _ _ | exact HL.out | refine bl_drewN ?_ _ | refine bl_drew ?_ | refine bl_alloc ?_ _ | refine bl_set ?_ (by dsimp only; omega) _))) HS.out HQ.out).mono ?_; rintro e w1 ⟨rfl, hb⟩
      have HB := Lib.hid (bl_then (bl_alloc (bl_alloc (Below.refl _ w) _) _) hb)
      have HX := Lib.hid (((Blk.made w #[.slice A1 t.fns.length c1, .slice A2 t.moms.length c2] 35).alloc (.cells #[.int .i64 s.kind, .int .i64 s.fn, .int .i64 s.line, .string s.nm] 27)).later hb)
      have hY := (Blk.made (w.alloc (.cells #[.slice A1 t.fns.length c1, .slice A2 t.moms.length c2] 35)) #[.int .i64 s.kind, .int .i64 s.fn, .int .i64 s.line, .string s.nm] 27).later hb
      rw [World.size_alloc] at hY
      have HY := Lib.hid hY
      clear hb hY
      have y0 : w1.cell? ⟨w.heap.size + 1, 0, none⟩ = some (.int .i64 s.kind) := HY.out.cell (j := 0) (by simp)
      have y1 : w1.cell? ⟨w.heap.size + 1, 1, none⟩ = some (.int .i64 s.fn) := HY.out.cell (j := 1) (by simp)
      have y2 : w1.cell? ⟨w.heap.size + 1, 2, none⟩ = some (.int .i64 s.line) := HY.out.cell (j := 2) (by simp)
      have y3 : w1.cell? ⟨w.heap.size + 1, 3, none⟩ = some (.string s.nm) := HY.out.cell (j := 3) (by simp)
      go_wp2_with fail
      refine (impl_StopOk_un s _ HP.out).mono ?_; rintro e w2 ⟨rfl, hb⟩
      replace HB := Lib.hid (bl_then HB.out hb); clear hb
      go_wp2
      go_ret
      exact ⟨by rw [HR.out]; rfl, HB.out⟩
    | true =>
      have HR : Hid (stopsAtP t s k = (inB k 0 ((t.moms.length : Int) - 1) && holdsP t.moms s k.toNat)) := Lib.hid (by unfold stopsAtP; rw [hs, hst]; rfl)
      have HP := Lib.hid hst
      have hso := sound_iff hs
      obtain ⟨nf0, nf1, nm1⟩ := sound_fns hso
      clear hs hst hso
      go_enter Try.func56, Try.ntmps56
      go_wp2_with fail
      refine (sound_is _ _ t _ (HT.out.later (by repeat (with_reducible first | exact Below.refl _ _ | exact HL.out | refine bl_drewN ?_ _ | refine bl_drew ?_ | refine bl_alloc ?_ _ | refine bl_set ?_ (by dsimp only; omega) _))) HS.out HQ.out).mono ?_; rintro e w1 ⟨rfl, hb⟩
      have HB := Lib.hid (bl_then (bl_alloc (bl_alloc (Below.refl _ w) _) _) hb)
      have HX := Lib.hid (((Blk.made w #[.slice A1 t.fns.length c1, .slice A2 t.moms.length c2] 35).alloc (.cells #[.int .i64 s.kind, .int .i64 s.fn, .int .i64 s.line, .string s.nm] 27)).later hb)
      have hY := (Blk.made (w.alloc (.cells #[.slice A1 t.fns.length c1, .slice A2 t.moms.length c2] 35)) #[.int .i64 s.kind, .int .i64 s.fn, .int .i64 s.line, .string s.nm] 27).later hb
      rw [World.size_alloc] at hY
      have HY := Lib.hid hY
      clear hb hY
      have y0 : w1.cell? ⟨w.heap.size + 1, 0, none⟩ = some (.int .i64 s.kind) := HY.out.cell (j := 0) (by simp)
      have y1 : w1.cell? ⟨w.heap.size + 1, 1, none⟩ = some (.int .i64 s.fn) := HY.out.cell (j := 1) (by simp)
      have y2 : w1.cell? ⟨w.heap.size + 1, 2, none⟩ = some (.int .i64 s.line) := HY.out.cell (j := 2) (by simp)
      have y3 : w1.cell? ⟨w.heap.size + 1, 3, none⟩ = some (.string s.nm) := HY.out.cell (j := 3) (by simp)
      go_wp2_with fail
      refine (impl_StopOk_un s _ HP.out).mono ?_; rintro e w2 ⟨rfl, hb⟩
      clear y0 y1 y2 y3
      replace HB := Lib.hid (bl_then HB.out hb); replace HX := Lib.hid (HX.out.later hb); replace HY := Lib.hid (HY.out.later hb); clear hb
      have x1 : w2.cell? ⟨w.heap.size, 1, none⟩ = some (.slice A2 t.moms.length c2) := HX.out.cell (j := 1) (by simp)
      go_wp2_with fail
      clear x1
      cases hin : inB k 0 ((t.moms.length : Int) - 1) with
      | false =>
        have HI := Lib.hid hin
        clear hin
        refine (inside_is _ _ _ _ HI.out).mono ?_; rintro e w3 ⟨rfl, rfl⟩
        go_wp2
        go_ret
        exact ⟨by rw [HR.out, HI.out]; rfl, HB.out⟩
      | true =>
        have HI := Lib.hid hin
        obtain ⟨hk0, hk1⟩ := inB_true.1 hin
        obtain ⟨n, rfl⟩ : ∃ n : Nat, k = (n : Int) := ⟨k.toNat, by omega⟩
        have hnl : n < t.moms.length := by omega
        clear hin
        refine (inside_is _ _ _ _ HI.out).mono ?_; rintro e w3 ⟨rfl, rfl⟩
        have x0 : w2.cell? ⟨w.heap.size, 0, none⟩ = some (.slice A1 t.fns.length c1) := HX.out.cell (j := 0) (by simp)
        have x1 : w2.cell? ⟨w.heap.size, 1, none⟩ = some (.slice A2 t.moms.length c2) := HX.out.cell (j := 1) (by simp)
        have y0 : w2.cell? ⟨w.heap.size + 1, 0, none⟩ = some (.int .i64 s.kind) := HY.out.cell (j := 0) (by simp)
        have y1 : w2.cell? ⟨w.heap.size + 1, 1, none⟩ = some (.int .i64 s.fn) := HY.out.cell (j := 1) (by simp)
        have y2 : w2.cell? ⟨w.heap.size + 1, 2, none⟩ = some (.int .i64 s.line) := HY.out.cell (j := 2) (by simp)
        have y3 : w2.cell? ⟨w.heap.size + 1, 3, none⟩ = some (.string s.nm) := HY.out.cell (j := 3) (by simp)
        go_wp2_with fail
        refine (holds_un _ _ t s _ (HT.out.later HB.out) HS.out HQ.out HP.out).mono ?_; rintro e w4 ⟨v, rfl, hO, hb⟩
        obtain ⟨A0, k0, rfl, hc1, hc2⟩ := hO.cap
        obtain ⟨A7, c7, e7, hop⟩ := hO.open'
        obtain ⟨b7, e8, -, -, hc, -⟩ := hop (by omega)
        cases e7
        subst e8
        have z : w4.cell? ⟨b7, n, none⟩ = some (.bool (holdsP t.moms s n)) := by
          have := hc n hnl 0 (by omega)
          simpa [hdC] using this
        replace HB := Lib.hid (bl_then HB.out hb); clear hb
        clear x0 x1 y0 y1 y2 y3 hO hop hc
        have h9 : (n : Int) < (t.moms.length : Int) := by omega
        go_wp2
        go_ret
        exact ⟨by rw [HR.out, HI.out]; simp, HB.out⟩
theorem intC_last (r : List Int) (x : Int) (j : Nat) : intC (r ++ [x]) r.length j = .int .i64 x := by
  unfold intC
  rw [elt_eq (by simp)]; simp
theorem intC_old (r : List Int) (x : Int) {i : Nat} (hi : i < r.length) (j : Nat) : intC (r ++ [x]) i j = intC r i j := by
  unfold intC
  rw [elt_eq (by simp; omega), elt_eq hi, List.getElem_append_left hi]
set_option maxRecDepth 100000 in
set_option maxHeartbeats 4000000 in
theorem impl_Hits_calls (v1 v2 : Value) (t : PTr) (s : PStop) (w : World) (h : RdTr w v1 v2 t) (hsm : smTr t) :
    Calls Try.prog 31 #[.agg #[v1, v2], stopV s] w (OwRet w 3 1 (hitsP t s).length (intC (hitsP t s))) := by
  have HT := Lib.hid h
  have HS := Lib.hid hsm
  obtain ⟨⟨A1, c1, rfl, hn1, -⟩, ⟨vv, ⟨A2, c2, rfl, hn2, -⟩, -⟩⟩ := h
  have hsz := hsm.2.1
  clear hsm
  unfold stopV
  cases hs : soundP t with
  | false =>
    have HR : Hid (hitsP t s = []) := Lib.hid (by unfold hitsP; rw [hs]; rfl)
    have HQ := Lib.hid hs
    clear hs
    go_enter Try.func31, Try.ntmps31
    go_wp2_with fail
    refine (sound_is _ _ t _ (HT.out.later (by repeat (with_reducible first | exact Below.refl _ _ | exact HL.out | refine bl_drewN ?_ _ | refine bl_drew ?_ | refine bl_alloc ?_ _ | refine bl_set ?_ (by dsimp only; omega) _))) HS.out HQ.out).mono ?_; rintro e w1 ⟨rfl, hb⟩
    have HB := Lib.hid (bl_then (bl_alloc (bl_alloc (Below.refl _ w) _) _) hb)
    clear hb
    go_wp2
    go_ret
    rw [HR.out]
    exact ⟨_, rfl, OwR.nil, HB.out⟩
  | true =>
    have HQ := Lib.hid hs
    have hso := sound_iff hs
    obtain ⟨nf0, nf1, nm1⟩ := sound_fns hso
    cases hst : stopOk s
    all_goals
      have HP := Lib.hid hst
      go_enter Try.func31, Try.ntmps31
      go_wp2_with fail
      refine (sound_is _ _ t _ (HT.out.later (by repeat (with_reducible first | exact Below.refl _ _ | exact HL.out | refine bl_drewN ?_ _ | refine bl_drew ?_ | refine bl_alloc ?_ _ | refine bl_set ?_ (by dsimp only; omega) _))) HS.out HQ.out).mono ?_; rintro e w1 ⟨rfl, hb⟩
      have HB := Lib.hid (bl_then (bl_alloc (bl_alloc (Below.refl _ w) _) _) hb)
      have HX := Lib.hid (((Blk.made w #[.slice A1 t.fns.length c1, .slice A2 t.moms.length c2] 35).alloc (.cells #[.int .i64 s.kind, .int .i64 s.fn, .int .i64 s.line, .string s.nm] 27)).later hb)
      have hY := (Blk.made (w.alloc (.cells #[.slice A1 t.fns.length c1, .slice A2 t.moms.length c2] 35)) #[.int .i64 s.kind, .int .i64 s.fn, .int .i64 s.line, .string s.nm] 27).later hb
      rw [World.size_alloc] at hY
      have HY := Lib.hid hY
      clear hb hY
      have y0 : w1.cell? ⟨w.heap.size + 1, 0, none⟩ = some (.int .i64 s.kind) := HY.out.cell (j := 0) (by simp)
      have y1 : w1.cell? ⟨w.heap.size + 1, 1, none⟩ = some (.int .i64 s.fn) := HY.out.cell (j := 1) (by simp)
      have y2 : w1.cell? ⟨w.heap.size + 1, 2, none⟩ = some (.int .i64 s.line) := HY.out.cell (j := 2) (by simp)
      have y3 : w1.cell? ⟨w.heap.size + 1, 3, none⟩ = some (.string s.nm) := HY.out.cell (j := 3) (by simp)
      go_wp2_with fail
      refine (impl_StopOk_un s _ HP.out).mono ?_; rintro e w2 ⟨rfl, hb⟩
      replace HB := Lib.hid (bl_then HB.out hb); replace HX := Lib.hid (HX.out.later hb); replace HY := Lib.hid (HY.out.later hb); clear hb
      clear y0 y1 y2 y3
    · have HR : Hid (hitsP t s = []) := Lib.hid (by unfold hitsP; rw [hs, hst]; rfl)
      clear hs hst
      go_wp2
      go_ret
      rw [HR.out]
      exact ⟨_, rfl, OwR.nil, HB.out⟩
    · have HR : Hid (hitsP t s = hitsN t.moms s t.moms.length) := Lib.hid (by unfold hitsP; rw [hs, hst]; rfl)
      clear hs hst
      have x0 : w2.cell? ⟨w.heap.size, 0, none⟩ = some (.slice A1 t.fns.length c1) := HX.out.cell (j := 0) (by simp)
      have x1 : w2.cell? ⟨w.heap.size, 1, none⟩ = some (.slice A2 t.moms.length c2) := HX.out.cell (j := 1) (by simp)
      have y0 : w2.cell? ⟨w.heap.size + 1, 0, none⟩ = some (.int .i64 s.kind) := HY.out.cell (j := 0) (by simp)
      have y1 : w2.cell? ⟨w.heap.size + 1, 1, none⟩ = some (.int .i64 s.fn) := HY.out.cell (j := 1) (by simp)
      have y2 : w2.cell? ⟨w.heap.size + 1, 2, none⟩ = some (.int .i64 s.line) := HY.out.cell (j := 2) (by simp)
      have y3 : w2.cell? ⟨w.heap.size + 1, 3, none⟩ = some (.string s.nm) := HY.out.cell (j := 3) (by simp)
      have hs2 := HB.out.size
      go_wp2_with fail
      refine (holds_un _ _ t s _ (HT.out.later HB.out) HS.out HQ.out HP.out).mono ?_; rintro e w4 ⟨v, rfl, hO, hb⟩
      obtain ⟨A0, k0, rfl, hc1, hc2⟩ := hO.cap
      have HH := Lib.hid hO
      clear x0 x1 y0 y1 y2 y3 hO HX HY
      replace HB := Lib.hid (bl_then HB.out hb); clear hb
      go_wp2_with fail
      go_loopw [5, 20] (fun ov i wr => ∃ q : Nat, q ≤ t.moms.length ∧ i = .int .i64 q ∧ OwR wr w.heap.size 3 1 (hitsN t.moms s q).length (intC (hitsN t.moms s q)) ov ∧ OwR wr w2.heap.size 4 1 t.moms.length (hdC t.moms s) (.slice A0 t.moms.length k0) ∧ Below w.heap.size w wr) (fun _ i _ => t.moms.length - (intOf i).toNat)
      case atStart => exact ⟨0, Nat.zero_le _, rfl, OwR.nil, HH.out, HB.out⟩
      case round =>
        obtain ⟨q, hq, rfl, hO, hH, hB⟩ := hrel
        clear HH HB
        have HO := Lib.hid hO
        have HB := Lib.hid hB
        have hsr := hB.size
        obtain ⟨A3, c3, rfl, -⟩ := hO.cap
        have hln := hitsN_len t.moms s q
        by_cases hlt : q < t.moms.length
        · obtain ⟨A7, c7, e7, hop⟩ := hH.open'
          obtain ⟨b7, e8, -, -, hc, -⟩ := hop (by omega)
          cases e7
          subst e8
          have z : wr.cell? ⟨b7, q, none⟩ = some (.bool (holdsP t.moms s q)) := by
            have := hc q hlt 0 (by omega)
            simpa [hdC] using this
          have HH := Lib.hid hH
          clear hO hH hB hop hc
          cases hd : holdsP t.moms s q with
          | false =>
            have HN : Hid (hitsN t.moms s (q + 1) = hitsN t.moms s q) := Lib.hid (by show (if _ then _ else _) = _; rw [hd]; rfl)
            rw [hd] at z
            clear hd
            go_wp2
            go_roundw
            case rel => exact ⟨q + 1, by omega, by go_num, by rw [HN.out]; exact HO.out, HH.out, HB.out⟩
            case measure => simp [intOf]; omega
          | true =>
            have HN : Hid (hitsN t.moms s (q + 1) = hitsN t.moms s q ++ [(q : Int)]) := Lib.hid (by show (if _ then _ else _) = _; rw [hd]; rfl)
            rw [hd] at z
            clear hd
            generalize hitsN t.moms s q = r at HO hln HN ⊢
            obtain ⟨nr, hnr⟩ : ∃ nr, r.length = nr := ⟨_, rfl⟩
            have HNR := Lib.hid hnr
            rw [hnr] at HO hln ⊢
            clear hnr
            go_wp2_with (at_builtin; refine stopped ?_)
            unfold Stopped
            refine wpList_append1 _ (by rfl) _ _ 39 (by rfl) w.heap.size 3 _ 1 8 Try.underlying39 i_int rfl (by omega) _ nr _ (intC (r ++ [(q : Int)])) (by rfl) HO.out [.int .i64 (q : Int)] rfl (by simp [Value.oneCell']) (by rfl) (fun i hi j _ => (intC_old r q (by rw [HNR.out]; exact hi) j).symm) ?hN hsr (by omega) (by omega) ?_
            case hN =>
              intro j hj
              obtain rfl : j = 0 := by omega
              have := intC_last r q 0
              rw [HNR.out] at this
              rw [this]; rfl
            intro ga cap w5 hO5 hG5 _ _
            have HB5 := Lib.hid (bl_own HB.out hsr HO.out hG5)
            have hm : Mv [3] w.heap.size wr w5 := (Mv.refl _ _ _).grown hsr hG5 (fun b hb => by obtain ⟨N, F, hBk⟩ := HO.out.block hb; exact ⟨(HO.out.lt b hb).1, _, N, F, hBk, by decide⟩)
            have HH5 := Lib.hid (HH.out.mv hm (by decide))
            have HO5 := Lib.hid hO5
            clear hO5 hG5 hm z
            go_wp2
            go_roundw
            case rel => exact ⟨q + 1, by omega, by go_num, by rw [HN.out, List.length_append, HNR.out]; exact HO5.out, HH5.out, HB5.out⟩
            case measure => simp [intOf]; omega
        · obtain rfl : q = t.moms.length := by omega
          go_wp2
          go_ret
          rw [HR.out]
          exact ⟨_, rfl, HO.out, HB.out⟩
end Go.Proofs.Ytcklnjjbhngbcaa
