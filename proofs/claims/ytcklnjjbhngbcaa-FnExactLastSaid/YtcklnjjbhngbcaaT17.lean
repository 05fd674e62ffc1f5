/- The specification's l3hits, StopsAt, Hits. -/
import Derived.Test.YtcklnjjbhngbcaaT16
import Derived.Test.YtcklnjjbhngbcaaI11
namespace Go.Proofs.Ytcklnjjbhngbcaa
open Go.RowKit Go.Proofs.Lens

theorem l3changes_un (v1 v2 v3 : Value) (t : PTr) (s : PStop) (k : Nat) (w : World) (h : RdTr w v1 v2 t) (hsm : smTr t) (hk : k < t.moms.length) (ho : RdSl w 5 t.moms.length (ownC t.moms) v3) :
    Calls Try.prog 148 #[.agg #[v1, v2], v3, .agg #[.int .i64 s.kind, .int .i64 s.fn, .int .i64 s.line, .string s.nm], .int .i64 k] w fun e w' => e = .returned (.bool (chgAt t.moms s k)) ∧ Below w.heap.size w w' := l3changes_calls v1 v2 v3 t s k w h hsm hk ho
set_option maxRecDepth 100000 in
set_option maxHeartbeats 8000000 in
theorem l3hits_calls (v1 v2 : Value) (t : PTr) (s : PStop) (w : World) (h : RdTr w v1 v2 t) (hsm : smTr t) (hs : soundP t = true) (hst : stopOk s = true) :
    Calls Try.prog 119 #[.agg #[v1, v2], stopV s] w (OwRet w 4 1 t.moms.length (hdC t.moms s)) := by
  have HT := Lib.hid h
  have HS := Lib.hid hsm
  have HSD := Lib.hid hs
  obtain ⟨⟨A1, c1, rfl, hn1, -⟩, ⟨vv, ⟨A2, c2, rfl, hn2, -⟩, -⟩⟩ := h
  have hso := sound_iff hs
  obtain ⟨nf0, nf1, nm1⟩ := sound_fns hso
  have SO := Lib.hid hso
  obtain ⟨hkd, hf0, hf1⟩ := stopOk_kind hst
  obtain ⟨C, hC, hc, hmk⟩ := make_law (P := Try.prog) 101 4 Try.underlying101 i_bool t.moms.length (by omega) (by omega)
  have HC := Lib.hid hC
  have Hc := Lib.hid hc
  have HKD := Lib.hid hkd
  unfold stopV
  clear hs hsm hso hC hc hst hkd
  go_enter Try.func119, Try.ntmps119
  go_upto_region 2 with fail
  generalize hW : World.alloc (World.alloc w _) _ = W
  have hX : Blk W w.heap.size 35 2 (fun j => #[Value.slice A1 t.fns.length c1, .slice A2 t.moms.length c2].getD j undef) := by rw [← hW]; exact (Blk.made w #[.slice A1 t.fns.length c1, .slice A2 t.moms.length c2] 35).later (by repeat (with_reducible first | exact Below.refl _ _ | exact HL.out | refine bl_drewN ?_ _ | refine bl_drew ?_ | refine bl_alloc ?_ _ | refine bl_set ?_ (by dsimp only; omega) _))
  have hS : Blk W (w.heap.size + 1) 27 4 (fun j => #[Value.int .i64 s.kind, .int .i64 s.fn, .int .i64 s.line, .string s.nm].getD j undef) := by
    rw [← hW]
    have := Blk.made (w.alloc (.cells #[.slice A1 t.fns.length c1, .slice A2 t.moms.length c2] 35)) #[.int .i64 s.kind, .int .i64 s.fn, .int .i64 s.line, .string s.nm] 27
    rw [World.size_alloc] at this
    exact this
  have hB : Below w.heap.size w W := by rw [← hW]; exact (by repeat (with_reducible first | exact Below.refl _ _ | exact HL.out | refine bl_drewN ?_ _ | refine bl_drew ?_ | refine bl_alloc ?_ _ | refine bl_set ?_ (by dsimp only; omega) _))
  have hsz : W.heap.size = w.heap.size + 1 + 1 := by rw [← hW]; simp
  clear hW
  have hO : OwR (W.alloc (.cells C 4)) W.heap.size 4 1 t.moms.length (hdN t.moms s 0) (.slice (some ⟨W.heap.size, 0, none⟩) t.moms.length t.moms.length) :=
    OwR.made HC.out Hc.out (by rfl) (by simp only [maxLen]; omega) _ (fun i hi j hj => by
      obtain rfl : j = 0 := by omega
      simp only [hdN, Nat.not_lt_zero, decide_false, Bool.false_and]
      rfl)
  rw [hsz] at hO
  have HO := Lib.hid hO
  have HX := Lib.hid (hX.alloc (.cells C 4))
  have HSB := Lib.hid (hS.alloc (.cells C 4))
  have HB := Lib.hid (bl_alloc hB (.cells C 4))
  generalize W.alloc (.cells C 4) = W1 at HO HX HSB HB ⊢
  clear hO hX hS hB
  have x0 : W1.cell? ⟨w.heap.size, 0, none⟩ = some (.slice A1 t.fns.length c1) := HX.out.cell (j := 0) (by simp)
  have x1 : W1.cell? ⟨w.heap.size, 1, none⟩ = some (.slice A2 t.moms.length c2) := HX.out.cell (j := 1) (by simp)
  generalize hgo : w.heap.size + 1 + 1 = go at *
  go_wp2_with fail
  refine (l3owners_calls _ _ t _ (HT.out.later HB.out) HS.out HSD.out).mono ?_; rintro e w2 ⟨v3, rfl, hP, hb⟩
  obtain ⟨A3, k3, rfl, -⟩ := hP.cap
  have HP := Lib.hid (hP.lower (lo' := w.heap.size) HB.out.size)
  clear hP x0 x1
  replace HB := Lib.hid (bl_then HB.out hb); replace HX := Lib.hid (HX.out.later hb); replace HO := Lib.hid (HO.out.later hb); replace HSB := Lib.hid (HSB.out.later hb); clear hb
  have x1 : w2.cell? ⟨w.heap.size, 1, none⟩ = some (.slice A2 t.moms.length c2) := HX.out.cell (j := 1) (by simp)
  go_wp2_with fail
  clear x1
  go_loopw [18] (fun i wr => ∃ n : Nat, n ≤ t.moms.length ∧ i = .int .i64 n ∧
    OwR wr go 4 1 t.moms.length (hdN t.moms s n) (.slice (some ⟨go, 0, none⟩) t.moms.length t.moms.length) ∧
    OwR wr w.heap.size 193 5 t.moms.length (ownC t.moms) (.slice A3 t.moms.length k3) ∧ Below w.heap.size w wr ∧
    Blk wr w.heap.size 35 2 (fun j => #[Value.slice A1 t.fns.length c1, .slice A2 t.moms.length c2].getD j undef) ∧
    Blk wr (w.heap.size + 1) 27 4 (fun j => #[Value.int .i64 s.kind, .int .i64 s.fn, .int .i64 s.line, .string s.nm].getD j undef)) (fun i _ => t.moms.length - (intOf i).toNat)
  case atStart => exact ⟨0, Nat.zero_le _, rfl, HO.out, HP.out, HB.out, HX.out, HSB.out⟩
  case round =>
    obtain ⟨n, hnn, rfl, hO, hP, hB, hX, hSB⟩ := hrel
    clear HO HB HX HP HSB
    have HO := Lib.hid hO
    have HP := Lib.hid hP
    have HB := Lib.hid hB
    have HX := Lib.hid hX
    have HSB := Lib.hid hSB
    clear hO hB hX hP hSB
    by_cases h2 : n < t.moms.length
    · obtain ⟨b, o, vk, hA, d0, d1, d2, d3, d4, d5, hvk⟩ := rd_moment (HT.out.2.later HB.out) h2
      obtain ⟨Av, cv, rfl, -⟩ := hvk
      subst hA
      go_upto_region 6 with fail
      have HMB : Hid (Blk (wr.alloc _) wr.heap.size 38 6 _) := Lib.hid (Blk.made wr #[.int .i64 (elt t.moms n).kind, .int .i64 (elt t.moms n).task, .int .i64 (elt t.moms n).fn, .int .i64 (elt t.moms n).line, .string (elt t.moms n).text, .slice Av (elt t.moms n).vars.length cv] 38)
      generalize hW2 : World.alloc wr _ = w3 at HMB ⊢
      have hbl : Below wr.heap.size wr w3 := by rw [← hW2]; exact bl_alloc (Below.refl _ _) _
      have hmb : w.heap.size + 1 < wr.heap.size := HSB.out.lt
      have hgob : go < wr.heap.size := HO.out.blt.2
      clear hW2 d0 d1 d2 d3 d4 d5
      replace HB := Lib.hid (bl_then HB.out hbl); replace HX := Lib.hid (HX.out.later hbl); replace HO := Lib.hid (HO.out.later hbl); replace HP := Lib.hid (HP.out.later hbl); replace HSB := Lib.hid (HSB.out.later hbl); clear hbl
      have y0 : w3.cell? ⟨wr.heap.size, 0, none⟩ = some (.int .i64 (elt t.moms n).kind) := HMB.out.cell (j := 0) (by simp)
      have y2 : w3.cell? ⟨wr.heap.size, 2, none⟩ = some (.int .i64 (elt t.moms n).fn) := HMB.out.cell (j := 2) (by simp)
      have y3 : w3.cell? ⟨wr.heap.size, 3, none⟩ = some (.int .i64 (elt t.moms n).line) := HMB.out.cell (j := 3) (by simp)
      have s0 : w3.cell? ⟨w.heap.size + 1, 0, none⟩ = some (.int .i64 s.kind) := HSB.out.cell (j := 0) (by simp)
      have s1 : w3.cell? ⟨w.heap.size + 1, 1, none⟩ = some (.int .i64 s.fn) := HSB.out.cell (j := 1) (by simp)
      have s2 : w3.cell? ⟨w.heap.size + 1, 2, none⟩ = some (.int .i64 s.line) := HSB.out.cell (j := 2) (by simp)
      have h2' : (n : Int) < (t.moms.length : Int) := by omega
      by_cases k3' : s.kind = 3
      · have hq1 : (s.kind == 1) = false := by simp [k3']
        have hq2 : (s.kind == 2) = false := by simp [k3']
        have hq3 : (s.kind == 3) = true := by simp [k3']
        have HK3 := Lib.hid k3'
        have s3 : w3.cell? ⟨w.heap.size + 1, 3, none⟩ = some (.string s.nm) := HSB.out.cell (j := 3) (by simp)
        have x0 : w3.cell? ⟨w.heap.size, 0, none⟩ = some (.slice A1 t.fns.length c1) := HX.out.cell (j := 0) (by simp)
        have x1 : w3.cell? ⟨w.heap.size, 1, none⟩ = some (.slice (some ⟨b, o, none⟩) t.moms.length c2) := HX.out.cell (j := 1) (by simp)
        clear k3'
        go_wp2_with fail
        refine (l3changes_un _ _ _ t s n _ (HT.out.later HB.out) HS.out h2 HP.out.rd).mono ?_; rintro e w4 ⟨rfl, hb⟩
        clear s0 s1 s2 s3 x0 x1 y0 y2 y3
        replace HB := Lib.hid (bl_then HB.out hb); replace HX := Lib.hid (HX.out.later hb); replace HO := Lib.hid (HO.out.later hb); replace HP := Lib.hid (HP.out.later hb); replace HSB := Lib.hid (HSB.out.later hb); clear hb
        have z2 := HO.out.free n
        have z3 : w4.cell? ⟨go, n, none⟩ = some (.bool false) := by
          have := HO.out.cells h2 (j := 0) (by omega)
          simpa [hdN] using this
        have HH : Hid (holdsP t.moms s n = chgAt t.moms s n) := Lib.hid (by unfold holdsP; rw [if_neg (by have := HK3.out; omega), if_neg (by have := HK3.out; omega), if_pos HK3.out, chgAt_eq SO.out s h2])
        generalize chgAt t.moms s n = r1 at HH ⊢
        go_wp2
        go_roundw
        case rel =>
          have hset := (Mv.refl [4] w.heap.size w4).setO HO.out (by omega) (by decide) n (.bool r1)
          exact ⟨n + 1, by omega, by go_num, hdN_set HO.out h2 HH.out, HP.out.mv hset (by decide), bl_trans3 HB.out hset.bl, HX.out.mv hset (by decide), HSB.out.mv hset (by decide)⟩
        case measure => simp [intOf]; omega
      · have hq3 : (s.kind == 3) = false := by simp [k3']
        have z2 := HO.out.free n
        have z3 : w3.cell? ⟨go, n, none⟩ = some (.bool false) := by
          have := HO.out.cells h2 (j := 0) (by omega)
          simpa [hdN] using this
        by_cases k1 : s.kind = 1
        · have hq1 : (s.kind == 1) = true := by simp [k1]
          have HH : Hid (holdsP t.moms s n = (((elt t.moms n).kind == 1) && ((elt t.moms n).fn == s.fn) && ((elt t.moms n).line == s.line))) := Lib.hid (by unfold holdsP; rw [if_pos k1, Bool.beq_eq_decide_eq, Bool.beq_eq_decide_eq, Bool.beq_eq_decide_eq])
          generalize hk1 : ((elt t.moms n).kind == 1) = r1 at HH
          generalize hk2 : ((elt t.moms n).fn == s.fn) = r2 at HH
          generalize hk3 : ((elt t.moms n).line == s.line) = r3 at HH
          clear k1 k3'
          cases r1 <;> cases r2 <;> cases r3
          all_goals
            go_wp2
            go_roundw
            case rel =>
              have hset := (Mv.refl [4] w.heap.size w3).setO HO.out (by omega) (by decide) n (.bool (holdsP t.moms s n))
              have hO2 := hdN_set HO.out h2 rfl
              rw [HH.out] at hset hO2
              exact ⟨n + 1, by omega, by go_num, hO2, HP.out.mv hset (by decide), bl_trans3 HB.out hset.bl, HX.out.mv hset (by decide), HSB.out.mv hset (by decide)⟩
            case measure => simp [intOf]; omega
        · have hq1 : (s.kind == 1) = false := by simp [k1]
          by_cases k2 : s.kind = 2
          · have hq2 : (s.kind == 2) = true := by simp [k2]
            have HH : Hid (holdsP t.moms s n = (((elt t.moms n).kind == 2) && ((elt t.moms n).fn == s.fn))) := Lib.hid (by unfold holdsP; rw [if_neg k1, if_pos k2, Bool.beq_eq_decide_eq, Bool.beq_eq_decide_eq])
            generalize hk1 : ((elt t.moms n).kind == 2) = r1 at HH
            generalize hk2 : ((elt t.moms n).fn == s.fn) = r2 at HH
            clear k1 k2 k3'
            cases r1 <;> cases r2
            all_goals
              go_wp2
              go_roundw
              case rel =>
                have hset := (Mv.refl [4] w.heap.size w3).setO HO.out (by omega) (by decide) n (.bool (holdsP t.moms s n))
                have hO2 := hdN_set HO.out h2 rfl
                rw [HH.out] at hset hO2
                exact ⟨n + 1, by omega, by go_num, hO2, HP.out.mv hset (by decide), bl_trans3 HB.out hset.bl, HX.out.mv hset (by decide), HSB.out.mv hset (by decide)⟩
              case measure => simp [intOf]; omega
          · have hq2 : (s.kind == 2) = false := by simp [k2]
            have HH : Hid (holdsP t.moms s n = ((elt t.moms n).kind == 4)) := Lib.hid (by unfold holdsP; rw [if_neg k1, if_neg k2, if_neg k3', Bool.beq_eq_decide_eq])
            generalize hk1 : ((elt t.moms n).kind == 4) = r1 at HH
            clear k1 k2 k3'
            cases r1
            all_goals
              go_wp2
              go_roundw
              case rel =>
                have hset := (Mv.refl [4] w.heap.size w3).setO HO.out (by omega) (by decide) n (.bool (holdsP t.moms s n))
                have hO2 := hdN_set HO.out h2 rfl
                rw [HH.out] at hset hO2
                exact ⟨n + 1, by omega, by go_num, hO2, HP.out.mv hset (by decide), bl_trans3 HB.out hset.bl, HX.out.mv hset (by decide), HSB.out.mv hset (by decide)⟩
              case measure => simp [intOf]; omega
    · obtain rfl : n = t.moms.length := by omega
      go_wp2
      go_ret
      refine ⟨_, rfl, ?_, HB.out⟩
      exact (HO.out.lower (by omega)).congr fun i hi j hj => by simp [hdN, hdC, hi]
end Go.Proofs.Ytcklnjjbhngbcaa
