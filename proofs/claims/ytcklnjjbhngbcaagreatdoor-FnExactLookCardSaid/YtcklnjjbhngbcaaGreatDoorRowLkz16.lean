/- Lemmas and contracts of functions that the theorem of this claim leans on (texts I11, I12). -/
import Derived.Test.YtcklnjjbhngbcaaGreatDoorRowLkz15
import Derived.Test.YtcklnjjbhngbcaaGreatDoorRowLkz14
namespace Go.Proofs.YtcklnjjbhngbcaaGreatDoor
open Go.RowKit Go.Proofs.Lens

theorem impl_StopOk_is (p : PStop) (w : World) {b : Bool} (h : stopOk p = b) : Calls Tryz.prog 115 #[stopV p] w fun e w' => e = .returned (.bool b) ∧ Below w.heap.size w w' := h ▸ impl_StopOk_calls p w
theorem impl_StopOk_un (p : PStop) (w : World) {b : Bool} (h : stopOk p = b) : Calls Tryz.prog 115 #[.agg #[.int .i64 p.kind, .int .i64 p.fn, .int .i64 p.line, .string p.nm]] w fun e w' => e = .returned (.bool b) ∧ Below w.heap.size w w' := impl_StopOk_is p w h
theorem holds_un (v1 v2 : Value) (t : PTr) (s : PStop) (w : World) (h : RdTr w v1 v2 t) (hsm : smTr t) (hs : soundP t = true) (hst : stopOk s = true) :
    Calls Tryz.prog 156 #[.agg #[v1, v2], .agg #[.int .i64 s.kind, .int .i64 s.fn, .int .i64 s.line, .string s.nm]] w (OwRet w 4 1 t.moms.length (hdC t.moms s)) := holds_calls v1 v2 t s w h hsm hs hst
end Go.Proofs.YtcklnjjbhngbcaaGreatDoor

namespace Go.Proofs.YtcklnjjbhngbcaaGreatDoor
open Go.RowKit Go.Proofs.Lens

def anyN (ms : List PMom) (ss : List PStop) (q i : Nat) : Bool := (ss.take q).any fun s => holdsP ms s i
def anyC (ms : List PMom) (ss : List PStop) (i _j : Nat) : Value := .bool (anyP ms ss i)
def anM (ms : List PMom) (ss : List PStop) (q r i _j : Nat) : Value := .bool (if i < r then anyN ms ss (q + 1) i else anyN ms ss q i)
theorem anyN_succ (ms : List PMom) (ss : List PStop) {q : Nat} (hq : q < ss.length) (i : Nat) : anyN ms ss (q + 1) i = (anyN ms ss q i || holdsP ms (elt ss q) i) := by
  unfold anyN
  rw [take_snoc hq, List.any_append]
  simp
theorem anM_set {w : World} {lo b cap q r N : Nat} {ms : List PMom} {ss : List PStop} {u : Bool} (h : OwR w lo 4 1 N (anM ms ss q r) (.slice (some ⟨b, 0, none⟩) N cap)) (hr : r < N) (hu : anyN ms ss (q + 1) r = u) :
    OwR (w.setCell ⟨b, r, none⟩ (.bool u)) lo 4 1 N (anM ms ss q (r + 1)) (.slice (some ⟨b, 0, none⟩) N cap) := by
  have := h.set (C' := anM ms ss q (r + 1)) (i0 := r) (j0 := 0) (u := .bool u) hr (by omega) (fun i j hi hj hne => by
    unfold anM
    have : i ≠ r := by omega
    by_cases h1 : i < r
    · rw [if_pos h1, if_pos (by omega)]
    · rw [if_neg h1, if_neg (by omega)]) (by unfold anM; rw [if_pos (by omega), hu])
  simpa using this
theorem all_take {ss : List PStop} {q : Nat} (hq : q < ss.length) (h : (ss.take q).all stopOk = true) : (ss.take (q + 1)).all stopOk = stopOk (elt ss q) := by
  rw [take_snoc hq, List.all_append, h]; simp
theorem all_of {ss : List PStop} {q : Nat} (hq : q < ss.length) (h : stopOk (elt ss q) = false) : ss.all stopOk = false := by
  cases ha : ss.all stopOk with
  | false => rfl
  | true =>
    rw [List.all_eq_true] at ha
    have := ha (elt ss q) (by rw [elt_eq hq]; exact List.getElem_mem _)
    rw [h] at this; cases this
theorem stop_cells {w : World} {A : Option Addr} {ss : List PStop} (h : RowR w A ss.length 4 (stopC ss)) {q : Nat} (hq : q < ss.length) :
    ∃ b o, A = some ⟨b, o, none⟩ ∧ w.cell? ⟨b, o + q * 4, none⟩ = some (.int .i64 (elt ss q).kind) ∧ w.cell? ⟨b, o + q * 4 + 1, none⟩ = some (.int .i64 (elt ss q).fn) ∧
      w.cell? ⟨b, o + q * 4 + 2, none⟩ = some (.int .i64 (elt ss q).line) ∧ w.cell? ⟨b, o + q * 4 + 3, none⟩ = some (.string (elt ss q).nm) := by
  obtain ⟨b, o, rfl, hc⟩ := h (by omega)
  exact ⟨b, o, rfl, hc q hq 0 (by omega), hc q hq 1 (by omega), hc q hq 2 (by omega), hc q hq 3 (by omega)⟩
/-- What merged answers. -/
def MgPost (w : World) (t : PTr) (ss : List PStop) (k : Int) (e : Ending) (w' : World) : Prop :=
  ∃ v, e = .returned (.tuple #[v, .bool (stopsGood t ss k)]) ∧ (stopsGood t ss k = true → OwR w' w.heap.size 4 1 t.moms.length (anyC t.moms ss) v) ∧ Below w.heap.size w w'
set_option maxRecDepth 100000 in
set_option maxHeartbeats 4000000 in
theorem merged_calls (v1 v2 v3 : Value) (t : PTr) (ss : List PStop) (k : Int) (w : World) (h : RdTr w v1 v2 t) (hsm : smTr t) (hss : RdStops w v3 ss) :
    Calls Tryz.prog 145 #[.agg #[v1, v2], v3, .int .i64 k] w (MgPost w t ss k) := by
  have HT := Lib.hid h
  have HS := Lib.hid hsm
  obtain ⟨⟨A1, c1, rfl, hn1, -⟩, ⟨vv, ⟨A2, c2, rfl, hn2, -⟩, -⟩⟩ := h
  obtain ⟨A3, c3, rfl, hn3, hrow⟩ := hss
  have HROW := Lib.hid hrow
  have hsz := hsm.2.1
  clear hsm hrow
  cases hs : soundP t with
  | false =>
    have HR : Hid (stopsGood t ss k = false) := Lib.hid (by unfold stopsGood; rw [hs]; rfl)
    have HQ := Lib.hid hs
    clear hs
    go_enter Tryz.func145, Tryz.ntmps145
    go_wp2_with fail
    refine (sound_is _ _ t _ (HT.out.later (by repeat (with_reducible first | exact Below.refl _ _ | exact HL.out | refine bl_drewN ?_ _ | refine bl_drew ?_ | refine bl_alloc ?_ _ | refine bl_set ?_ (by dsimp only; omega) _))) HS.out HQ.out).mono ?_; rintro e w1 ⟨rfl, hb⟩
    have HB := Lib.hid (bl_then (bl_alloc (Below.refl _ w) _) hb)
    clear hb
    go_wp2
    go_ret2
    unfold MgPost
    rw [HR.out]
    exact ⟨_, rfl, (fun hh => by cases hh), HB.out⟩
  | true =>
    have HQ := Lib.hid hs
    have hso := sound_iff hs
    obtain ⟨nf0, nf1, nm1⟩ := sound_fns hso
    by_cases hl : ss.length ≤ 50
    · cases hp : placeOk t k with
      | false =>
        have HR : Hid (stopsGood t ss k = false) := Lib.hid (by unfold stopsGood; rw [hs, hp]; rfl)
        have HP : Hid (inB k (-1) (t.moms.length : Int) = false) := Lib.hid hp
        clear hs hso hp
        go_enter Tryz.func145, Tryz.ntmps145
        go_wp2_with fail
        refine (sound_is _ _ t _ (HT.out.later (by repeat (with_reducible first | exact Below.refl _ _ | exact HL.out | refine bl_drewN ?_ _ | refine bl_drew ?_ | refine bl_alloc ?_ _ | refine bl_set ?_ (by dsimp only; omega) _))) HS.out HQ.out).mono ?_; rintro e w1 ⟨rfl, hb⟩
        have HX := Lib.hid ((Blk.made w #[.slice A1 t.fns.length c1, .slice A2 t.moms.length c2] 26).later hb)
        have HB := Lib.hid (bl_then (bl_alloc (Below.refl _ w) _) hb)
        have x1 : w1.cell? ⟨w.heap.size, 1, none⟩ = some (.slice A2 t.moms.length c2) := HX.out.cell (j := 1) (by simp)
        clear hb
        go_wp2_with fail
        refine (inside_is _ _ _ _ HP.out).mono ?_; rintro e w2 ⟨rfl, rfl⟩
        go_wp2
        go_ret2
        unfold MgPost
        rw [HR.out]
        exact ⟨_, rfl, (fun hh => by cases hh), HB.out⟩
      | true =>
        have HG : Hid (stopsGood t ss k = ss.all stopOk) := Lib.hid (by unfold stopsGood; rw [hs, hp]; simp [hl])
        have HP : Hid (inB k (-1) (t.moms.length : Int) = true) := Lib.hid hp
        obtain ⟨C, hC, hc, hmk⟩ := make_law (P := Tryz.prog) 165 4 Tryz.underlying165 i_bool t.moms.length (by omega) (by omega)
        have HC := Lib.hid hC
        have Hc := Lib.hid hc
        clear hs hso hp hC hc
        go_enter Tryz.func145, Tryz.ntmps145
        go_wp2_with fail
        refine (sound_is _ _ t _ (HT.out.later (by repeat (with_reducible first | exact Below.refl _ _ | exact HL.out | refine bl_drewN ?_ _ | refine bl_drew ?_ | refine bl_alloc ?_ _ | refine bl_set ?_ (by dsimp only; omega) _))) HS.out HQ.out).mono ?_; rintro e w1 ⟨rfl, hb⟩
        have HX := Lib.hid ((Blk.made w #[.slice A1 t.fns.length c1, .slice A2 t.moms.length c2] 26).later hb)
        have HB := Lib.hid (bl_then (bl_alloc (Below.refl _ w) _) hb)
        have hw1 : w.heap.size < w1.heap.size := HX.out.lt
        have x1 : w1.cell? ⟨w.heap.size, 1, none⟩ = some (.slice A2 t.moms.length c2) := HX.out.cell (j := 1) (by simp)
        clear hb
        go_wp2_with fail
        refine (inside_is _ _ _ _ HP.out).mono ?_; rintro e w2 ⟨rfl, rfl⟩
        go_wp2_with fail
        clear x1
        go_loopw [35] (fun i wr => ∃ q : Nat, q ≤ ss.length ∧ i = .int .i64 q ∧ (ss.take q).all stopOk = true ∧ OwR wr w1.heap.size 4 1 t.moms.length (anM t.moms ss q 0) (.slice (some ⟨w1.heap.size, 0, none⟩) t.moms.length t.moms.length) ∧ Below w.heap.size w wr ∧
          Blk wr w.heap.size 26 2 (fun j => #[Value.slice A1 t.fns.length c1, .slice A2 t.moms.length c2].getD j undef)) (fun i _ => ss.length - (intOf i).toNat)
        case atStart =>
          exact ⟨0, Nat.zero_le _, rfl, by simp, OwR.made HC.out Hc.out (by rfl) (by simp only [maxLen]; omega) _ (fun i hi j hj => by
            obtain rfl : j = 0 := by omega
            simp only [anM, Nat.not_lt_zero, if_false, anyN, List.take_zero, List.any_nil]
            rfl), bl_alloc HB.out _, HX.out.alloc _⟩
        case round =>
          obtain ⟨q, hq, rfl, hall, hO, hB, hX⟩ := hrel
          clear HB HX
          have HO := Lib.hid hO
          have HB := Lib.hid hB
          have HX := Lib.hid hX
          have HALL := Lib.hid hall
          clear hO hB hX hall
          by_cases hlt : q < ss.length
          · obtain ⟨bs, os, rfl, c0, c1', c2', c3'⟩ := stop_cells (HROW.out.later HB.out) hlt
            go_upto_region 7 with fail
            have HSB : Hid (Blk (wr.alloc _) wr.heap.size 45 4 _) := Lib.hid (Blk.made wr #[.int .i64 (elt ss q).kind, .int .i64 (elt ss q).fn, .int .i64 (elt ss q).line, .string (elt ss q).nm] 45)
            generalize hW2 : World.alloc wr _ = W3 at HSB ⊢
            have hbl : Below wr.heap.size wr W3 := by rw [← hW2]; exact bl_alloc (Below.refl _ _) _
            clear hW2 c0 c1' c2' c3'
            replace HB := Lib.hid (bl_then HB.out hbl); replace HX := Lib.hid (HX.out.later hbl); replace HO := Lib.hid (HO.out.later hbl); clear hbl
            have y0 : W3.cell? ⟨wr.heap.size, 0, none⟩ = some (.int .i64 (elt ss q).kind) := HSB.out.cell (j := 0) (by simp)
            have y1 : W3.cell? ⟨wr.heap.size, 1, none⟩ = some (.int .i64 (elt ss q).fn) := HSB.out.cell (j := 1) (by simp)
            have y2 : W3.cell? ⟨wr.heap.size, 2, none⟩ = some (.int .i64 (elt ss q).line) := HSB.out.cell (j := 2) (by simp)
            have y3 : W3.cell? ⟨wr.heap.size, 3, none⟩ = some (.string (elt ss q).nm) := HSB.out.cell (j := 3) (by simp)
            go_wp2_with fail
            clear y0 y1 y2 y3
            cases hst : stopOk (elt ss q) with
            | false =>
              have HST := Lib.hid hst
              have HR : Hid (stopsGood t ss k = false) := Lib.hid (by rw [HG.out]; exact all_of hlt hst)
              clear hst
              refine (impl_StopOk_un _ _ HST.out).mono ?_; rintro e w4 ⟨rfl, hb⟩
              replace HB := Lib.hid (bl_then HB.out hb); clear hb
              go_wp2
              go_ret2
              unfold MgPost
              rw [HR.out]
              exact ⟨_, rfl, (fun hh => by cases hh), HB.out⟩
            | true =>
              have HST := Lib.hid hst
              clear hst
              refine (impl_StopOk_un _ _ HST.out).mono ?_; rintro e w4 ⟨rfl, hb⟩
              replace HB := Lib.hid (bl_then HB.out hb); replace HX := Lib.hid (HX.out.later hb); replace HO := Lib.hid (HO.out.later hb); replace HSB := Lib.hid (HSB.out.later hb); clear hb
              have x0 : w4.cell? ⟨w.heap.size, 0, none⟩ = some (.slice A1 t.fns.length c1) := HX.out.cell (j := 0) (by simp)
              have x1 : w4.cell? ⟨w.heap.size, 1, none⟩ = some (.slice A2 t.moms.length c2) := HX.out.cell (j := 1) (by simp)
              have y0 : w4.cell? ⟨wr.heap.size, 0, none⟩ = some (.int .i64 (elt ss q).kind) := HSB.out.cell (j := 0) (by simp)
              have y1 : w4.cell? ⟨wr.heap.size, 1, none⟩ = some (.int .i64 (elt ss q).fn) := HSB.out.cell (j := 1) (by simp)
              have y2 : w4.cell? ⟨wr.heap.size, 2, none⟩ = some (.int .i64 (elt ss q).line) := HSB.out.cell (j := 2) (by simp)
              have y3 : w4.cell? ⟨wr.heap.size, 3, none⟩ = some (.string (elt ss q).nm) := HSB.out.cell (j := 3) (by simp)
              go_wp2_with fail
              refine (holds_un _ _ t (elt ss q) _ (HT.out.later HB.out) HS.out HQ.out HST.out).mono ?_; rintro e w5 ⟨v, rfl, hO, hb⟩
              obtain ⟨A0, k0, rfl, -⟩ := hO.cap
              have hlt4 : w1.heap.size < w4.heap.size := HO.out.blt.2
              have HH := Lib.hid hO
              clear x0 x1 y0 y1 y2 y3 hO HSB
              replace HB := Lib.hid (bl_then HB.out hb); replace HX := Lib.hid (HX.out.later hb); replace HO := Lib.hid (HO.out.later hb); clear hb
              go_wp2_with fail
              go_loopw [46] (fun i wx => ∃ r : Nat, r ≤ t.moms.length ∧ i = .int .i64 r ∧ OwR wx w1.heap.size 4 1 t.moms.length (anM t.moms ss q r) (.slice (some ⟨w1.heap.size, 0, none⟩) t.moms.length t.moms.length) ∧ OwR wx w4.heap.size 4 1 t.moms.length (hdC t.moms (elt ss q)) (.slice A0 t.moms.length k0) ∧ Below w.heap.size w wx ∧
                Blk wx w.heap.size 26 2 (fun j => #[Value.slice A1 t.fns.length c1, .slice A2 t.moms.length c2].getD j undef)) (fun i _ => t.moms.length - (intOf i).toNat)
              case atStart => exact ⟨0, Nat.zero_le _, rfl, HO.out, HH.out, HB.out, HX.out⟩
              case round =>
                obtain ⟨r, hr, rfl, hO, hH, hB, hX⟩ := hrel
                clear HO HH HB HX
                have HO := Lib.hid hO
                have HB := Lib.hid hB
                have HX := Lib.hid hX
                by_cases hrl : r < t.moms.length
                · obtain ⟨A7, c7, e7, hop⟩ := hH.open'
                  obtain ⟨b7, e8, hb7, -, hc, -⟩ := hop (by omega)
                  cases e7
                  subst e8
                  have z : wr.cell? ⟨b7, r, none⟩ = some (.bool (holdsP t.moms (elt ss q) r)) := by
                    have := hc r hrl 0 (by omega)
                    simpa [hdC] using this
                  have z1 : wr.cell? ⟨w1.heap.size, r, none⟩ = some (.bool (anyN t.moms ss q r)) := by
                    have := HO.out.cells hrl (j := 0) (by omega)
                    simpa [anM] using this
                  have z2 := HO.out.free r
                  have HA := Lib.hid (anyN_succ t.moms ss hlt r)
                  have HH := Lib.hid hH
                  clear hO hH hB hX hop hc
                  generalize hdh : holdsP t.moms (elt ss q) r = q1 at z HA
                  generalize hda : anyN t.moms ss q r = q2 at z1 HA
                  clear hdh hda
                  cases q2 <;> cases q1
                  all_goals
                    go_wp2
                    go_roundw
                    case rel =>
                      refine ⟨r + 1, by omega, by go_num, anM_set HO.out hrl HA.out, ?_, bl_set HB.out (by dsimp only; omega) _, HX.out.far (by dsimp only; omega) _⟩
                      exact HH.out.far (p := ⟨w1.heap.size, r, none⟩) (fun hh => by have := Option.some.inj hh; dsimp only at this; omega) _
                    case measure => simp [intOf]; omega
                · obtain rfl : r = t.moms.length := by omega
                  clear hO hH hB hX
                  go_wp2
                  go_roundw
                  case rel =>
                    refine ⟨q + 1, by omega, by go_num, by rw [all_take hlt HALL.out]; exact HST.out, ?_, HB.out, HX.out⟩
                    exact HO.out.congr fun i hi j hj => by simp [anM, hi]
                  case measure => simp [intOf]; omega
          · obtain rfl : q = ss.length := by omega
            have HR : Hid (stopsGood t ss k = true) := Lib.hid (by rw [HG.out]; have := HALL.out; rwa [List.take_length] at this)
            go_wp2
            go_ret2
            unfold MgPost
            rw [HR.out]
            refine ⟨_, rfl, fun _ => ?_, HB.out⟩
            exact (HO.out.lower (Nat.le_of_lt hw1)).congr fun i hi j hj => by simp [anM, anyC, anyN, anyP]
    · have HR : Hid (stopsGood t ss k = false) := Lib.hid (by unfold stopsGood; simp [hl])
      clear hs hso
      go_enter Tryz.func145, Tryz.ntmps145
      go_wp2_with fail
      refine (sound_is _ _ t _ (HT.out.later (by repeat (with_reducible first | exact Below.refl _ _ | exact HL.out | refine bl_drewN ?_ _ | refine bl_drew ?_ | refine bl_alloc ?_ _ | refine bl_set ?_ (by dsimp only; omega) _))) HS.out HQ.out).mono ?_; rintro e w1 ⟨rfl, hb⟩
      have HB := Lib.hid (bl_then (bl_alloc (Below.refl _ w) _) hb)
      clear hb
      have hl' : ¬ ((ss.length : Int) ≤ 50) := by omega
      go_wp2
      go_ret2
      unfold MgPost
      rw [HR.out]
      exact ⟨_, rfl, (fun hh => by cases hh), HB.out⟩
theorem anyP_hd {ms : List PMom} {ss : List PStop} {n : Nat} {w : World} {lo : Nat} {v : Value} (h : OwR w lo 4 1 n (anyC ms ss) v) : ∃ A c, v = .slice A n c ∧ n ≤ c ∧ c ≤ 9223372036854775807 ∧ ∀ i, i < n → ∃ b, A = some ⟨b, 0, none⟩ ∧ w.cell? ⟨b, i, none⟩ = some (.bool (anyP ms ss i)) := by
  obtain ⟨A0, k0, rfl, h1, h2⟩ := h.cap
  refine ⟨A0, k0, rfl, h1, h2, fun i hi => ?_⟩
  obtain ⟨A7, c7, e7, hop⟩ := h.open'
  obtain ⟨b7, e8, -, -, hc, -⟩ := hop (by omega)
  cases e7
  subst e8
  have := hc i hi 0 (by omega)
  exact ⟨b7, rfl, by simpa [anyC] using this⟩
set_option maxRecDepth 100000 in
set_option maxHeartbeats 2000000 in
theorem impl_Next_calls (v1 v2 v3 : Value) (t : PTr) (ss : List PStop) (k : Int) (w : World) (h : RdTr w v1 v2 t) (hsm : smTr t) (hss : RdStops w v3 ss) :
    Calls Tryz.prog 104 #[.agg #[v1, v2], v3, .int .i64 k] w fun e w' => e = .returned (.int .i64 (nextP t ss k)) ∧ Below w.heap.size w w' := by
  have HT := Lib.hid h
  have HS := Lib.hid hsm
  have HSS := Lib.hid hss
  have hsz := hsm.2.1
  clear hsm hss
  go_enter Tryz.func104, Tryz.ntmps104
  go_wp2_with fail
  refine (merged_calls _ _ _ t ss k _ (HT.out.later (by repeat (with_reducible first | exact Below.refl _ _ | exact HL.out | refine bl_drewN ?_ _ | refine bl_drew ?_ | refine bl_alloc ?_ _ | refine bl_set ?_ (by dsimp only; omega) _))) HS.out (HSS.out.later (by repeat (with_reducible first | exact Below.refl _ _ | exact HL.out | refine bl_drewN ?_ _ | refine bl_drew ?_ | refine bl_alloc ?_ _ | refine bl_set ?_ (by dsimp only; omega) _)))).mono ?_; rintro e w1 ⟨v, rfl, hO, hb⟩
  have HB := Lib.hid (bl_then (bl_alloc (Below.refl _ w) _) hb)
  clear hb
  cases hg : stopsGood t ss k with
  | false =>
    have HR : Hid (nextP t ss k = -2) := Lib.hid (by unfold nextP; rw [hg]; rfl)
    clear hO hg
    go_wp2
    go_ret
    exact ⟨by rw [HR.out]; rfl, HB.out⟩
  | true =>
    obtain ⟨A0, k0, rfl, hk1, hk2, hc⟩ := anyP_hd (hO hg)
    have HC := Lib.hid hc
    have hp : placeOk t k = true := by unfold stopsGood at hg; simp only [Bool.and_eq_true] at hg; exact hg.1.1.2
    obtain ⟨p0, p1⟩ := inB_true.1 hp
    have HR : Hid (nextP t ss k = (firstB (anyP t.moms ss) t.moms.length (t.moms.length - (k + 1).toNat) (k + 1).toNat : Nat)) := Lib.hid (by unfold nextP; rw [if_pos hg])
    obtain ⟨m, hm⟩ : ∃ m : Nat, k + 1 = (m : Int) := ⟨(k + 1).toNat, by omega⟩
    rw [hm] at HR
    rw [Int.toNat_natCast] at HR
    clear hO hg hc hp
    go_upto_region 4 with fail
    go_upto_region 5 with fail
    go_loopw [9] (fun i wr => ∃ q : Nat, i = .int .i64 q ∧ m ≤ q ∧ firstB (anyP t.moms ss) t.moms.length (t.moms.length - q) q = firstB (anyP t.moms ss) t.moms.length (t.moms.length - m) m ∧ wr = w1) (fun i _ => t.moms.length - (intOf i).toNat)
    case atStart => exact ⟨m, rfl, Nat.le_refl _, rfl, rfl⟩
    case round =>
      obtain ⟨q, rfl, hmq, hf, rfl⟩ := hrel
      have HF := Lib.hid hf
      clear hf
      by_cases hlt : q < t.moms.length
      · obtain ⟨b, rfl, z⟩ := HC.out q hlt
        cases ha : anyP t.moms ss q with
        | true =>
          have HA := Lib.hid ha
          rw [ha] at z
          clear ha
          go_wp2
          go_ret
          exact ⟨by rw [HR.out, ← HF.out, firstB_hit hlt HA.out]; rfl, HB.out⟩
        | false =>
          have HA := Lib.hid ha
          rw [ha] at z
          clear ha
          go_wp2
          go_roundw
          case rel => exact ⟨q + 1, by go_num, by omega, by rw [← HF.out, firstB_skip hlt HA.out], trivial⟩
          case measure => simp [intOf]; omega
      · have hge : t.moms.length ≤ q := by omega
        go_wp2
        go_ret
        exact ⟨by rw [HR.out, ← HF.out, firstB_end hge]; rfl, HB.out⟩
set_option maxRecDepth 100000 in
set_option maxHeartbeats 2000000 in
theorem impl_Last_calls (v1 v2 v3 : Value) (t : PTr) (ss : List PStop) (k : Int) (w : World) (h : RdTr w v1 v2 t) (hsm : smTr t) (hss : RdStops w v3 ss) :
    Calls Tryz.prog 106 #[.agg #[v1, v2], v3, .int .i64 k] w fun e w' => e = .returned (.int .i64 (lastP t ss k)) ∧ Below w.heap.size w w' := by
  have HT := Lib.hid h
  have HS := Lib.hid hsm
  have HSS := Lib.hid hss
  have hsz := hsm.2.1
  clear hsm hss
  go_enter Tryz.func106, Tryz.ntmps106
  go_wp2_with fail
  refine (merged_calls _ _ _ t ss k _ (HT.out.later (by repeat (with_reducible first | exact Below.refl _ _ | exact HL.out | refine bl_drewN ?_ _ | refine bl_drew ?_ | refine bl_alloc ?_ _ | refine bl_set ?_ (by dsimp only; omega) _))) HS.out (HSS.out.later (by repeat (with_reducible first | exact Below.refl _ _ | exact HL.out | refine bl_drewN ?_ _ | refine bl_drew ?_ | refine bl_alloc ?_ _ | refine bl_set ?_ (by dsimp only; omega) _)))).mono ?_; rintro e w1 ⟨v, rfl, hO, hb⟩
  have HB := Lib.hid (bl_then (bl_alloc (Below.refl _ w) _) hb)
  clear hb
  cases hg : stopsGood t ss k with
  | false =>
    have HR : Hid (lastP t ss k = -2) := Lib.hid (by unfold lastP; rw [hg]; rfl)
    clear hO hg
    go_wp2
    go_ret
    exact ⟨by rw [HR.out]; rfl, HB.out⟩
  | true =>
    obtain ⟨A0, k0, rfl, hk1, hk2, hc⟩ := anyP_hd (hO hg)
    have HC := Lib.hid hc
    have hp : placeOk t k = true := by unfold stopsGood at hg; simp only [Bool.and_eq_true] at hg; exact hg.1.1.2
    obtain ⟨p0, p1⟩ := inB_true.1 hp
    have HR : Hid (lastP t ss k = lastB (anyP t.moms ss) k.toNat) := Lib.hid (by unfold lastP; rw [if_pos hg])
    clear hO hg hc hp
    go_upto_region 4 with fail
    go_upto_region 5 with fail
    go_loopw [9] (fun i wr => ∃ x : Int, i = .int .i64 x ∧ -2 ≤ x ∧ x < t.moms.length ∧ lastB (anyP t.moms ss) k.toNat = lastB (anyP t.moms ss) (x + 1).toNat ∧ wr = w1) (fun i _ => (intOf i + 2).toNat)
    case atStart => exact ⟨k - 1, rfl, by omega, by omega, by congr 1; omega, rfl⟩
    case round =>
      obtain ⟨x, rfl, x0, x1, hf, rfl⟩ := hrel
      have HF := Lib.hid hf
      clear hf
      by_cases hx : 0 ≤ x
      · obtain ⟨q, rfl⟩ : ∃ q : Nat, x = (q : Int) := ⟨x.toNat, by omega⟩
        have hlt : q < t.moms.length := by omega
        have HE : Hid (((q : Int) + 1).toNat = q + 1) := Lib.hid (by omega)
        obtain ⟨b, rfl, z⟩ := HC.out q hlt
        cases ha : anyP t.moms ss q with
        | true =>
          have HA := Lib.hid ha
          rw [ha] at z
          clear ha
          go_wp2
          go_ret
          exact ⟨by rw [HR.out, HF.out, HE.out, lastB, if_pos HA.out]; rfl, HB.out⟩
        | false =>
          have HA := Lib.hid ha
          rw [ha] at z
          clear ha
          go_wp2
          go_roundw
          case rel => exact ⟨(q : Int) - 1, by go_num, by omega, by omega, by rw [HF.out, HE.out, lastB, if_neg (by rw [HA.out]; simp)]; congr 1; omega, trivial⟩
          case measure => simp [intOf]; omega
      · have HE : Hid ((x + 1).toNat = 0) := Lib.hid (by omega)
        go_wp2
        go_ret
        exact ⟨by rw [HR.out, HF.out, HE.out]; rfl, HB.out⟩
end Go.Proofs.YtcklnjjbhngbcaaGreatDoor
