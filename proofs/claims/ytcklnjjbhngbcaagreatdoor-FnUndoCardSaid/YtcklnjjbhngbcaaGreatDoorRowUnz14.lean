/- Lemmas and contracts of functions that the theorem of this claim leans on (texts I11, I12, I5, I6, IL). -/
import Derived.Test.YtcklnjjbhngbcaaGreatDoorRowUnz13
import Derived.Test.YtcklnjjbhngbcaaGreatDoorRowUnz12
import Derived.Deep.LoopGhost
import Derived.Test.YtcklnjjbhngbcaaGreatDoorRowUnz05
namespace Go.Proofs.YtcklnjjbhngbcaaGreatDoor
open Go.RowKit Go.Proofs.Lens

theorem impl_StopOk_is (p : PStop) (w : World) {b : Bool} (h : stopOk p = b) : Calls Tryz.prog 115 #[stopV p] w fun e w' => e = .returned (.bool b) ∧ Below w.heap.size w w' := h ▸ impl_StopOk_calls p w
theorem impl_StopOk_un (p : PStop) (w : World) {b : Bool} (h : stopOk p = b) : Calls Tryz.prog 115 #[.agg #[.int .i64 p.kind, .int .i64 p.fn, .int .i64 p.line, .string p.nm]] w fun e w' => e = .returned (.bool b) ∧ Below w.heap.size w w' := impl_StopOk_is p w h
theorem holds_un (v1 v2 : Value) (t : PTr) (s : PStop) (w : World) (h : RdTr w v1 v2 t) (hsm : smTr t) (hs : soundP t = true) (hst : stopOk s = true) :
    Calls Tryz.prog 156 #[.agg #[v1, v2], .agg #[.int .i64 s.kind, .int .i64 s.fn, .int .i64 s.line, .string s.nm]] w (OwRet w 4 1 t.moms.length (hdC t.moms s)) := holds_calls v1 v2 t s w h hsm hs hst
end Go.Proofs.YtcklnjjbhngbcaaGreatDoor

namespace Go.Proofs.YtcklnjjbhngbcaaGreatDoor
open Go.RowKit Go.Proofs.Lens

def anyN (ms : List PMom) (ss : List PStop) (q i : Nat) : Bool := (ss.take q).any fun s => holdsP ms s i
def anyC (ms : List PMom) (ss : List PStop) (i _j : Nat) : Value := .bool (anyP ms ss i)
def anM (ms : List PMom) (ss : List PStop) (q r i _j : Nat) : Value := .bool (if i < r then anyN ms ss (q + 1) i else anyN ms ss q i)
theorem anyN_succ (ms : List PMom) (ss : List PStop) {q : Nat} (hq : q < ss.length) (i : Nat) : anyN ms ss (q + 1) i = (anyN ms ss q i || holdsP ms (elt ss q) i) := by
  unfold anyN
  rw [take_snoc hq, List.any_append]
  simp
theorem anM_set {w : World} {lo b cap q r N : Nat} {ms : List PMom} {ss : List PStop} {u : Bool} (h : OwR w lo 4 1 N (anM ms ss q r) (.slice (some ⟨b, 0, none⟩) N cap)) (hr : r < N) (hu : anyN ms ss (q + 1) r = u) :
    OwR (w.setCell ⟨b, r, none⟩ (.bool u)) lo 4 1 N (anM ms ss q (r + 1)) (.slice (some ⟨b, 0, none⟩) N cap) := by
  have := h.set (C' := anM ms ss q (r + 1)) (i0 := r) (j0 := 0) (u := .bool u) hr (by omega) (fun i j hi hj hne => by
    unfold anM
    have : i ≠ r := by omega
    by_cases h1 : i < r
    · rw [if_pos h1, if_pos (by omega)]
    · rw [if_neg h1, if_neg (by omega)]) (by unfold anM; rw [if_pos (by omega), hu])
  simpa using this
theorem all_take {ss : List PStop} {q : Nat} (hq : q < ss.length) (h : (ss.take q).all stopOk = true) : (ss.take (q + 1)).all stopOk = stopOk (elt ss q) := by
  rw [take_snoc hq, List.all_append, h]; simp
theorem all_of {ss : List PStop} {q : Nat} (hq : q < ss.length) (h : stopOk (elt ss q) = false) : ss.all stopOk = false := by
  cases ha : ss.all stopOk with
  | false => rfl
  | true =>
    rw [List.all_eq_true] at ha
    have := ha (elt ss q) (by rw [elt_eq hq]; exact List.getElem_mem _)
    rw [h] at this; cases this
theorem stop_cells {w : World} {A : Option Addr} {ss : List PStop} (h : RowR w A ss.length 4 (stopC ss)) {q : Nat} (hq : q < ss.length) :
    ∃ b o, A = some ⟨b, o, none⟩ ∧ w.cell? ⟨b, o + q * 4, none⟩ = some (.int .i64 (elt ss q).kind) ∧ w.cell? ⟨b, o + q * 4 + 1, none⟩ = some (.int .i64 (elt ss q).fn) ∧
      w.cell? ⟨b, o + q * 4 + 2, none⟩ = some (.int .i64 (elt ss q).line) ∧ w.cell? ⟨b, o + q * 4 + 3, none⟩ = some (.string (elt ss q).nm) := by
  obtain ⟨b, o, rfl, hc⟩ := h (by omega)
  exact ⟨b, o, rfl, hc q hq 0 (by omega), hc q hq 1 (by omega), hc q hq 2 (by omega), hc q hq 3 (by omega)⟩
/-- What merged answers. -/
def MgPost (w : World) (t : PTr) (ss : List PStop) (k : Int) (e : Ending) (w' : World) : Prop :=
  ∃ v, e = .returned (.tuple #[v, .bool (stopsGood t ss k)]) ∧ (stopsGood t ss k = true → OwR w' w.heap.size 4 1 t.moms.length (anyC t.moms ss) v) ∧ Below w.heap.size w w'
set_option maxRecDepth 100000 in
set_option maxHeartbeats 4000000 in
theorem merged_calls (v1 v2 v3 : Value) (t : PTr) (ss : List PStop) (k : Int) (w : World) (h : RdTr w v1 v2 t) (hsm : smTr t) (hss : RdStops w v3 ss) :
    Calls Tryz.prog 145 #[.agg #[v1, v2], v3, .int .i64 k] w (MgPost w t ss k) := by
  have HT := Lib.hid h
  have HS := Lib.hid hsm
  obtain ⟨⟨A1, c1, rfl, hn1, -⟩, ⟨vv, ⟨A2, c2, rfl, hn2, -⟩, -⟩⟩ := h
  obtain ⟨A3, c3, rfl, hn3, hrow⟩ := hss
  have HROW := Lib.hid hrow
  have hsz := hsm.2.1
  clear hsm hrow
  cases hs : soundP t with
  | false =>
    have HR : Hid (stopsGood t ss k = false) := Lib.hid (by unfold stopsGood; rw [hs]; rfl)
    have HQ := Lib.hid hs
    clear hs
    go_enter Tryz.func145, Tryz.ntmps145
    go_wp2_with fail
    refine (sound_is _ _ t _ (HT.out.later (by repeat (with_reducible first | exact Below.refl _ _ | exact HL.out | refine bl_drewN ?_ _ | refine bl_drew ?_ | refine bl_alloc ?_ _ | refine bl_set ?_ (by dsimp only; omega) _))) HS.out HQ.out).mono ?_; rintro e w1 ⟨rfl, hb⟩
    have HB := Lib.hid (bl_then (bl_alloc (Below.refl _ w) _) hb)
    clear hb
    go_wp2
    go_ret2
    unfold MgPost
    rw [HR.out]
    exact ⟨_, rfl, (fun hh => by cases hh), HB.out⟩
  | true =>
    have HQ := Lib.hid hs
    have hso := sound_iff hs
    obtain ⟨nf0, nf1, nm1⟩ := sound_fns hso
    by_cases hl : ss.length ≤ 50
    · cases hp : placeOk t k with
      | false =>
        have HR : Hid (stopsGood t ss k = false) := Lib.hid (by unfold stopsGood; rw [hs, hp]; rfl)
        have HP : Hid (inB k (-1) (t.moms.length : Int) = false) := Lib.hid hp
        clear hs hso hp
        go_enter Tryz.func145, Tryz.ntmps145
        go_wp2_with fail
        refine (sound_is _ _ t _ (HT.out.later (by repeat (with_reducible first | exact Below.refl _ _ | exact HL.out | refine bl_drewN ?_ _ | refine bl_drew ?_ | refine bl_alloc ?_ _ | refine bl_set ?_ (by dsimp only; omega) _))) HS.out HQ.out).mono ?_; rintro e w1 ⟨rfl, hb⟩
        have HX := Lib.hid ((Blk.made w #[.slice A1 t.fns.length c1, .slice A2 t.moms.length c2] 26).later hb)
        have HB := Lib.hid (bl_then (bl_alloc (Below.refl _ w) _) hb)
        have x1 : w1.cell? ⟨w.heap.size, 1, none⟩ = some (.slice A2 t.moms.length c2) := HX.out.cell (j := 1) (by simp)
        clear hb
        go_wp2_with fail
        refine (inside_is _ _ _ _ HP.out).mono ?_; rintro e w2 ⟨rfl, rfl⟩
        go_wp2
        go_ret2
        unfold MgPost
        rw [HR.out]
        exact ⟨_, rfl, (fun hh => by cases hh), HB.out⟩
      | true =>
        have HG : Hid (stopsGood t ss k = ss.all stopOk) := Lib.hid (by unfold stopsGood; rw [hs, hp]; simp [hl])
        have HP : Hid (inB k (-1) (t.moms.length : Int) = true) := Lib.hid hp
        obtain ⟨C, hC, hc, hmk⟩ := make_law (P := Tryz.prog) 165 4 Tryz.underlying165 i_bool t.moms.length (by omega) (by omega)
        have HC := Lib.hid hC
        have Hc := Lib.hid hc
        clear hs hso hp hC hc
        go_enter Tryz.func145, Tryz.ntmps145
        go_wp2_with fail
        refine (sound_is _ _ t _ (HT.out.later (by repeat (with_reducible first | exact Below.refl _ _ | exact HL.out | refine bl_drewN ?_ _ | refine bl_drew ?_ | refine bl_alloc ?_ _ | refine bl_set ?_ (by dsimp only; omega) _))) HS.out HQ.out).mono ?_; rintro e w1 ⟨rfl, hb⟩
        have HX := Lib.hid ((Blk.made w #[.slice A1 t.fns.length c1, .slice A2 t.moms.length c2] 26).later hb)
        have HB := Lib.hid (bl_then (bl_alloc (Below.refl _ w) _) hb)
        have hw1 : w.heap.size < w1.heap.size := HX.out.lt
        have x1 : w1.cell? ⟨w.heap.size, 1, none⟩ = some (.slice A2 t.moms.length c2) := HX.out.cell (j := 1) (by simp)
        clear hb
        go_wp2_with fail
        refine (inside_is _ _ _ _ HP.out).mono ?_; rintro e w2 ⟨rfl, rfl⟩
        go_wp2_with fail
        clear x1
        go_loopw [35] (fun i wr => ∃ q : Nat, q ≤ ss.length ∧ i = .int .i64 q ∧ (ss.take q).all stopOk = true ∧ OwR wr w1.heap.size 4 1 t.moms.length (anM t.moms ss q 0) (.slice (some ⟨w1.heap.size, 0, none⟩) t.moms.length t.moms.length) ∧ Below w.heap.size w wr ∧
          Blk wr w.heap.size 26 2 (fun j => #[Value.slice A1 t.fns.length c1, .slice A2 t.moms.length c2].getD j undef)) (fun i _ => ss.length - (intOf i).toNat)
        case atStart =>
          exact ⟨0, Nat.zero_le _, rfl, by simp, OwR.made HC.out Hc.out (by rfl) (by simp only [maxLen]; omega) _ (fun i hi j hj => by
            obtain rfl : j = 0 := by omega
            simp only [anM, Nat.not_lt_zero, if_false, anyN, List.take_zero, List.any_nil]
            rfl), bl_alloc HB.out _, HX.out.alloc _⟩
        case round =>
          obtain ⟨q, hq, rfl, hall, hO, hB, hX⟩ := hrel
          clear HB HX
          have HO := Lib.hid hO
          have HB := Lib.hid hB
          have HX := Lib.hid hX
          have HALL := Lib.hid hall
          clear hO hB hX hall
          by_cases hlt : q < ss.length
          · obtain ⟨bs, os, rfl, c0, c1', c2', c3'⟩ := stop_cells (HROW.out.later HB.out) hlt
            go_upto_region 7 with fail
            have HSB : Hid (Blk (wr.alloc _) wr.heap.size 45 4 _) := Lib.hid (Blk.made wr #[.int .i64 (elt ss q).kind, .int .i64 (elt ss q).fn, .int .i64 (elt ss q).line, .string (elt ss q).nm] 45)
            generalize hW2 : World.alloc wr _ = W3 at HSB ⊢
            have hbl : Below wr.heap.size wr W3 := by rw [← hW2]; exact bl_alloc (Below.refl _ _) _
            clear hW2 c0 c1' c2' c3'
            replace HB := Lib.hid (bl_then HB.out hbl); replace HX := Lib.hid (HX.out.later hbl); replace HO := Lib.hid (HO.out.later hbl); clear hbl
            have y0 : W3.cell? ⟨wr.heap.size, 0, none⟩ = some (.int .i64 (elt ss q).kind) := HSB.out.cell (j := 0) (by simp)
            have y1 : W3.cell? ⟨wr.heap.size, 1, none⟩ = some (.int .i64 (elt ss q).fn) := HSB.out.cell (j := 1) (by simp)
            have y2 : W3.cell? ⟨wr.heap.size, 2, none⟩ = some (.int .i64 (elt ss q).line) := HSB.out.cell (j := 2) (by simp)
            have y3 : W3.cell? ⟨wr.heap.size, 3, none⟩ = some (.string (elt ss q).nm) := HSB.out.cell (j := 3) (by simp)
            go_wp2_with fail
            clear y0 y1 y2 y3
            cases hst : stopOk (elt ss q) with
            | false =>
              have HST := Lib.hid hst
              have HR : Hid (stopsGood t ss k = false) := Lib.hid (by rw [HG.out]; exact all_of hlt hst)
              clear hst
              refine (impl_StopOk_un _ _ HST.out).mono ?_; rintro e w4 ⟨rfl, hb⟩
              replace HB := Lib.hid (bl_then HB.out hb); clear hb
              go_wp2
              go_ret2
              unfold MgPost
              rw [HR.out]
              exact ⟨_, rfl, (fun hh => by cases hh), HB.out⟩
            | true =>
              have HST := Lib.hid hst
              clear hst
              refine (impl_StopOk_un _ _ HST.out).mono ?_; rintro e w4 ⟨rfl, hb⟩
              replace HB := Lib.hid (bl_then HB.out hb); replace HX := Lib.hid (HX.out.later hb); replace HO := Lib.hid (HO.out.later hb); replace HSB := Lib.hid (HSB.out.later hb); clear hb
              have x0 : w4.cell? ⟨w.heap.size, 0, none⟩ = some (.slice A1 t.fns.length c1) := HX.out.cell (j := 0) (by simp)
              have x1 : w4.cell? ⟨w.heap.size, 1, none⟩ = some (.slice A2 t.moms.length c2) := HX.out.cell (j := 1) (by simp)
              have y0 : w4.cell? ⟨wr.heap.size, 0, none⟩ = some (.int .i64 (elt ss q).kind) := HSB.out.cell (j := 0) (by simp)
              have y1 : w4.cell? ⟨wr.heap.size, 1, none⟩ = some (.int .i64 (elt ss q).fn) := HSB.out.cell (j := 1) (by simp)
              have y2 : w4.cell? ⟨wr.heap.size, 2, none⟩ = some (.int .i64 (elt ss q).line) := HSB.out.cell (j := 2) (by simp)
              have y3 : w4.cell? ⟨wr.heap.size, 3, none⟩ = some (.string (elt ss q).nm) := HSB.out.cell (j := 3) (by simp)
              go_wp2_with fail
              refine (holds_un _ _ t (elt ss q) _ (HT.out.later HB.out) HS.out HQ.out HST.out).mono ?_; rintro e w5 ⟨v, rfl, hO, hb⟩
              obtain ⟨A0, k0, rfl, -⟩ := hO.cap
              have hlt4 : w1.heap.size < w4.heap.size := HO.out.blt.2
              have HH := Lib.hid hO
              clear x0 x1 y0 y1 y2 y3 hO HSB
              replace HB := Lib.hid (bl_then HB.out hb); replace HX := Lib.hid (HX.out.later hb); replace HO := Lib.hid (HO.out.later hb); clear hb
              go_wp2_with fail
              go_loopw [46] (fun i wx => ∃ r : Nat, r ≤ t.moms.length ∧ i = .int .i64 r ∧ OwR wx w1.heap.size 4 1 t.moms.length (anM t.moms ss q r) (.slice (some ⟨w1.heap.size, 0, none⟩) t.moms.length t.moms.length) ∧ OwR wx w4.heap.size 4 1 t.moms.length (hdC t.moms (elt ss q)) (.slice A0 t.moms.length k0) ∧ Below w.heap.size w wx ∧
                Blk wx w.heap.size 26 2 (fun j => #[Value.slice A1 t.fns.length c1, .slice A2 t.moms.length c2].getD j undef)) (fun i _ => t.moms.length - (intOf i).toNat)
              case atStart => exact ⟨0, Nat.zero_le _, rfl, HO.out, HH.out, HB.out, HX.out⟩
              case round =>
                obtain ⟨r, hr, rfl, hO, hH, hB, hX⟩ := hrel
                clear HO HH HB HX
                have HO := Lib.hid hO
                have HB := Lib.hid hB
                have HX := Lib.hid hX
                by_cases hrl : r < t.moms.length
                · obtain ⟨A7, c7, e7, hop⟩ := hH.open'
                  obtain ⟨b7, e8, hb7, -, hc, -⟩ := hop (by omega)
                  cases e7
                  subst e8
                  have z : wr.cell? ⟨b7, r, none⟩ = some (.bool (holdsP t.moms (elt ss q) r)) := by
                    have := hc r hrl 0 (by omega)
                    simpa [hdC] using this
                  have z1 : wr.cell? ⟨w1.heap.size, r, none⟩ = some (.bool (anyN t.moms ss q r)) := by
                    have := HO.out.cells hrl (j := 0) (by omega)
                    simpa [anM] using this
                  have z2 := HO.out.free r
                  have HA := Lib.hid (anyN_succ t.moms ss hlt r)
                  have HH := Lib.hid hH
                  clear hO hH hB hX hop hc
                  generalize hdh : holdsP t.moms (elt ss q) r = q1 at z HA
                  generalize hda : anyN t.moms ss q r = q2 at z1 HA
                  clear hdh hda
                  cases q2 <;> cases q1
                  all_goals
                    go_wp2
                    go_roundw
                    case rel =>
                      refine ⟨r + 1, by omega, by go_num, anM_set HO.out hrl HA.out, ?_, bl_set HB.out (by dsimp only; omega) _, HX.out.far (by dsimp only; omega) _⟩
                      exact HH.out.far (p := ⟨w1.heap.size, r, none⟩) (fun hh => by have := Option.some.inj hh; dsimp only at this; omega) _
                    case measure => simp [intOf]; omega
                · obtain rfl : r = t.moms.length := by omega
                  clear hO hH hB hX
                  go_wp2
                  go_roundw
                  case rel =>
                    refine ⟨q + 1, by omega, by go_num, by rw [all_take hlt HALL.out]; exact HST.out, ?_, HB.out, HX.out⟩
                    exact HO.out.congr fun i hi j hj => by simp [anM, hi]
                  case measure => simp [intOf]; omega
          · obtain rfl : q = ss.length := by omega
            have HR : Hid (stopsGood t ss k = true) := Lib.hid (by rw [HG.out]; have := HALL.out; rwa [List.take_length] at this)
            go_wp2
            go_ret2
            unfold MgPost
            rw [HR.out]
            refine ⟨_, rfl, fun _ => ?_, HB.out⟩
            exact (HO.out.lower (Nat.le_of_lt hw1)).congr fun i hi j hj => by simp [anM, anyC, anyN, anyP]
    · have HR : Hid (stopsGood t ss k = false) := Lib.hid (by unfold stopsGood; simp [hl])
      clear hs hso
      go_enter Tryz.func145, Tryz.ntmps145
      go_wp2_with fail
      refine (sound_is _ _ t _ (HT.out.later (by repeat (with_reducible first | exact Below.refl _ _ | exact HL.out | refine bl_drewN ?_ _ | refine bl_drew ?_ | refine bl_alloc ?_ _ | refine bl_set ?_ (by dsimp only; omega) _))) HS.out HQ.out).mono ?_; rintro e w1 ⟨rfl, hb⟩
      have HB := Lib.hid (bl_then (bl_alloc (Below.refl _ w) _) hb)
      clear hb
      have hl' : ¬ ((ss.length : Int) ≤ 50) := by omega
      go_wp2
      go_ret2
      unfold MgPost
      rw [HR.out]
      exact ⟨_, rfl, (fun hh => by cases hh), HB.out⟩
theorem anyP_hd {ms : List PMom} {ss : List PStop} {n : Nat} {w : World} {lo : Nat} {v : Value} (h : OwR w lo 4 1 n (anyC ms ss) v) : ∃ A c, v = .slice A n c ∧ n ≤ c ∧ c ≤ 9223372036854775807 ∧ ∀ i, i < n → ∃ b, A = some ⟨b, 0, none⟩ ∧ w.cell? ⟨b, i, none⟩ = some (.bool (anyP ms ss i)) := by
  obtain ⟨A0, k0, rfl, h1, h2⟩ := h.cap
  refine ⟨A0, k0, rfl, h1, h2, fun i hi => ?_⟩
  obtain ⟨A7, c7, e7, hop⟩ := h.open'
  obtain ⟨b7, e8, -, -, hc, -⟩ := hop (by omega)
  cases e7
  subst e8
  have := hc i hi 0 (by omega)
  exact ⟨b7, rfl, by simpa [anyC] using this⟩
set_option maxRecDepth 100000 in
set_option maxHeartbeats 2000000 in
theorem impl_Next_calls (v1 v2 v3 : Value) (t : PTr) (ss : List PStop) (k : Int) (w : World) (h : RdTr w v1 v2 t) (hsm : smTr t) (hss : RdStops w v3 ss) :
    Calls Tryz.prog 104 #[.agg #[v1, v2], v3, .int .i64 k] w fun e w' => e = .returned (.int .i64 (nextP t ss k)) ∧ Below w.heap.size w w' := by
  have HT := Lib.hid h
  have HS := Lib.hid hsm
  have HSS := Lib.hid hss
  have hsz := hsm.2.1
  clear hsm hss
  go_enter Tryz.func104, Tryz.ntmps104
  go_wp2_with fail
  refine (merged_calls _ _ _ t ss k _ (HT.out.later (by repeat (with_reducible first | exact Below.refl _ _ | exact HL.out | refine bl_drewN ?_ _ | refine bl_drew ?_ | refine bl_alloc ?_ _ | refine bl_set ?_ (by dsimp only; omega) _))) HS.out (HSS.out.later (by repeat (with_reducible first | exact Below.refl _ _ | exact HL.out | refine bl_drewN ?_ _ | refine bl_drew ?_ | refine bl_alloc ?_ _ | refine bl_set ?_ (by dsimp only; omega) _)))).mono ?_; rintro e w1 ⟨v, rfl, hO, hb⟩
  have HB := Lib.hid (bl_then (bl_alloc (Below.refl _ w) _) hb)
  clear hb
  cases hg : stopsGood t ss k with
  | false =>
    have HR : Hid (nextP t ss k = -2) := Lib.hid (by unfold nextP; rw [hg]; rfl)
    clear hO hg
    go_wp2
    go_ret
    exact ⟨by rw [HR.out]; rfl, HB.out⟩
  | true =>
    obtain ⟨A0, k0, rfl, hk1, hk2, hc⟩ := anyP_hd (hO hg)
    have HC := Lib.hid hc
    have hp : placeOk t k = true := by unfold stopsGood at hg; simp only [Bool.and_eq_true] at hg; exact hg.1.1.2
    obtain ⟨p0, p1⟩ := inB_true.1 hp
    have HR : Hid (nextP t ss k = (firstB (anyP t.moms ss) t.moms.length (t.moms.length - (k + 1).toNat) (k + 1).toNat : Nat)) := Lib.hid (by unfold nextP; rw [if_pos hg])
    obtain ⟨m, hm⟩ : ∃ m : Nat, k + 1 = (m : Int) := ⟨(k + 1).toNat, by omega⟩
    rw [hm] at HR
    rw [Int.toNat_natCast] at HR
    clear hO hg hc hp
    go_upto_region 4 with fail
    go_upto_region 5 with fail
    go_loopw [9] (fun i wr => ∃ q : Nat, i = .int .i64 q ∧ m ≤ q ∧ firstB (anyP t.moms ss) t.moms.length (t.moms.length - q) q = firstB (anyP t.moms ss) t.moms.length (t.moms.length - m) m ∧ wr = w1) (fun i _ => t.moms.length - (intOf i).toNat)
    case atStart => exact ⟨m, rfl, Nat.le_refl _, rfl, rfl⟩
    case round =>
      obtain ⟨q, rfl, hmq, hf, rfl⟩ := hrel
      have HF := Lib.hid hf
      clear hf
      by_cases hlt : q < t.moms.length
      · obtain ⟨b, rfl, z⟩ := HC.out q hlt
        cases ha : anyP t.moms ss q with
        | true =>
          have HA := Lib.hid ha
          rw [ha] at z
          clear ha
          go_wp2
          go_ret
          exact ⟨by rw [HR.out, ← HF.out, firstB_hit hlt HA.out]; rfl, HB.out⟩
        | false =>
          have HA := Lib.hid ha
          rw [ha] at z
          clear ha
          go_wp2
          go_roundw
          case rel => exact ⟨q + 1, by go_num, by omega, by rw [← HF.out, firstB_skip hlt HA.out], trivial⟩
          case measure => simp [intOf]; omega
      · have hge : t.moms.length ≤ q := by omega
        go_wp2
        go_ret
        exact ⟨by rw [HR.out, ← HF.out, firstB_end hge]; rfl, HB.out⟩
set_option maxRecDepth 100000 in
set_option maxHeartbeats 2000000 in
theorem impl_Last_calls (v1 v2 v3 : Value) (t : PTr) (ss : List PStop) (k : Int) (w : World) (h : RdTr w v1 v2 t) (hsm : smTr t) (hss : RdStops w v3 ss) :
    Calls Tryz.prog 106 #[.agg #[v1, v2], v3, .int .i64 k] w fun e w' => e = .returned (.int .i64 (lastP t ss k)) ∧ Below w.heap.size w w' := by
  have HT := Lib.hid h
  have HS := Lib.hid hsm
  have HSS := Lib.hid hss
  have hsz := hsm.2.1
  clear hsm hss
  go_enter Tryz.func106, Tryz.ntmps106
  go_wp2_with fail
  refine (merged_calls _ _ _ t ss k _ (HT.out.later (by repeat (with_reducible first | exact Below.refl _ _ | exact HL.out | refine bl_drewN ?_ _ | refine bl_drew ?_ | refine bl_alloc ?_ _ | refine bl_set ?_ (by dsimp only; omega) _))) HS.out (HSS.out.later (by repeat (with_reducible first | exact Below.refl _ _ | exact HL.out | refine bl_drewN ?_ _ | refine bl_drew ?_ | refine bl_alloc ?_ _ | refine bl_set ?_ (by dsimp only; omega) _)))).mono ?_; rintro e w1 ⟨v, rfl, hO, hb⟩
  have HB := Lib.hid (bl_then (bl_alloc (Below.refl _ w) _) hb)
  clear hb
  cases hg : stopsGood t ss k with
  | false =>
    have HR : Hid (lastP t ss k = -2) := Lib.hid (by unfold lastP; rw [hg]; rfl)
    clear hO hg
    go_wp2
    go_ret
    exact ⟨by rw [HR.out]; rfl, HB.out⟩
  | true =>
    obtain ⟨A0, k0, rfl, hk1, hk2, hc⟩ := anyP_hd (hO hg)
    have HC := Lib.hid hc
    have hp : placeOk t k = true := by unfold stopsGood at hg; simp only [Bool.and_eq_true] at hg; exact hg.1.1.2
    obtain ⟨p0, p1⟩ := inB_true.1 hp
    have HR : Hid (lastP t ss k = lastB (anyP t.moms ss) k.toNat) := Lib.hid (by unfold lastP; rw [if_pos hg])
    clear hO hg hc hp
    go_upto_region 4 with fail
    go_upto_region 5 with fail
    go_loopw [9] (fun i wr => ∃ x : Int, i = .int .i64 x ∧ -2 ≤ x ∧ x < t.moms.length ∧ lastB (anyP t.moms ss) k.toNat = lastB (anyP t.moms ss) (x + 1).toNat ∧ wr = w1) (fun i _ => (intOf i + 2).toNat)
    case atStart => exact ⟨k - 1, rfl, by omega, by omega, by congr 1; omega, rfl⟩
    case round =>
      obtain ⟨x, rfl, x0, x1, hf, rfl⟩ := hrel
      have HF := Lib.hid hf
      clear hf
      by_cases hx : 0 ≤ x
      · obtain ⟨q, rfl⟩ : ∃ q : Nat, x = (q : Int) := ⟨x.toNat, by omega⟩
        have hlt : q < t.moms.length := by omega
        have HE : Hid (((q : Int) + 1).toNat = q + 1) := Lib.hid (by omega)
        obtain ⟨b, rfl, z⟩ := HC.out q hlt
        cases ha : anyP t.moms ss q with
        | true =>
          have HA := Lib.hid ha
          rw [ha] at z
          clear ha
          go_wp2
          go_ret
          exact ⟨by rw [HR.out, HF.out, HE.out, lastB, if_pos HA.out]; rfl, HB.out⟩
        | false =>
          have HA := Lib.hid ha
          rw [ha] at z
          clear ha
          go_wp2
          go_roundw
          case rel => exact ⟨(q : Int) - 1, by go_num, by omega, by omega, by rw [HF.out, HE.out, lastB, if_neg (by rw [HA.out]; simp)]; congr 1; omega, trivial⟩
          case measure => simp [intOf]; omega
      · have HE : Hid ((x + 1).toNat = 0) := Lib.hid (by omega)
        go_wp2
        go_ret
        exact ⟨by rw [HR.out, HF.out, HE.out]; rfl, HB.out⟩
end Go.Proofs.YtcklnjjbhngbcaaGreatDoor

namespace Go.Proofs.YtcklnjjbhngbcaaGreatDoor
open Go.RowKit Go.Proofs.Lens

/-- A task's cell. -/
theorem IsW.at {w : World} {g : Nat} {v1 v2 : Value} {s : PS} {cl : List PFr} {f : Nat → Value} (h : IsW w g v1 v2 s cl f) {i : Int} (h0 : 0 ≤ i) (h1 : i ≤ 100) :
    ∃ p, w.cell? ⟨g, 3 + i.toNat, none⟩ = some (.pointer p) ∧ FrL w p (s.stk i) := by
  obtain ⟨p, e, hl⟩ := h.stk i.toNat (by omega)
  rw [Int.toNat_of_nonneg h0] at hl
  exact ⟨p, (h.blk.cell (by omega)).trans (by rw [e]), hl⟩
theorem igood_cur {t : PTr} {k : Int} (h : goodP t k = true) : Inv (atP t k) (atN t k) := (sound_iff (goodP_true h).1).inv _ (atN_le t k)

/-- What seek asks of moment i. -/
def skQ (t : PTr) (k : Int) (Q : PMom → Int → Int → Bool) (i : Nat) : Bool :=
  decide ((elt t.moms i).kind ≠ 7) && decide ((elt t.moms i).task = (atP t k).cur) && Q (elt t.moms i) ((stN t.moms (i + 1)).stk (atP t k).cur).length ((atP t k).stk (atP t k).cur).length
def Wants (F : Nat) (Q : PMom → Int → Int → Bool) : Prop :=
  ∀ (m : PMom) (Av : Option Addr) (cv : Nat) (a b : Int) (w : World), Calls Tryz.prog F #[.agg #[.int .i64 m.kind, .int .i64 m.task, .int .i64 m.fn, .int .i64 m.line, .string m.text, .slice Av m.vars.length cv], .int .i64 a, .int .i64 b] w
    fun e w' => e = .returned (.bool (Q m a b)) ∧ Below w.heap.size w w'
set_option maxRecDepth 100000 in
set_option maxHeartbeats 2000000 in
theorem seek_calls (F : Nat) (Q : PMom → Int → Int → Bool) (hF : Wants F Q) (hFs : F = 79 ∨ F = 146 ∨ F = 147) (v1 v2 : Value) (t : PTr) (k : Int) (w : World) (h : RdTr w v1 v2 t) (hsm : smTr t) :
    Calls Tryz.prog 78 #[.agg #[v1, v2], .int .i64 k, .func (.func F) #[] #[]] w fun e w' => e = .returned (.int .i64 (seekP t k (skQ t k Q))) ∧ Below w.heap.size w w' := by
  have HT := Lib.hid h
  have HS := Lib.hid hsm
  have HF := Lib.hid hF
  have HFS := Lib.hid hFs
  clear hF hFs
  obtain ⟨⟨A1, c1, rfl, hn1, -⟩, ⟨vv, ⟨A2, c2, rfl, hn2, -⟩, -⟩⟩ := h
  obtain ⟨⟨hs1, -⟩, ⟨hs2, -⟩⟩ := hsm
  cases hg : goodP t k with
  | false =>
    have HR : Hid (seekP t k (skQ t k Q) = -2) := Lib.hid (by unfold seekP; rw [if_neg (by rw [hg]; simp)])
    have HG := Lib.hid hg
    clear hg
    go_enter Tryz.func78, Tryz.ntmps78
    go_wp2_with fail
    refine (at_bad _ _ t k _ (HT.out.later (by repeat (with_reducible first | exact Below.refl _ _ | exact HL.out | refine bl_drewN ?_ _ | refine bl_drew ?_ | refine bl_alloc ?_ _ | refine bl_set ?_ (by dsimp only; omega) _))) HS.out HG.out).mono ?_; rintro e w1 ⟨rfl, hb⟩
    have HB := Lib.hid (bl_then (bl_alloc (Below.refl _ w) _) hb)
    clear hb
    go_wp2
    go_ret
    exact ⟨ret_int HR.out.symm, HB.out⟩
  | true =>
    obtain ⟨-, -, k0, k1⟩ := goodP_true hg
    have HP : Hid (seekP t k (skQ t k Q) = (firstB (skQ t k Q) t.moms.length (t.moms.length - (k + 1).toNat) (k + 1).toNat : Nat)) := Lib.hid (by unfold seekP; rw [if_pos hg])
    have hi := igood_cur hg
    have i0 := hi.lo
    have i1 := hi.hi
    have SO := Lib.hid (sound_iff (goodP_true hg).1)
    have HG := Lib.hid hg
    clear hg hi
    go_enter Tryz.func78, Tryz.ntmps78
    go_wp2_with fail
    refine (at_good _ _ t k _ (HT.out.later (by repeat (with_reducible first | exact Below.refl _ _ | exact HL.out | refine bl_drewN ?_ _ | refine bl_drew ?_ | refine bl_alloc ?_ _ | refine bl_set ?_ (by dsimp only; omega) _))) HS.out HG.out).mono ?_; rintro e w1 ⟨g, cl, f, rfl, hW, hgs, hb⟩
    have HX := Lib.hid ((BoxAt.new w [.slice A1 t.fns.length c1, .slice A2 t.moms.length c2] 26).later hb)
    have HB := Lib.hid (bl_then (bl_alloc (Below.refl _ w) _) hb)
    have HGS : Hid (w.heap.size + 1 ≤ g) := Lib.hid (by simpa using hgs)
    have HW := Lib.hid hW
    have c2' : w1.cell? ⟨g, 2, none⟩ = some (.int .i64 (atP t k).cur) := (hW.blk.cell (by omega)).trans (by rw [hW.cur])
    obtain ⟨p, cp, hl⟩ := hW.at i0 i1
    have hcx : (atP t k).cur < 101 := by omega
    have HL := Lib.hid hl
    clear hb hgs hW hl
    obtain ⟨x0, x1⟩ := HX.out.open2
    obtain ⟨j, hj⟩ : ∃ j : Nat, k + 1 = (j : Int) := ⟨(k + 1).toNat, by omega⟩
    have HJ := Lib.hid hj
    clear hj
    go_wp2_with fail
    refine (count_calls p _ _ HL.out).mono ?_; rintro e w2 ⟨rfl, rfl⟩
    go_wp2_with fail
    clear x0 x1 cp c2' HL
    go_loopw [10] (fun i wr => ∃ (n : Nat) (cl : List PFr) (f : Nat → Value), j ≤ n ∧ i = .int .i64 n ∧ firstB (skQ t k Q) t.moms.length (t.moms.length - j) j = firstB (skQ t k Q) t.moms.length (t.moms.length - n) n ∧
      (n ≤ t.moms.length → IsW wr g (.slice A1 t.fns.length c1) (.slice A2 t.moms.length c2) (stN t.moms n) cl f) ∧ Below w.heap.size w wr ∧ BoxAt wr w.heap.size [.slice A1 t.fns.length c1, .slice A2 t.moms.length c2]) (fun i _ => t.moms.length - (intOf i).toNat)
    case atStart =>
      refine ⟨j, cl, f, Nat.le_refl _, by rw [← HJ.out], rfl, fun hj => ?_, HB.out, HX.out⟩
      have e : atP t k = stN t.moms j := by
        have := HJ.out
        unfold atP atN; congr 1; omega
      rw [← e]; exact HW.out
    case round =>
      obtain ⟨n, cl, f, hn, rfl, hq, hW, hb, hx⟩ := hrel
      clear HW HB HX
      have HQ := Lib.hid hq
      have HB := Lib.hid hb
      have HX := Lib.hid hx
      obtain ⟨x0, x1⟩ := HX.out.open2
      by_cases h2 : n < t.moms.length
      · have HW := Lib.hid (hW (by omega))
        have HI := Lib.hid (SO.out.inv n (by omega))
        clear hq hW hb hx
        go_wp2_with fail
        refine (step_calls g _ _ _ _ _ t.moms n t.fns.length _ HW.out (HT.out.2.later HB.out) h2 HI.out (SO.out.moms n h2) (SO.out.moves n h2)).mono ?_
        rintro e w3 ⟨rfl, ⟨f', hW3⟩, hgb⟩
        replace HX := Lib.hid (BoxAt.gb HX.out hgb (by have := HGS.out; omega))
        replace HB := Lib.hid (bl_grown HB.out hgb (by have := HGS.out; omega))
        clear HW
        have HW := Lib.hid hW3
        clear hgb hW3 x0 x1
        obtain ⟨x0, x1⟩ := HX.out.open2
        obtain ⟨b, o, vk, hA, d0, d1, d2, d3, d4, d5, hvk⟩ := rd_moment (HT.out.2.later HB.out) h2
        obtain ⟨Av, cv, rfl, -⟩ := hvk
        have HA := Lib.hid hA
        subst hA
        go_upto_region 11 with fail
        generalize hW2 : World.alloc w3 _ = W2
        have hbl : Below w3.heap.size w3 W2 := by rw [← hW2]; exact bl_alloc (Below.refl _ _) _
        have y0 : W2.cell? ⟨w3.heap.size, 0, none⟩ = some (.int .i64 (elt t.moms n).kind) := by rw [← hW2]; clear hW2; go_simp
        have y1 : W2.cell? ⟨w3.heap.size, 1, none⟩ = some (.int .i64 (elt t.moms n).task) := by rw [← hW2]; clear hW2; go_simp
        have y2 : W2.cell? ⟨w3.heap.size, 2, none⟩ = some (.int .i64 (elt t.moms n).fn) := by rw [← hW2]; clear hW2; go_simp
        have y3 : W2.cell? ⟨w3.heap.size, 3, none⟩ = some (.int .i64 (elt t.moms n).line) := by rw [← hW2]; clear hW2; go_simp
        have y4 : W2.cell? ⟨w3.heap.size, 4, none⟩ = some (.string (elt t.moms n).text) := by rw [← hW2]; clear hW2; go_simp
        have y5 : W2.cell? ⟨w3.heap.size, 5, none⟩ = some (.slice Av (elt t.moms n).vars.length cv) := by rw [← hW2]; clear hW2; go_simp
        clear hW2
        replace HW := Lib.hid (HW.out.later hbl); replace HB := Lib.hid (bl_then HB.out hbl); replace HX := Lib.hid (HX.out.later hbl); clear hbl
        clear x0 x1 d0 d1 d2 d3 d4 d5
        obtain ⟨p, cp, hl⟩ := HW.out.at i0 i1
        replace hl : FrL W2 p ((stN t.moms (n + 1)).stk (atP t k).cur) := hl
        have HL := Lib.hid hl
        clear hl
        have HI : Hid (skQ t k Q n = (((elt t.moms n).kind != 7) && ((elt t.moms n).task == (atP t k).cur) && Q (elt t.moms n) ((stN t.moms (n + 1)).stk (atP t k).cur).length ((atP t k).stk (atP t k).cur).length)) := Lib.hid (by unfold skQ; rw [bne, Bool.beq_eq_decide_eq, Bool.beq_eq_decide_eq]; simp)
        generalize hk1 : ((elt t.moms n).kind != 7) = q1 at HI
        generalize hk2 : ((elt t.moms n).task == (atP t k).cur) = q2 at HI
        cases q1
        · go_quiet (fail)
          go_wp2
          go_roundw
          case rel => exact ⟨n + 1, _, f', by omega, by go_num, HQ.out.trans (firstB_skip h2 HI.out), fun _ => HW.out.drewN _, bl_drewN HB.out _, HX.out.later (bl_drewN (Below.refl _ _) _)⟩
          case measure => simp [intOf]; omega
        · cases q2
          · go_quiet (fail)
            go_wp2
            go_roundw
            case rel => exact ⟨n + 1, _, f', by omega, by go_num, HQ.out.trans (firstB_skip h2 HI.out), fun _ => HW.out.drewN _, bl_drewN HB.out _, HX.out.later (bl_drewN (Below.refl _ _) _)⟩
            case measure => simp [intOf]; omega
          · go_still_tail 20, (by kernel_rfl)
            still_call ((count_calls p _ _ (HL.out.later (bl_drew (Below.refl _ _)))).mono (by rintro e w1 ⟨rfl, rfl⟩; exact ⟨rfl, rfl⟩))
            repeat still_step
            refine wpStill_nil ?_
            have hFS := HFS.out
            rcases hFS with rfl | rfl | rfl
            all_goals
              go_wp2_with fail
              refine (HF.out (elt t.moms n) Av cv _ _ _).mono ?_
              rintro e w4 ⟨rfl, hb⟩
              replace hb := bl_then (bl_drew (Below.refl _ W2)) hb
              replace HW := Lib.hid (HW.out.later hb); replace HB := Lib.hid (bl_then HB.out hb); replace HX := Lib.hid (HX.out.later hb); clear hb
              clear y0 y1 y2 y3 y4 y5 cp HL
              generalize hk3 : Q (elt t.moms n) ((stN t.moms (n + 1)).stk (atP t k).cur).length ((atP t k).stk (atP t k).cur).length = q3 at HI ⊢
              cases q3
              · go_wp2
                go_roundw
                case rel => exact ⟨n + 1, _, f', by omega, by go_num, HQ.out.trans (firstB_skip h2 HI.out), fun _ => HW.out, HB.out, HX.out⟩
                case measure => simp [intOf]; omega
              · go_wp2
                go_ret
                refine ⟨ret_int ?_, HB.out⟩
                rw [HP.out, HJ.out, Int.toNat_natCast, HQ.out, firstB_hit h2 HI.out]
      · clear hq hW hb hx
        go_wp2
        go_ret
        refine ⟨ret_int ?_, HB.out⟩
        rw [HP.out, HJ.out, Int.toNat_natCast, HQ.out, firstB_end (by omega)]


def intoW (m : PMom) (_ _ : Int) : Bool := m.kind == 1
set_option maxRecDepth 100000 in
set_option maxHeartbeats 400000 in
theorem into_wants : Wants 79 intoW := by
  intro m Av cv a b w
  unfold intoW
  go_enter Tryz.func79, Tryz.ntmps79
  go_wp2
  all_goals
    go_ret
    exact ⟨ret_bool (by simp [*]), bl_alloc (Below.refl _ _) _⟩
theorem into_sk (t : PTr) (k : Int) (i : Nat) : skQ t k intoW i = intoQ t k i := by
  unfold skQ intoW intoQ
  grind
set_option maxRecDepth 100000 in
set_option maxHeartbeats 400000 in
theorem impl_Into_calls (v1 v2 : Value) (t : PTr) (k : Int) (w : World) (h : RdTr w v1 v2 t) (hsm : smTr t) :
    Calls Tryz.prog 31 #[.agg #[v1, v2], .int .i64 k] w fun e w' => e = .returned (.int .i64 (intoP t k)) ∧ Below w.heap.size w w' := by
  have HT := Lib.hid h
  have HS := Lib.hid hsm
  obtain ⟨⟨A1, c1, rfl, hn1, -⟩, ⟨vv, ⟨A2, c2, rfl, hn2, -⟩, -⟩⟩ := h
  clear hsm
  go_enter Tryz.func31, Tryz.ntmps31
  go_wp2_with fail
  refine (seek_calls _ _ into_wants (by simp) _ _ t k _ (HT.out.later (by repeat (with_reducible first | exact Below.refl _ _ | exact HL.out | refine bl_drewN ?_ _ | refine bl_drew ?_ | refine bl_alloc ?_ _ | refine bl_set ?_ (by dsimp only; omega) _))) HS.out).mono ?_; rintro e w1 ⟨rfl, hb⟩
  have HB := Lib.hid (bl_then (bl_alloc (Below.refl _ w) _) hb)
  clear hb
  go_wp2
  go_ret
  exact ⟨ret_int (by unfold intoP seekP; rw [firstB_congr (into_sk t k)]), HB.out⟩

def overW (m : PMom) (a b : Int) : Bool := m.kind == 1 && decide (a ≤ b)
set_option maxRecDepth 100000 in
set_option maxHeartbeats 400000 in
theorem over_wants : Wants 146 overW := by
  intro m Av cv a b w
  unfold overW
  go_enter Tryz.func146, Tryz.ntmps146
  go_wp2
  all_goals
    go_ret
    exact ⟨ret_bool (by simp [*]), bl_alloc (Below.refl _ _) _⟩
theorem over_sk (t : PTr) (k : Int) (i : Nat) : skQ t k overW i = overQ t k i := by
  unfold skQ overW overQ
  grind
set_option maxRecDepth 100000 in
set_option maxHeartbeats 400000 in
theorem impl_Over_calls (v1 v2 : Value) (t : PTr) (k : Int) (w : World) (h : RdTr w v1 v2 t) (hsm : smTr t) :
    Calls Tryz.prog 109 #[.agg #[v1, v2], .int .i64 k] w fun e w' => e = .returned (.int .i64 (overP t k)) ∧ Below w.heap.size w w' := by
  have HT := Lib.hid h
  have HS := Lib.hid hsm
  obtain ⟨⟨A1, c1, rfl, hn1, -⟩, ⟨vv, ⟨A2, c2, rfl, hn2, -⟩, -⟩⟩ := h
  clear hsm
  go_enter Tryz.func109, Tryz.ntmps109
  go_wp2_with fail
  refine (seek_calls _ _ over_wants (by simp) _ _ t k _ (HT.out.later (by repeat (with_reducible first | exact Below.refl _ _ | exact HL.out | refine bl_drewN ?_ _ | refine bl_drew ?_ | refine bl_alloc ?_ _ | refine bl_set ?_ (by dsimp only; omega) _))) HS.out).mono ?_; rintro e w1 ⟨rfl, hb⟩
  have HB := Lib.hid (bl_then (bl_alloc (Below.refl _ w) _) hb)
  clear hb
  go_wp2
  go_ret
  exact ⟨ret_int (by unfold overP seekP; rw [firstB_congr (over_sk t k)]), HB.out⟩

def outW (m : PMom) (a b : Int) : Bool := m.kind == 3 && decide (a < b)
set_option maxRecDepth 100000 in
set_option maxHeartbeats 400000 in
theorem out_wants : Wants 147 outW := by
  intro m Av cv a b w
  unfold outW
  go_enter Tryz.func147, Tryz.ntmps147
  go_wp2
  all_goals
    go_ret
    exact ⟨ret_bool (by simp [*]), bl_alloc (Below.refl _ _) _⟩
theorem out_sk (t : PTr) (k : Int) (i : Nat) : skQ t k outW i = outQ t k i := by
  unfold skQ outW outQ
  grind
set_option maxRecDepth 100000 in
set_option maxHeartbeats 400000 in
theorem impl_Out_calls (v1 v2 : Value) (t : PTr) (k : Int) (w : World) (h : RdTr w v1 v2 t) (hsm : smTr t) :
    Calls Tryz.prog 111 #[.agg #[v1, v2], .int .i64 k] w fun e w' => e = .returned (.int .i64 (outP t k)) ∧ Below w.heap.size w w' := by
  have HT := Lib.hid h
  have HS := Lib.hid hsm
  obtain ⟨⟨A1, c1, rfl, hn1, -⟩, ⟨vv, ⟨A2, c2, rfl, hn2, -⟩, -⟩⟩ := h
  clear hsm
  go_enter Tryz.func111, Tryz.ntmps111
  go_wp2_with fail
  refine (seek_calls _ _ out_wants (by simp) _ _ t k _ (HT.out.later (by repeat (with_reducible first | exact Below.refl _ _ | exact HL.out | refine bl_drewN ?_ _ | refine bl_drew ?_ | refine bl_alloc ?_ _ | refine bl_set ?_ (by dsimp only; omega) _))) HS.out).mono ?_; rintro e w1 ⟨rfl, hb⟩
  have HB := Lib.hid (bl_then (bl_alloc (Below.refl _ w) _) hb)
  clear hb
  go_wp2
  go_ret
  exact ⟨ret_int (by unfold outP seekP; rw [firstB_congr (out_sk t k)]), HB.out⟩

end Go.Proofs.YtcklnjjbhngbcaaGreatDoor

namespace Go.Proofs.YtcklnjjbhngbcaaGreatDoor
open Go.RowKit Go.Proofs.Lens

theorem i_frame' : (Tryz.prog.info? 42).map (fun i => (i.zero, i.size, i.bytes)) = some (some (.agg #[.int .i64 0, .int .i64 0, .int .i64 0]), 3, 24) := by kernel_rfl
theorem FrL.own {w w' : World} {fs : List PFr} {p : Option Addr} (h : FrL w p fs) {lo n sz : Nat} {e : TypeId} {C : Nat → Nat → Value} {v : Value} (hO : OwR w lo e sz n C v) (he : e ≠ 148) (hg : w.grownBy w' v.ownBlock) : FrL w' p fs :=
  h.keep fun b N f hB => hg.block b hB.lt (fun hh => by
    obtain ⟨N', f', hB'⟩ := hO.block hh.symm
    exact hB'.ne hB he rfl)

set_option maxRecDepth 100000 in
set_option maxHeartbeats 2000000 in
theorem impl_StackAt_calls (v1 v2 : Value) (t : PTr) (k task : Int) (w : World) (h : RdTr w v1 v2 t) (hsm : smTr t) :
    Calls Tryz.prog 149 #[.agg #[v1, v2], .int .i64 k, .int .i64 task] w (OwRet w 42 3 (stackP t k task).length (frC (stackP t k task))) := by
  have HT := Lib.hid h
  have HS := Lib.hid hsm
  obtain ⟨⟨A1, c1, rfl, hn1, -⟩, ⟨vv, ⟨A2, c2, rfl, hn2, -⟩, -⟩⟩ := h
  clear hsm
  cases hg : goodP t k with
  | false =>
    have HR : Hid (stackP t k task = []) := Lib.hid (by unfold stackP; rw [hg]; rfl)
    have HG := Lib.hid hg
    clear hg
    go_enter Tryz.func149, Tryz.ntmps149
    go_wp2_with fail
    refine (at_bad _ _ t k _ (HT.out.later (by repeat (with_reducible first | exact Below.refl _ _ | exact HL.out | refine bl_drewN ?_ _ | refine bl_drew ?_ | refine bl_alloc ?_ _ | refine bl_set ?_ (by dsimp only; omega) _))) HS.out HG.out).mono ?_; rintro e w1 ⟨rfl, hb⟩
    have HB := Lib.hid (bl_then (bl_alloc (Below.refl _ w) _) hb)
    clear hb
    go_wp2
    go_ret
    rw [HR.out]
    exact ⟨_, rfl, OwR.nil, HB.out⟩
  | true =>
    cases ht : inB task 0 100 with
    | false =>
      have HR : Hid (stackP t k task = []) := Lib.hid (by unfold stackP; rw [hg, ht]; rfl)
      have HG := Lib.hid hg
      have HI := Lib.hid ht
      clear hg ht
      go_enter Tryz.func149, Tryz.ntmps149
      go_wp2_with fail
      refine (at_good _ _ t k _ (HT.out.later (by repeat (with_reducible first | exact Below.refl _ _ | exact HL.out | refine bl_drewN ?_ _ | refine bl_drew ?_ | refine bl_alloc ?_ _ | refine bl_set ?_ (by dsimp only; omega) _))) HS.out HG.out).mono ?_; rintro e w1 ⟨g, cl, f, rfl, hW, hgs, hb⟩
      have HB := Lib.hid (bl_then (bl_alloc (Below.refl _ w) _) hb)
      clear hb hW hgs
      go_wp2_with fail
      refine (inside_is _ _ _ _ HI.out).mono ?_; rintro e w2 ⟨rfl, rfl⟩
      go_wp2
      go_ret
      rw [HR.out]
      exact ⟨_, rfl, OwR.nil, HB.out⟩
    | true =>
      have hR : stackP t k task = (atP t k).stk task := by unfold stackP; rw [hg, ht]; rfl
      obtain ⟨t0, t1⟩ := inB_true.1 ht
      have hd := (igood_cur hg).deep task
      rw [← hR] at hd
      have HR := Lib.hid hR
      have HG := Lib.hid hg
      have HI := Lib.hid ht
      clear hg ht hR
      generalize stackP t k task = L at HR hd
      go_enter Tryz.func149, Tryz.ntmps149
      go_wp2_with fail
      refine (at_good _ _ t k _ (HT.out.later (by repeat (with_reducible first | exact Below.refl _ _ | exact HL.out | refine bl_drewN ?_ _ | refine bl_drew ?_ | refine bl_alloc ?_ _ | refine bl_set ?_ (by dsimp only; omega) _))) HS.out HG.out).mono ?_; rintro e w1 ⟨g, cl, f, rfl, hW, hgs, hb⟩
      have HB := Lib.hid (bl_then (bl_alloc (Below.refl _ w) _) hb)
      obtain ⟨p, cp, hl⟩ := hW.at t0 t1
      have hxt : task < 101 := by omega
      have HL : Hid (FrL w1 p L) := Lib.hid (by rw [HR.out]; exact hl)
      clear hb hW hgs hl
      go_wp2_with fail
      refine (inside_is _ _ _ _ HI.out).mono ?_; rintro e w2 ⟨rfl, rfl⟩
      go_wp2_with fail
      go_loopg [8, 9] L.length (fun gk o a wr => ∃ (q : Nat) (p : Option Addr), q + gk = L.length ∧ a = .pointer p ∧ FrL wr p (L.drop q) ∧ OwR wr w.heap.size 42 3 q (frC L) o ∧ Below w.heap.size w wr)
      case atStart => exact ⟨0, p, by omega, rfl, by simpa using HL.out, OwR.nil, HB.out⟩
      case round =>
        obtain ⟨q, p, hq, rfl, hl, hO, hb⟩ := hrel
        clear HL HB
        have HO := Lib.hid hO
        have HB := Lib.hid hb
        have hsz := hb.size
        obtain ⟨A3, c3, rfl, -⟩ := hO.cap
        clear hO hb
        by_cases hlt : q < L.length
        · rw [drop_cons hlt] at hl
          obtain ⟨b, nx, rfl, hB, hl2⟩ := hl
          have HL := Lib.hid hl2
          have x0 : wr.cell? ⟨b, 0, none⟩ = some (.int .i64 (elt L q).fn) := hB.cell (j := 0) (by omega)
          have x1 : wr.cell? ⟨b, 1, none⟩ = some (.int .i64 (elt L q).line) := hB.cell (j := 1) (by omega)
          have x2 : wr.cell? ⟨b, 2, none⟩ = some (.int .i64 (elt L q).frm) := hB.cell (j := 2) (by omega)
          have HK := Lib.hid hB
          clear hB hl2
          go_wp2_with (at_builtin; refine stopped ?_)
          unfold Stopped
          refine wpList_append1 _ (by rfl) _ _ 35 (by rfl) w.heap.size 42 _ 3 24 Tryz.underlying35 i_frame' rfl (by omega) _ q _ (frC L) (by rfl) HO.out [.int .i64 (elt L q).fn, .int .i64 (elt L q).line, .int .i64 (elt L q).frm] rfl (by simp [Value.oneCell']) (by rfl) (fun _ _ _ _ => rfl) ?hN hsz (by omega) (by omega) ?_
          case hN =>
            intro j hj
            match j, hj with
            | 0, _ => rfl
            | 1, _ => rfl
            | 2, _ => rfl
          intro ga cap w1 hO1 hG1 _ _
          have x3 : w1.cell? ⟨b, 3, none⟩ = some (.pointer nx) := by
            have h1 : Blk w1 b 148 5 _ := HK.out.keep (hG1.block b HK.out.lt (fun hh => by
              obtain ⟨N', f', hB'⟩ := HO.out.block hh.symm
              exact hB'.ne HK.out (by decide) rfl))
            exact h1.cell (j := 3) (by omega)
          have HL1 := Lib.hid (HL.out.own HO.out (by decide) hG1)
          have HB1 := Lib.hid (bl_own HB.out hsz HO.out hG1)
          have HO1 := Lib.hid hO1
          clear hO1 hG1 x0 x1 x2 HK
          go_wp2
          go_roundg (gk - 1)
          case measure => omega
          case rel => exact ⟨q + 1, nx, by omega, rfl, HL1.out, HO1.out, HB1.out⟩
        · obtain rfl : q = L.length := by omega
          rw [List.drop_length] at hl
          obtain rfl : p = none := hl
          go_wp2
          go_ret
          exact ⟨_, rfl, HO.out, HB.out⟩
end Go.Proofs.YtcklnjjbhngbcaaGreatDoor

namespace Go.Proofs.YtcklnjjbhngbcaaGreatDoor
end Go.Proofs.YtcklnjjbhngbcaaGreatDoor
