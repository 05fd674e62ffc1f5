/- Lemmas and contracts of functions that the theorem of this claim leans on (texts L9, T16, T17, T18). -/
import Derived.Test.YtcklnjjbhngbcaaGreatDoorRowUnz10
import Derived.Deep.RegionHeld3
import Derived.Test.YtcklnjjbhngbcaaGreatDoorRowUnz38
import Derived.Test.YtcklnjjbhngbcaaGreatDoorRowUnz14
namespace Go.Proofs.YtcklnjjbhngbcaaGreatDoor
open Go.RowKit Go.Proofs.Lens

theorem held4 {w W W' : World} {a1 a2 a3 a4 : Addr} {v1 v2 v3 v4 : Value} (h : Below w.heap.size w W ∧ W.cell? a1 = some v1 ∧ W.cell? a2 = some v2 ∧ W.cell? a3 = some v3 ∧ W.cell? a4 = some v4) (hb : Below W.heap.size W W') :
    Below w.heap.size w W' ∧ W'.cell? a1 = some v1 ∧ W'.cell? a2 = some v2 ∧ W'.cell? a3 = some v3 ∧ W'.cell? a4 = some v4 :=
  ⟨bl_then h.1 hb, cell_later hb h.2.1, cell_later hb h.2.2.1, cell_later hb h.2.2.2.1, cell_later hb h.2.2.2.2⟩
theorem held4_bl {w W : World} {a1 a2 a3 a4 : Addr} {v1 v2 v3 v4 : Value} (h : Below w.heap.size w W ∧ W.cell? a1 = some v1 ∧ W.cell? a2 = some v2 ∧ W.cell? a3 = some v3 ∧ W.cell? a4 = some v4) : Below w.heap.size w W := h.1
end Go.Proofs.YtcklnjjbhngbcaaGreatDoor

namespace Go.Proofs.YtcklnjjbhngbcaaGreatDoor
open Go.RowKit Go.Proofs.Lens

/-- One owner, read. -/
theorem own_cells {w : World} {A : Option Addr} {n c : Nat} {ms : List PMom} (h : RdSl w 5 n (ownC ms) (.slice A n c)) {i : Nat} (hi : i < n) :
    ∃ b o, A = some ⟨b, o, none⟩ ∧ w.cell? ⟨b, o + i * 5, none⟩ = some (.bool (!(shownS ms i).top.isEmpty)) ∧ w.cell? ⟨b, o + i * 5 + 1, none⟩ = some (.int .i64 (shownS ms i).cur) ∧
      w.cell? ⟨b, o + i * 5 + 2, none⟩ = some (.int .i64 (ownF ms i).fn) ∧ w.cell? ⟨b, o + i * 5 + 3, none⟩ = some (.int .i64 (ownF ms i).line) ∧ w.cell? ⟨b, o + i * 5 + 4, none⟩ = some (.int .i64 (ownF ms i).frm) := by
  obtain ⟨A', c', he, hn, hrow⟩ := h
  obtain ⟨rfl, -, rfl⟩ : A = A' ∧ n = n ∧ c = c' := by simpa using he
  obtain ⟨b, o, rfl, hc⟩ := hrow (by omega)
  exact ⟨b, o, rfl, hc i hi 0 (by omega), hc i hi 1 (by omega), hc i hi 2 (by omega), hc i hi 3 (by omega), hc i hi 4 (by omega)⟩
theorem shownP_own {ms : List PMom} {i : Nat} (h : (shownS ms i).top.isEmpty = false) : shownP ms i = some ((shownS ms i).cur, ownF ms i) := by
  unfold shownP ownF
  cases hs : (shownS ms i).top with
  | nil => rw [hs] at h; cases h
  | cons f r => rfl
theorem shownP_own0 {ms : List PMom} {i : Nat} (h : (shownS ms i).top.isEmpty = true) : shownP ms i = none := by
  unfold shownP
  cases hs : (shownS ms i).top with
  | nil => rfl
  | cons f r => rw [hs] at h; cases h
section
variable {ms : List PMom} {nm : ByteArray} {tk frm : Int} {now : ByteArray} {i : Nat}
theorem chg_stop (h : (i : Int) < frm) : chgP ms nm tk frm now (i + 1) = true := by unfold chgP; rw [if_pos h]
theorem chg_skip0 (h : ¬ (i : Int) < frm) (hs : shownP ms i = none) : chgP ms nm tk frm now (i + 1) = chgP ms nm tk frm now i := by
  rw [chgP, if_neg h, hs]
theorem chg_skip1 (h : ¬ (i : Int) < frm) {tk' : Int} {g : PFr} (hs : shownP ms i = some (tk', g)) (hn : ¬ (tk' = tk ∧ g.frm = frm)) : chgP ms nm tk frm now (i + 1) = chgP ms nm tk frm now i := by
  rw [chgP, if_neg h, hs]; dsimp only; rw [if_neg hn]
theorem chg_none (h : ¬ (i : Int) < frm) (hv : valP (elt ms i).vars nm = none) : chgP ms nm tk frm now (i + 1) = chgP ms nm tk frm now i := by
  rw [chgP, if_neg h]
  cases shownP ms i with
  | none => rfl
  | some p => dsimp only; rw [hv]; split <;> rfl
theorem chg_hit (h : ¬ (i : Int) < frm) {tk' : Int} {g : PFr} (hs : shownP ms i = some (tk', g)) (hn : tk' = tk ∧ g.frm = frm) {u : ByteArray} (hv : valP (elt ms i).vars nm = some u) : chgP ms nm tk frm now (i + 1) = !(u.toList == now.toList) := by
  rw [chgP, if_neg h, hs]; dsimp only; rw [if_pos hn, hv, ba_beq]; simp
end
set_option maxRecDepth 100000 in
set_option maxHeartbeats 8000000 in
theorem l3changes_calls (v1 v2 v3 : Value) (t : PTr) (s : PStop) (k : Nat) (w : World) (h : RdTr w v1 v2 t) (hsm : smTr t) (hk : k < t.moms.length) (ho : RdSl w 5 t.moms.length (ownC t.moms) v3) :
    Calls Tryz.prog 141 #[.agg #[v1, v2], v3, stopV s, .int .i64 k] w fun e w' => e = .returned (.bool (chgAt t.moms s k)) ∧ Below w.heap.size w w' := by
  have HT := Lib.hid h
  obtain ⟨⟨A1, c1, rfl, hn1, -⟩, ⟨vv, ⟨A2, c2, rfl, hn2, -⟩, -⟩⟩ := h
  obtain ⟨A3, c3, rfl, hn3, -⟩ := id ho
  have HOW := Lib.hid ho
  have hsz := hsm.2.1
  obtain ⟨bo, oo, rfl, p0, p1, p2, p3, p4⟩ := own_cells ho hk
  obtain ⟨b, o, vk, rfl, d0, d1, d2, d3, d4, d5, hvk⟩ := rd_moment HT.out.2 hk
  obtain ⟨Av, cv, rfl, hvl, -⟩ := id hvk
  have HVK := Lib.hid hvk
  have hk2 : (k : Int) < (t.moms.length : Int) := by omega
  have hbo := World.block_lt_of_cell? _ _ p0
  dsimp only at hbo
  unfold stopV
  clear hsm ho d0 d1 d2 d3 d4 hvk
  go_enter Tryz.func141, Tryz.ntmps141
  go_upto_region 2 with fail
  generalize hW : World.alloc (World.alloc (World.alloc w _) _) _ = W
  have hB : Below w.heap.size w W := by rw [← hW]; exact (by repeat (with_reducible first | exact Below.refl _ _ | exact HL.out | refine bl_drewN ?_ _ | refine bl_drew ?_ | refine bl_alloc ?_ _ | refine bl_set ?_ (by dsimp only; omega) _))
  have x1 : W.cell? ⟨w.heap.size, 1, none⟩ = some (.slice (some ⟨b, o, none⟩) t.moms.length c2) := by rw [← hW]; clear hW; go_simp
  have s1 : W.cell? ⟨w.heap.size + 1, 1, none⟩ = some (.int .i64 s.fn) := by rw [← hW]; clear hW; go_simp
  have s3 : W.cell? ⟨w.heap.size + 1, 3, none⟩ = some (.string s.nm) := by rw [← hW]; clear hW; go_simp
  have o0 : W.cell? ⟨w.heap.size + 1 + 1, 0, none⟩ = some (.bool (!(shownS t.moms k).top.isEmpty)) := by rw [← hW]; clear hW; go_simp
  have o1 : W.cell? ⟨w.heap.size + 1 + 1, 1, none⟩ = some (.int .i64 (shownS t.moms k).cur) := by rw [← hW]; clear hW; go_simp
  have o2 : W.cell? ⟨w.heap.size + 1 + 1, 2, none⟩ = some (.int .i64 (ownF t.moms k).fn) := by rw [← hW]; clear hW; go_simp
  have o4 : W.cell? ⟨w.heap.size + 1 + 1, 4, none⟩ = some (.int .i64 (ownF t.moms k).frm) := by rw [← hW]; clear hW; go_simp
  have e5 := cell_later hB d5
  have HB := Lib.hid hB
  have HX := Lib.hid (And.intro x1 (And.intro s1 (And.intro s3 (And.intro o0 (And.intro o1 (And.intro o2 o4))))))
  clear hW hB d5 p0 p1 p2 p3 p4 s1 o0 o1 o2 o4
  go_region_held3 (fun w' : World => Below W.heap.size W w' ∧ w'.cell? ⟨w.heap.size, 1, none⟩ = some (.slice (some ⟨b, o, none⟩) t.moms.length c2) ∧ w'.cell? ⟨b, o + k * 6 + 5, none⟩ = some (.slice Av (elt t.moms k).vars.length cv) ∧
      w'.cell? ⟨w.heap.size + 1, 3, none⟩ = some (.string s.nm) ∧ w'.cell? ⟨w.heap.size + 1, 3, none⟩ = some (.string s.nm))
    (first | exact ⟨bl_drew (Below.refl _ _), x1, e5, s3, s3⟩ | exact held4 ‹_› hb7)
    (first | (go_at_call 98; refine (l3value_calls _ (elt t.moms k).vars s.nm _ (HVK.out.later (bl_then HB.out (held4_bl ‹_›)))).mono ?_; rintro e w8 ⟨rfl, hb7⟩))
  have hb : Below W.heap.size W w8 := held4_bl ‹_›
  obtain ⟨x1', s1, s3', o0, o1, o2, o4⟩ := HX.out
  replace x1' := cell_later hb x1'
  replace s1 := cell_later hb s1
  replace s3' := cell_later hb s3'
  replace o0 := cell_later hb o0
  replace o1 := cell_later hb o1
  replace o2 := cell_later hb o2
  replace o4 := cell_later hb o4
  have HB8 := Lib.hid (bl_then HB.out hb)
  have HY := Lib.hid (And.intro x1' (And.intro s3' (And.intro o1 o4)))
  clear HB HX hb hb7 x1 s3 e5 x1' s3' o1 o4
  obtain ⟨vo, hvo⟩ : ∃ vo, valP (elt t.moms k).vars s.nm = vo := ⟨_, rfl⟩
  have HVO := Lib.hid hvo
  rw [hvo]
  clear hvo
  obtain ⟨em, hem⟩ : ∃ em, (shownS t.moms k).top.isEmpty = em := ⟨_, rfl⟩
  have HEM := Lib.hid hem
  rw [hem] at o0 ⊢
  clear hem
  go_upto_region 3 with fail
  cases em with
  | true =>
    have HR : Hid (chgAt t.moms s k = false) := Lib.hid (by unfold chgAt; rw [shownP_own0 HEM.out])
    clear s1 o2
    go_wp2
    go_ret
    exact ⟨by rw [HR.out]; rfl, HB8.out⟩
  | false =>
    have HSH := Lib.hid (shownP_own HEM.out)
    obtain ⟨q1, hq1⟩ : ∃ q1, ((ownF t.moms k).fn == s.fn) = q1 := ⟨_, rfl⟩
    have HQ := Lib.hid hq1
    have hq1n : ((ownF t.moms k).fn != s.fn) = !q1 := by rw [bne, hq1]
    cases q1 with
    | false =>
      have HR : Hid (chgAt t.moms s k = false) := Lib.hid (by
        have hne : ¬ (ownF t.moms k).fn = s.fn := by have := HQ.out; simpa using this
        unfold chgAt
        rw [HSH.out, HVO.out]
        cases vo with
        | none => rfl
        | some x => dsimp only; rw [if_neg hne])
      simp only [Bool.not_false] at hq1n
      go_wp2
      go_ret
      exact ⟨by rw [HR.out]; rfl, HB8.out⟩
    | true =>
      simp only [Bool.not_true] at hq1n
      cases vo with
      | none =>
        have HR : Hid (chgAt t.moms s k = false) := Lib.hid (by unfold chgAt; rw [HSH.out, HVO.out])
        dsimp only [Option.getD_none, Option.isSome_none]
        go_wp2
        go_ret
        exact ⟨by rw [HR.out]; rfl, HB8.out⟩
      | some now =>
        have HR : Hid (chgAt t.moms s k = chgP t.moms s.nm (shownS t.moms k).cur (ownF t.moms k).frm now k) := Lib.hid (by
          have he : (ownF t.moms k).fn = s.fn := by have := HQ.out; simpa using this
          unfold chgAt
          rw [HSH.out, HVO.out]
          dsimp only
          rw [if_pos he])
        simp only [Option.getD_some, Option.isSome_some, Bool.not_false]
        go_upto_region 5 with fail
        go_upto_region 6 with fail
        clear o0 o2 s1 hq1 hq1n
        go_loopw [12] (fun i wr => ∃ x : Int, i = .int .i64 x ∧ -1 ≤ x ∧ x < k ∧ chgP t.moms s.nm (shownS t.moms k).cur (ownF t.moms k).frm now k = chgP t.moms s.nm (shownS t.moms k).cur (ownF t.moms k).frm now (x + 1).toNat ∧ Below w8.heap.size w8 wr) (fun i _ => (intOf i + 1).toNat)
        case atStart => exact ⟨(k : Int) - 1, rfl, by omega, by omega, by congr 1; omega, Below.refl _ _⟩
        case round =>
          obtain ⟨x, rfl, hx0, hx1, hf, hb⟩ := hrel
          have HF := Lib.hid hf
          have HBR := Lib.hid hb
          obtain ⟨x1, s3, o1, o4⟩ := HY.out
          replace x1 := cell_later hb x1
          replace s3 := cell_later hb s3
          replace o1 := cell_later hb o1
          replace o4 := cell_later hb o4
          clear hf hb
          by_cases hx : 0 ≤ x
          · obtain ⟨i, rfl⟩ : ∃ i : Nat, x = (i : Int) := ⟨x.toNat, by omega⟩
            have HE : Hid (((i : Int) + 1).toNat = i + 1) := Lib.hid (by omega)
            by_cases hfr : (i : Int) < (ownF t.moms k).frm
            · have HC : Hid (chgAt t.moms s k = true) := Lib.hid (by rw [HR.out, HF.out, HE.out, chg_stop hfr])
              have hfr2 : ¬ (ownF t.moms k).frm ≤ (i : Int) := by omega
              go_wp2
              go_ret
              exact ⟨by rw [HC.out]; rfl, bl_then HB8.out HBR.out⟩
            · have hfr2 : (ownF t.moms k).frm ≤ (i : Int) := by omega
              have HFR := Lib.hid hfr
              have hil : i < t.moms.length := by omega
              have hil2 : (i : Int) < (t.moms.length : Int) := by omega
              obtain ⟨bo', oo', he, g0, g1, g2, g3, g4⟩ := own_cells (HOW.out.later (bl_then HB8.out HBR.out)) hil
              obtain ⟨rfl, rfl⟩ : bo = bo' ∧ oo = oo' := by simpa using he
              obtain ⟨em, hem⟩ : ∃ em, (shownS t.moms i).top.isEmpty = em := ⟨_, rfl⟩
              have HEI := Lib.hid hem
              rw [hem] at g0
              obtain ⟨q1, hq1⟩ : ∃ q1, ((shownS t.moms i).cur != (shownS t.moms k).cur) = q1 := ⟨_, rfl⟩
              obtain ⟨q2, hq2⟩ : ∃ q2, ((ownF t.moms i).frm != (ownF t.moms k).frm) = q2 := ⟨_, rfl⟩
              have HQ1 := Lib.hid hq1
              have HQ2 := Lib.hid hq2
              clear hfr hem g2 g3
              go_upto_region 8 with fail
              cases em with
              | true =>
                go_quiet (fail)
                generalize hW9 : World.drewN wr _ = w9
                have hbl : Below wr.heap.size wr w9 := by rw [← hW9]; exact bl_drewN (Below.refl _ _) _
                clear hW9
                replace HBR := Lib.hid (bl_then HBR.out hbl)
                replace x1 := cell_later hbl x1
                replace s3 := cell_later hbl s3
                clear hbl
                have HSK : Hid (chgP t.moms s.nm (shownS t.moms k).cur (ownF t.moms k).frm now (i + 1) = chgP t.moms s.nm (shownS t.moms k).cur (ownF t.moms k).frm now i) := Lib.hid (chg_skip0 HFR.out (shownP_own0 HEI.out))
                go_wp2
                go_roundw
                case rel => exact ⟨(i : Int) - 1, by go_num, by omega, by omega, by rw [HF.out, HE.out, HSK.out]; congr 1; omega, HBR.out⟩
                case measure => simp [intOf]
              | false =>
                cases q1 with
                | true =>
                  go_quiet (fail)
                  generalize hW9 : World.drewN wr _ = w9
                  have hbl : Below wr.heap.size wr w9 := by rw [← hW9]; exact bl_drewN (Below.refl _ _) _
                  clear hW9
                  replace HBR := Lib.hid (bl_then HBR.out hbl)
                  replace x1 := cell_later hbl x1
                  replace s3 := cell_later hbl s3
                  clear hbl
                  have HSK : Hid (chgP t.moms s.nm (shownS t.moms k).cur (ownF t.moms k).frm now (i + 1) = chgP t.moms s.nm (shownS t.moms k).cur (ownF t.moms k).frm now i) := Lib.hid (chg_skip1 HFR.out (shownP_own HEI.out) (fun hh => by have := HQ1.out; rw [hh.1] at this; simp at this))
                  go_wp2
                  go_roundw
                  case rel => exact ⟨(i : Int) - 1, by go_num, by omega, by omega, by rw [HF.out, HE.out, HSK.out]; congr 1; omega, HBR.out⟩
                  case measure => simp [intOf]
                | false =>
                  cases q2 with
                  | true =>
                    go_quiet (fail)
                    generalize hW9 : World.drewN wr _ = w9
                    have hbl : Below wr.heap.size wr w9 := by rw [← hW9]; exact bl_drewN (Below.refl _ _) _
                    clear hW9
                    replace HBR := Lib.hid (bl_then HBR.out hbl)
                    replace x1 := cell_later hbl x1
                    replace s3 := cell_later hbl s3
                    clear hbl
                    have HSK : Hid (chgP t.moms s.nm (shownS t.moms k).cur (ownF t.moms k).frm now (i + 1) = chgP t.moms s.nm (shownS t.moms k).cur (ownF t.moms k).frm now i) := Lib.hid (chg_skip1 HFR.out (shownP_own HEI.out) (fun hh => by have := HQ2.out; rw [hh.2] at this; simp at this))
                    go_wp2
                    go_roundw
                    case rel => exact ⟨(i : Int) - 1, by go_num, by omega, by omega, by rw [HF.out, HE.out, HSK.out]; congr 1; omega, HBR.out⟩
                    case measure => simp [intOf]
                  | false =>
                    go_quiet (fail)
                    generalize hW9 : World.drewN wr _ = w9
                    have hbl : Below wr.heap.size wr w9 := by rw [← hW9]; exact bl_drewN (Below.refl _ _) _
                    clear hW9
                    replace HBR := Lib.hid (bl_then HBR.out hbl)
                    replace x1 := cell_later hbl x1
                    replace s3 := cell_later hbl s3
                    clear hbl
                    have HSI := Lib.hid (shownP_own HEI.out)
                    have HEQ : Hid ((shownS t.moms i).cur = (shownS t.moms k).cur ∧ (ownF t.moms i).frm = (ownF t.moms k).frm) := Lib.hid ⟨by have := HQ1.out; simpa using this, by have := HQ2.out; simpa using this⟩
                    obtain ⟨b2, oo2, vi, he2, -, -, -, -, -, f5, hvi⟩ := rd_moment HT.out.2 hil
                    obtain ⟨rfl, rfl⟩ : b = b2 ∧ o = oo2 := by simpa using he2
                    obtain ⟨Ai, ci, rfl, hvl2, -⟩ := id hvi
                    have HVI := Lib.hid hvi
                    have e5 := cell_later (bl_then HB8.out HBR.out) f5
                    clear f5 hvi hq1 hq2 g0 g1 g4 o1 o4
                    go_upto_region 9 with fail
                    go_region_held3 (fun w' : World => Below w9.heap.size w9 w' ∧ w'.cell? ⟨w.heap.size, 1, none⟩ = some (.slice (some ⟨b, o, none⟩) t.moms.length c2) ∧ w'.cell? ⟨b, o + i * 6 + 5, none⟩ = some (.slice Ai (elt t.moms i).vars.length ci) ∧
                        w'.cell? ⟨w.heap.size + 1, 3, none⟩ = some (.string s.nm) ∧ w'.cell? ⟨w.heap.size + 1, 3, none⟩ = some (.string s.nm))
                      (first | exact ⟨bl_drew (Below.refl _ _), x1, e5, s3, s3⟩ | exact held4 ‹_› hb7)
                      (first | (go_at_call 98; refine (l3value_calls _ (elt t.moms i).vars s.nm _ (HVI.out.later (bl_then (bl_then HB8.out HBR.out) (held4_bl ‹_›)))).mono ?_; rintro e w10 ⟨rfl, hb7⟩))
                    have hbl : Below w9.heap.size w9 w10 := held4_bl ‹_›
                    replace HBR := Lib.hid (bl_then HBR.out hbl)
                    clear hbl hb7 x1 s3 e5
                    obtain ⟨vi, hvi⟩ : ∃ vi, valP (elt t.moms i).vars s.nm = vi := ⟨_, rfl⟩
                    have HVV := Lib.hid hvi
                    rw [hvi]
                    clear hvi
                    cases vi with
                    | none =>
                      have HSK : Hid (chgP t.moms s.nm (shownS t.moms k).cur (ownF t.moms k).frm now (i + 1) = chgP t.moms s.nm (shownS t.moms k).cur (ownF t.moms k).frm now i) := Lib.hid (chg_none (by have := HFR.out; omega) HVV.out)
                      dsimp only [Option.getD_none, Option.isSome_none]
                      go_wp2
                      go_roundw
                      case rel => exact ⟨(i : Int) - 1, by go_num, by omega, by omega, by rw [HF.out, HE.out, HSK.out]; congr 1; omega, HBR.out⟩
                      case measure => simp [intOf]
                    | some u =>
                      have HC : Hid (chgAt t.moms s k = !(u.toList == now.toList)) := Lib.hid (by rw [HR.out, HF.out, HE.out, chg_hit (by have := HFR.out; omega) HSI.out HEQ.out HVV.out])
                      dsimp only [Option.getD_some, Option.isSome_some]
                      obtain ⟨q3, hq3⟩ : ∃ q3, (u.toList == now.toList) = q3 := ⟨_, rfl⟩
                      rw [hq3] at HC
                      cases q3
                      all_goals
                        go_wp2
                        go_ret
                        exact ⟨by rw [HC.out]; rfl, bl_then HB8.out HBR.out⟩
          · have HC : Hid (chgAt t.moms s k = true) := Lib.hid (by rw [HR.out, HF.out, show (x + 1).toNat = 0 by omega]; rfl)
            go_wp2
            go_ret
            exact ⟨by rw [HC.out]; rfl, bl_then HB8.out HBR.out⟩
end Go.Proofs.YtcklnjjbhngbcaaGreatDoor

namespace Go.Proofs.YtcklnjjbhngbcaaGreatDoor
open Go.RowKit Go.Proofs.Lens

theorem l3changes_un (v1 v2 v3 : Value) (t : PTr) (s : PStop) (k : Nat) (w : World) (h : RdTr w v1 v2 t) (hsm : smTr t) (hk : k < t.moms.length) (ho : RdSl w 5 t.moms.length (ownC t.moms) v3) :
    Calls Tryz.prog 141 #[.agg #[v1, v2], v3, .agg #[.int .i64 s.kind, .int .i64 s.fn, .int .i64 s.line, .string s.nm], .int .i64 k] w fun e w' => e = .returned (.bool (chgAt t.moms s k)) ∧ Below w.heap.size w w' := l3changes_calls v1 v2 v3 t s k w h hsm hk ho
set_option maxRecDepth 100000 in
set_option maxHeartbeats 8000000 in
theorem l3hits_calls (v1 v2 : Value) (t : PTr) (s : PStop) (w : World) (h : RdTr w v1 v2 t) (hsm : smTr t) (hs : soundP t = true) (hst : stopOk s = true) :
    Calls Tryz.prog 89 #[.agg #[v1, v2], stopV s] w (OwRet w 4 1 t.moms.length (hdC t.moms s)) := by
  have HT := Lib.hid h
  have HS := Lib.hid hsm
  have HSD := Lib.hid hs
  obtain ⟨⟨A1, c1, rfl, hn1, -⟩, ⟨vv, ⟨A2, c2, rfl, hn2, -⟩, -⟩⟩ := h
  have hso := sound_iff hs
  obtain ⟨nf0, nf1, nm1⟩ := sound_fns hso
  have SO := Lib.hid hso
  obtain ⟨hkd, hf0, hf1⟩ := stopOk_kind hst
  obtain ⟨C, hC, hc, hmk⟩ := make_law (P := Tryz.prog) 165 4 Tryz.underlying165 i_bool t.moms.length (by omega) (by omega)
  have HC := Lib.hid hC
  have Hc := Lib.hid hc
  have HKD := Lib.hid hkd
  unfold stopV
  clear hs hsm hso hC hc hst hkd
  go_enter Tryz.func89, Tryz.ntmps89
  go_upto_region 2 with fail
  generalize hW : World.alloc (World.alloc w _) _ = W
  have hX : Blk W w.heap.size 26 2 (fun j => #[Value.slice A1 t.fns.length c1, .slice A2 t.moms.length c2].getD j undef) := by rw [← hW]; exact (Blk.made w #[.slice A1 t.fns.length c1, .slice A2 t.moms.length c2] 26).later (by repeat (with_reducible first | exact Below.refl _ _ | exact HL.out | refine bl_drewN ?_ _ | refine bl_drew ?_ | refine bl_alloc ?_ _ | refine bl_set ?_ (by dsimp only; omega) _))
  have hS : Blk W (w.heap.size + 1) 45 4 (fun j => #[Value.int .i64 s.kind, .int .i64 s.fn, .int .i64 s.line, .string s.nm].getD j undef) := by
    rw [← hW]
    have := Blk.made (w.alloc (.cells #[.slice A1 t.fns.length c1, .slice A2 t.moms.length c2] 26)) #[.int .i64 s.kind, .int .i64 s.fn, .int .i64 s.line, .string s.nm] 45
    rw [World.size_alloc] at this
    exact this
  have hB : Below w.heap.size w W := by rw [← hW]; exact (by repeat (with_reducible first | exact Below.refl _ _ | exact HL.out | refine bl_drewN ?_ _ | refine bl_drew ?_ | refine bl_alloc ?_ _ | refine bl_set ?_ (by dsimp only; omega) _))
  have hsz : W.heap.size = w.heap.size + 1 + 1 := by rw [← hW]; simp
  clear hW
  have hO : OwR (W.alloc (.cells C 4)) W.heap.size 4 1 t.moms.length (hdN t.moms s 0) (.slice (some ⟨W.heap.size, 0, none⟩) t.moms.length t.moms.length) :=
    OwR.made HC.out Hc.out (by rfl) (by simp only [maxLen]; omega) _ (fun i hi j hj => by
      obtain rfl : j = 0 := by omega
      simp only [hdN, Nat.not_lt_zero, decide_false, Bool.false_and]
      rfl)
  rw [hsz] at hO
  have HO := Lib.hid hO
  have HX := Lib.hid (hX.alloc (.cells C 4))
  have HSB := Lib.hid (hS.alloc (.cells C 4))
  have HB := Lib.hid (bl_alloc hB (.cells C 4))
  generalize W.alloc (.cells C 4) = W1 at HO HX HSB HB ⊢
  clear hO hX hS hB
  have x0 : W1.cell? ⟨w.heap.size, 0, none⟩ = some (.slice A1 t.fns.length c1) := HX.out.cell (j := 0) (by simp)
  have x1 : W1.cell? ⟨w.heap.size, 1, none⟩ = some (.slice A2 t.moms.length c2) := HX.out.cell (j := 1) (by simp)
  generalize hgo : w.heap.size + 1 + 1 = go at *
  go_wp2_with fail
  refine (l3owners_calls _ _ t _ (HT.out.later HB.out) HS.out HSD.out).mono ?_; rintro e w2 ⟨v3, rfl, hP, hb⟩
  obtain ⟨A3, k3, rfl, -⟩ := hP.cap
  have HP := Lib.hid (hP.lower (lo' := w.heap.size) HB.out.size)
  clear hP x0 x1
  replace HB := Lib.hid (bl_then HB.out hb); replace HX := Lib.hid (HX.out.later hb); replace HO := Lib.hid (HO.out.later hb); replace HSB := Lib.hid (HSB.out.later hb); clear hb
  have x1 : w2.cell? ⟨w.heap.size, 1, none⟩ = some (.slice A2 t.moms.length c2) := HX.out.cell (j := 1) (by simp)
  go_wp2_with fail
  clear x1
  go_loopw [18] (fun i wr => ∃ n : Nat, n ≤ t.moms.length ∧ i = .int .i64 n ∧
    OwR wr go 4 1 t.moms.length (hdN t.moms s n) (.slice (some ⟨go, 0, none⟩) t.moms.length t.moms.length) ∧
    OwR wr w.heap.size 242 5 t.moms.length (ownC t.moms) (.slice A3 t.moms.length k3) ∧ Below w.heap.size w wr ∧
    Blk wr w.heap.size 26 2 (fun j => #[Value.slice A1 t.fns.length c1, .slice A2 t.moms.length c2].getD j undef) ∧
    Blk wr (w.heap.size + 1) 45 4 (fun j => #[Value.int .i64 s.kind, .int .i64 s.fn, .int .i64 s.line, .string s.nm].getD j undef)) (fun i _ => t.moms.length - (intOf i).toNat)
  case atStart => exact ⟨0, Nat.zero_le _, rfl, HO.out, HP.out, HB.out, HX.out, HSB.out⟩
  case round =>
    obtain ⟨n, hnn, rfl, hO, hP, hB, hX, hSB⟩ := hrel
    clear HO HB HX HP HSB
    have HO := Lib.hid hO
    have HP := Lib.hid hP
    have HB := Lib.hid hB
    have HX := Lib.hid hX
    have HSB := Lib.hid hSB
    clear hO hB hX hP hSB
    by_cases h2 : n < t.moms.length
    · obtain ⟨b, o, vk, hA, d0, d1, d2, d3, d4, d5, hvk⟩ := rd_moment (HT.out.2.later HB.out) h2
      obtain ⟨Av, cv, rfl, -⟩ := hvk
      subst hA
      go_upto_region 6 with fail
      have HMB : Hid (Blk (wr.alloc _) wr.heap.size 114 6 _) := Lib.hid (Blk.made wr #[.int .i64 (elt t.moms n).kind, .int .i64 (elt t.moms n).task, .int .i64 (elt t.moms n).fn, .int .i64 (elt t.moms n).line, .string (elt t.moms n).text, .slice Av (elt t.moms n).vars.length cv] 114)
      generalize hW2 : World.alloc wr _ = w3 at HMB ⊢
      have hbl : Below wr.heap.size wr w3 := by rw [← hW2]; exact bl_alloc (Below.refl _ _) _
      have hmb : w.heap.size + 1 < wr.heap.size := HSB.out.lt
      have hgob : go < wr.heap.size := HO.out.blt.2
      clear hW2 d0 d1 d2 d3 d4 d5
      replace HB := Lib.hid (bl_then HB.out hbl); replace HX := Lib.hid (HX.out.later hbl); replace HO := Lib.hid (HO.out.later hbl); replace HP := Lib.hid (HP.out.later hbl); replace HSB := Lib.hid (HSB.out.later hbl); clear hbl
      have y0 : w3.cell? ⟨wr.heap.size, 0, none⟩ = some (.int .i64 (elt t.moms n).kind) := HMB.out.cell (j := 0) (by simp)
      have y2 : w3.cell? ⟨wr.heap.size, 2, none⟩ = some (.int .i64 (elt t.moms n).fn) := HMB.out.cell (j := 2) (by simp)
      have y3 : w3.cell? ⟨wr.heap.size, 3, none⟩ = some (.int .i64 (elt t.moms n).line) := HMB.out.cell (j := 3) (by simp)
      have s0 : w3.cell? ⟨w.heap.size + 1, 0, none⟩ = some (.int .i64 s.kind) := HSB.out.cell (j := 0) (by simp)
      have s1 : w3.cell? ⟨w.heap.size + 1, 1, none⟩ = some (.int .i64 s.fn) := HSB.out.cell (j := 1) (by simp)
      have s2 : w3.cell? ⟨w.heap.size + 1, 2, none⟩ = some (.int .i64 s.line) := HSB.out.cell (j := 2) (by simp)
      have h2' : (n : Int) < (t.moms.length : Int) := by omega
      by_cases k3' : s.kind = 3
      · have hq1 : (s.kind == 1) = false := by simp [k3']
        have hq2 : (s.kind == 2) = false := by simp [k3']
        have hq3 : (s.kind == 3) = true := by simp [k3']
        have HK3 := Lib.hid k3'
        have s3 : w3.cell? ⟨w.heap.size + 1, 3, none⟩ = some (.string s.nm) := HSB.out.cell (j := 3) (by simp)
        have x0 : w3.cell? ⟨w.heap.size, 0, none⟩ = some (.slice A1 t.fns.length c1) := HX.out.cell (j := 0) (by simp)
        have x1 : w3.cell? ⟨w.heap.size, 1, none⟩ = some (.slice (some ⟨b, o, none⟩) t.moms.length c2) := HX.out.cell (j := 1) (by simp)
        clear k3'
        go_wp2_with fail
        refine (l3changes_un _ _ _ t s n _ (HT.out.later HB.out) HS.out h2 HP.out.rd).mono ?_; rintro e w4 ⟨rfl, hb⟩
        clear s0 s1 s2 s3 x0 x1 y0 y2 y3
        replace HB := Lib.hid (bl_then HB.out hb); replace HX := Lib.hid (HX.out.later hb); replace HO := Lib.hid (HO.out.later hb); replace HP := Lib.hid (HP.out.later hb); replace HSB := Lib.hid (HSB.out.later hb); clear hb
        have z2 := HO.out.free n
        have z3 : w4.cell? ⟨go, n, none⟩ = some (.bool false) := by
          have := HO.out.cells h2 (j := 0) (by omega)
          simpa [hdN] using this
        have HH : Hid (holdsP t.moms s n = chgAt t.moms s n) := Lib.hid (by unfold holdsP; rw [if_neg (by have := HK3.out; omega), if_neg (by have := HK3.out; omega), if_pos HK3.out, chgAt_eq SO.out s h2])
        generalize chgAt t.moms s n = r1 at HH ⊢
        go_wp2
        go_roundw
        case rel =>
          have hset := (Mv.refl [4] w.heap.size w4).setO HO.out (by omega) (by decide) n (.bool r1)
          exact ⟨n + 1, by omega, by go_num, hdN_set HO.out h2 HH.out, HP.out.mv hset (by decide), bl_trans3 HB.out hset.bl, HX.out.mv hset (by decide), HSB.out.mv hset (by decide)⟩
        case measure => simp [intOf]; omega
      · have hq3 : (s.kind == 3) = false := by simp [k3']
        have z2 := HO.out.free n
        have z3 : w3.cell? ⟨go, n, none⟩ = some (.bool false) := by
          have := HO.out.cells h2 (j := 0) (by omega)
          simpa [hdN] using this
        by_cases k1 : s.kind = 1
        · have hq1 : (s.kind == 1) = true := by simp [k1]
          have HH : Hid (holdsP t.moms s n = (((elt t.moms n).kind == 1) && ((elt t.moms n).fn == s.fn) && ((elt t.moms n).line == s.line))) := Lib.hid (by unfold holdsP; rw [if_pos k1, Bool.beq_eq_decide_eq, Bool.beq_eq_decide_eq, Bool.beq_eq_decide_eq])
          generalize hk1 : ((elt t.moms n).kind == 1) = r1 at HH
          generalize hk2 : ((elt t.moms n).fn == s.fn) = r2 at HH
          generalize hk3 : ((elt t.moms n).line == s.line) = r3 at HH
          clear k1 k3'
          cases r1 <;> cases r2 <;> cases r3
          all_goals
            go_wp2
            go_roundw
            case rel =>
              have hset := (Mv.refl [4] w.heap.size w3).setO HO.out (by omega) (by decide) n (.bool (holdsP t.moms s n))
              have hO2 := hdN_set HO.out h2 rfl
              rw [HH.out] at hset hO2
              exact ⟨n + 1, by omega, by go_num, hO2, HP.out.mv hset (by decide), bl_trans3 HB.out hset.bl, HX.out.mv hset (by decide), HSB.out.mv hset (by decide)⟩
            case measure => simp [intOf]; omega
        · have hq1 : (s.kind == 1) = false := by simp [k1]
          by_cases k2 : s.kind = 2
          · have hq2 : (s.kind == 2) = true := by simp [k2]
            have HH : Hid (holdsP t.moms s n = (((elt t.moms n).kind == 2) && ((elt t.moms n).fn == s.fn))) := Lib.hid (by unfold holdsP; rw [if_neg k1, if_pos k2, Bool.beq_eq_decide_eq, Bool.beq_eq_decide_eq])
            generalize hk1 : ((elt t.moms n).kind == 2) = r1 at HH
            generalize hk2 : ((elt t.moms n).fn == s.fn) = r2 at HH
            clear k1 k2 k3'
            cases r1 <;> cases r2
            all_goals
              go_wp2
              go_roundw
              case rel =>
                have hset := (Mv.refl [4] w.heap.size w3).setO HO.out (by omega) (by decide) n (.bool (holdsP t.moms s n))
                have hO2 := hdN_set HO.out h2 rfl
                rw [HH.out] at hset hO2
                exact ⟨n + 1, by omega, by go_num, hO2, HP.out.mv hset (by decide), bl_trans3 HB.out hset.bl, HX.out.mv hset (by decide), HSB.out.mv hset (by decide)⟩
              case measure => simp [intOf]; omega
          · have hq2 : (s.kind == 2) = false := by simp [k2]
            have HH : Hid (holdsP t.moms s n = ((elt t.moms n).kind == 4)) := Lib.hid (by unfold holdsP; rw [if_neg k1, if_neg k2, if_neg k3', Bool.beq_eq_decide_eq])
            generalize hk1 : ((elt t.moms n).kind == 4) = r1 at HH
            clear k1 k2 k3'
            cases r1
            all_goals
              go_wp2
              go_roundw
              case rel =>
                have hset := (Mv.refl [4] w.heap.size w3).setO HO.out (by omega) (by decide) n (.bool (holdsP t.moms s n))
                have hO2 := hdN_set HO.out h2 rfl
                rw [HH.out] at hset hO2
                exact ⟨n + 1, by omega, by go_num, hO2, HP.out.mv hset (by decide), bl_trans3 HB.out hset.bl, HX.out.mv hset (by decide), HSB.out.mv hset (by decide)⟩
              case measure => simp [intOf]; omega
    · obtain rfl : n = t.moms.length := by omega
      go_wp2
      go_ret
      refine ⟨_, rfl, ?_, HB.out⟩
      exact (HO.out.lower (by omega)).congr fun i hi j hj => by simp [hdN, hdC, hi]
end Go.Proofs.YtcklnjjbhngbcaaGreatDoor

namespace Go.Proofs.YtcklnjjbhngbcaaGreatDoor
open Go.RowKit Go.Proofs.Lens

theorem spec_StopOk_un (p : PStop) (w : World) {b : Bool} (h : stopOk p = b) : Calls Tryz.prog 138 #[.agg #[.int .i64 p.kind, .int .i64 p.fn, .int .i64 p.line, .string p.nm]] w fun e w' => e = .returned (.bool b) ∧ Below w.heap.size w w' := h ▸ spec_StopOk_calls p w
theorem l3hits_un (v1 v2 : Value) (t : PTr) (s : PStop) (w : World) (h : RdTr w v1 v2 t) (hsm : smTr t) (hs : soundP t = true) (hst : stopOk s = true) :
    Calls Tryz.prog 89 #[.agg #[v1, v2], .agg #[.int .i64 s.kind, .int .i64 s.fn, .int .i64 s.line, .string s.nm]] w (OwRet w 4 1 t.moms.length (hdC t.moms s)) := l3hits_calls v1 v2 t s w h hsm hs hst
end Go.Proofs.YtcklnjjbhngbcaaGreatDoor
