/- CallTree. (Written by I8.py from I8.in.) -/
import Derived.Test.YtcklnjjbhngbcaaGreatDoorI7
import Derived.Test.YtcklnjjbhngbcaaGreatDoorF2
import Derived.Test.YtcklnjjbhngbcaaGreatDoorF1
import Derived.Test.YtcklnjjbhngbcaaGreatDoorP5
namespace Go.Proofs.YtcklnjjbhngbcaaGreatDoor
open Go.RowKit Go.Proofs.Lens

theorem brAt_map (br : List PBr) (p fn : Int) : brAt br p fn = (br.map fun b => (b.par, b.fn)).findIdx fun x => decide (x.1 = p) && decide (x.2 = fn) := by
  unfold brAt; rw [List.findIdx_map]; rfl
theorem brCal_map (br : List PBr) (i : Nat) : (brCal br i).map (fun b => (b.par, b.fn)) = br.map fun b => (b.par, b.fn) := by
  unfold brCal
  refine List.ext_getElem (by simp) fun j h1 h2 => ?_
  rw [List.getElem_map, List.getElem_map, List.getElem_modify]
  split <;> rfl
theorem brSlf_map (br : List PBr) (i : Nat) : (brSlf br i).map (fun b => (b.par, b.fn)) = br.map fun b => (b.par, b.fn) := by
  unfold brSlf
  refine List.ext_getElem (by simp) fun j h1 h2 => ?_
  rw [List.getElem_map, List.getElem_map, List.getElem_modify]
  split <;> rfl
theorem brAt_cal (br : List PBr) (i : Nat) (p fn : Int) : brAt (brCal br i) p fn = brAt br p fn := by rw [brAt_map, brCal_map, ← brAt_map]
theorem brAt_slf (br : List PBr) (i : Nat) (p fn : Int) : brAt (brSlf br i) p fn = brAt br p fn := by rw [brAt_map, brSlf_map, ← brAt_map]
/-- What the program's map of the branches holds. -/
def kM (br : List PBr) (x : Int × Int) : Option Int := if brAt br x.2 x.1 < br.length then some (brAt br x.2 x.1 : Nat) else none
theorem kM_cal (br : List PBr) (i : Nat) : kM (brCal br i) = kM br := by funext x; unfold kM; rw [brAt_cal, brCal_len]
theorem kM_slf (br : List PBr) (i : Nat) : kM (brSlf br i) = kM br := by funext x; unfold kM; rw [brAt_slf, brSlf_len]
theorem brAt_snoc (br : List PBr) (x : PBr) (p fn : Int) : brAt (br ++ [x]) p fn = if brAt br p fn < br.length then brAt br p fn else br.length + (if brIs p fn x = true then 0 else 1) := by
  unfold brAt
  rw [List.findIdx_append]
  split
  · rfl
  · rw [Nat.add_comm]
    congr 1
    simp only [List.findIdx_cons, List.findIdx_nil]
    cases brIs p fn x <;> rfl
theorem kM_add (br : List PBr) (p fn : Int) (h : brAt br p fn = br.length) (x : Int × Int) : setM (kM br) (fn, p) br.length x = kM (br ++ [⟨fn, p, 0, 0⟩]) x := by
  obtain ⟨x1, x2⟩ := x
  unfold setM kM
  dsimp only
  rw [brAt_snoc]
  by_cases he : (x1, x2) = (fn, p)
  · cases he
    have hb : brIs p fn ⟨fn, p, 0, 0⟩ = true := by simp [brIs]
    rw [if_pos rfl, h, if_neg (Nat.lt_irrefl _), hb]
    simp
  · rw [if_neg he]
    have h2 : brIs x2 x1 ⟨fn, p, 0, 0⟩ = false := by
      cases hb : brIs x2 x1 ⟨fn, p, 0, 0⟩ with
      | false => rfl
      | true =>
        simp only [brIs, Bool.and_eq_true, decide_eq_true_eq] at hb
        exact absurd (by rw [hb.1, hb.2]) he
    rw [h2]
    by_cases hl : brAt br x2 x1 < br.length
    · simp [hl]; omega
    · simp [hl]
theorem kM0 (x : Int × Int) : setM (fun _ => none) (0, -1) 0 x = kM ct0.br x := by
  have := kM_add [] (-1) 0 rfl x
  rw [show (([] : List PBr) ++ [⟨0, -1, 0, 0⟩]) = [⟨0, -1, 0, 0⟩] from rfl] at this
  show _ = kM (brCal [⟨0, -1, 0, 0⟩] 0) x
  rw [kM_cal, ← this]
  unfold setM kM
  rfl
set_option maxRecDepth 100000 in
set_option maxHeartbeats 2000000 in
theorem impl_CallTree_bad (v1 v2 : Value) (t : PTr) (w : World) (h : RdTr w v1 v2 t) (hsm : smTr t) (hs : soundP t = false) :
    Calls Tryz.prog 30 #[.agg #[v1, v2]] w (OwRet w 150 4 (ctP t).length (brC (ctP t))) := by
  have HT := Lib.hid h
  have HS := Lib.hid hsm
  obtain ⟨⟨A1, c1, rfl, hn1, -⟩, ⟨vv, ⟨A2, c2, rfl, hn2, -⟩, -⟩⟩ := h
  have HR : Hid (ctP t = []) := Lib.hid (by unfold ctP; rw [hs]; rfl)
  have HQ := Lib.hid hs
  clear hs hsm
  go_enter Tryz.func30, Tryz.ntmps30
  go_wp2_with fail
  refine (sound_is _ _ t _ (HT.out.later (by repeat (with_reducible first | exact Below.refl _ _ | exact HL.out | refine bl_drewN ?_ _ | refine bl_drew ?_ | refine bl_alloc ?_ _ | refine bl_set ?_ (by dsimp only; omega) _))) HS.out HQ.out).mono ?_; rintro e w1 ⟨rfl, hb⟩
  have HB := Lib.hid (bl_then (bl_alloc (Below.refl _ w) _) hb)
  clear hb
  go_wp2
  go_ret
  rw [HR.out]
  exact ⟨_, rfl, OwR.nil, HB.out⟩

set_option maxRecDepth 100000 in
set_option maxHeartbeats 8000000 in
theorem impl_CallTree_good (v1 v2 : Value) (t : PTr) (w : World) (h : RdTr w v1 v2 t) (hsm : smTr t) (hs : soundP t = true) :
    Calls Tryz.prog 30 #[.agg #[v1, v2]] w (OwRet w 150 4 (ctP t).length (brC (ctP t))) := by
  have HT := Lib.hid h
  have HS := Lib.hid hsm
  obtain ⟨⟨A1, c1, rfl, hn1, -⟩, ⟨vv, ⟨A2, c2, rfl, hn2, -⟩, -⟩⟩ := h
  have HR : Hid (ctP t = (ctN t.moms t.moms.length).br) := Lib.hid (by unfold ctP; rw [hs]; rfl)
  have HQ := Lib.hid hs
  have hso := sound_iff hs
  obtain ⟨nf0, nf1, nm1⟩ := sound_fns hso
  have SO := Lib.hid hso
  have hmm := @run_makeMap Tryz.prog
  clear hs hsm hso
  go_enter Tryz.func30, Tryz.ntmps30
  go_wp2_with fail
  refine (sound_is _ _ t _ (HT.out.later (by repeat (with_reducible first | exact Below.refl _ _ | exact HL.out | refine bl_drewN ?_ _ | refine bl_drew ?_ | refine bl_alloc ?_ _ | refine bl_set ?_ (by dsimp only; omega) _))) HS.out HQ.out).mono ?_; rintro e w1 ⟨rfl, hb⟩
  have HX := Lib.hid ((Blk.made w #[.slice A1 t.fns.length c1, .slice A2 t.moms.length c2] 26).later hb)
  have HB := Lib.hid (bl_then (bl_alloc (Below.refl _ w) _) hb)
  have hw1 : w.heap.size < w1.heap.size := HX.out.lt
  clear hb
  go_upto_region 4 with fail
  generalize hW : World.alloc w1 _ = W
  have hO : OwR W w1.heap.size 150 4 ct0.br.length (brC ct0.br) (.slice (some ⟨w1.heap.size, 0, none⟩) 1 1) := by rw [← hW]; exact brC0
  have hX := HX.out.later (w' := W) (by rw [← hW]; exact (by repeat (with_reducible first | exact Below.refl _ _ | exact HL.out | refine bl_drewN ?_ _ | refine bl_drew ?_ | refine bl_alloc ?_ _ | refine bl_set ?_ (by dsimp only; omega) _)))
  have hB : Below w.heap.size w W := by rw [← hW]; exact bl_alloc HB.out _
  have hsz : W.heap.size = w1.heap.size + 1 := by rw [← hW]; simp
  have k0 : OwMe (W.alloc (.map #[] 0)) W.heap.size 0 (fun _ => none) := OwM.made W
  obtain ⟨wa, hu1, k1, g1⟩ := OwM.update m_edge k0 (x := (0, -1)) ⟨by unfold ok64; omega, by unfold ok64; omega⟩ (y := 0) (by unfold ok64; omega) (by simp only [maxLen]; omega)
  have b0 : OwMi (wa.alloc (.map #[] 0)) wa.heap.size 0 (fun _ => none) := OwM.made wa
  obtain ⟨wb, hu2, b1, g2⟩ := OwM.update m_int b0 (x := -1) (by unfold ok64; omega) (y := 0) (by unfold ok64; omega) (by simp only [maxLen]; omega)
  replace hu1 : (Instr.mapUpdate 153 (.map (some W.heap.size)) (.agg #[.int .i64 0, .int .i64 (-1)]) (.int .i64 0)).run Tryz.prog (W.alloc (.map #[] 0)) = .ok () wa := hu1
  replace hu2 : (Instr.mapUpdate 142 (.map (some wa.heap.size)) (.int .i64 (-1)) (.int .i64 0)).run Tryz.prog (wa.alloc (.map #[] 0)) = .ok () wb := hu2
  have hbA : Below W.heap.size W wa := bl_grown (bl_alloc (Below.refl _ _) _) g1 (Nat.le_refl _)
  have hbB : Below wa.heap.size wa wb := bl_grown (bl_alloc (Below.refl _ _) _) g2 (Nat.le_refl _)
  have HO := Lib.hid ((hO.later hbA).later hbB)
  have HX2 := Lib.hid ((hX.later hbA).later hbB)
  have HB2 := Lib.hid (bl_then (bl_then hB hbA) hbB)
  have HK := Lib.hid ((k1.congr fun x _ => kM0 x).later hbB)
  have HBO := Lib.hid b1
  have hgk : w.heap.size ≤ W.heap.size := by omega
  have hgb : w.heap.size ≤ wa.heap.size := by have := hbA.size; omega
  have HGG : Hid (W.heap.size ≠ wa.heap.size) := Lib.hid (by have := k1.lt; omega)
  clear hW hO hX hB hsz k0 k1 g1 b0 b1 g2 hbA hbB HX HB
  go_upto_region 6 with fail
  clear hu1 hu2
  generalize W.heap.size = gk at *
  generalize wa.heap.size = gb at *
  have x3 := HX2.out.cell (j := 0) (by simp)
  have x4 := HX2.out.cell (j := 1) (by simp)
  go_wp2_with fail
  refine (newWalk_calls _ _ _).mono ?_; rintro e w2 ⟨g, f, rfl, hW, hgs, hb⟩
  have HO2 := Lib.hid (HO.out.later hb)
  have HX3 := Lib.hid (HX2.out.later hb)
  have HW2 := Lib.hid hW
  have HGS : Hid (w1.heap.size < g) := Lib.hid (by have := HO.out.blt; omega)
  have HB3 := Lib.hid (bl_then HB2.out hb)
  have HK2 := Lib.hid (HK.out.later hb)
  have HBO2 := Lib.hid (HBO.out.later hb)
  clear hW hb x3 x4 HO HX2 HB2 HK HBO hgs
  have x1 : w2.cell? ⟨w.heap.size, 1, none⟩ = some (.slice A2 t.moms.length c2) := HX3.out.cell (j := 1) (by simp)
  go_wp2_with fail
  clear x1
  go_loopw [3, 29] (fun ov i wr => ∃ (n bo cap kn bn : Nat) (B : Int → Option Int) (cl : List PFr) (f : Nat → Value), n ≤ t.moms.length ∧ i = .int .i64 n ∧ ov = .slice (some ⟨bo, 0, none⟩) (ctN t.moms n).br.length cap ∧
    IsW wr g (.slice A1 t.fns.length c1) (.slice A2 t.moms.length c2) (stN t.moms n) cl f ∧
    OwR wr w1.heap.size 150 4 (ctN t.moms n).br.length (brC (ctN t.moms n).br) (.slice (some ⟨bo, 0, none⟩) (ctN t.moms n).br.length cap) ∧
    OwMe wr gk kn (kM (ctN t.moms n).br) ∧ kn ≤ n + 1 ∧ OwMi wr gb bn B ∧ bn ≤ n + 1 ∧ BoOk (fun x => (B x).getD 0) (ctN t.moms n) (stN t.moms n) ∧ Below w.heap.size w wr ∧
    Blk wr w.heap.size 26 2 (fun j => #[Value.slice A1 t.fns.length c1, .slice A2 t.moms.length c2].getD j undef)) (fun _ i _ => t.moms.length - (intOf i).toNat)
  case atStart => exact ⟨0, w1.heap.size, 1, 1, 1, _, [], f, Nat.zero_le _, rfl, rfl, HW2.out, HO2.out, HK2.out, by omega, HBO2.out, by omega, boOk0 (by simp [setM]), HB3.out, HX3.out⟩
  case round =>
    obtain ⟨n, bo, cap, kn, bn, B, cl, f, hn, rfl, rfl, hW, hO, hK, hkn, hBO, hbn, hbo, hB, hX⟩ := hrel
    clear HW2 HO2 HB3 HX3 HK2 HBO2
    have HW := Lib.hid hW
    have HO := Lib.hid hO
    have HB := Lib.hid hB
    have HX := Lib.hid hX
    have HK := Lib.hid hK
    have HBO := Lib.hid hBO
    have HBK := Lib.hid hbo
    clear hW hO hB hX hK hBO hbo
    by_cases h2 : n < t.moms.length
    · obtain ⟨b, o, vk, hA, d0, d1, d2, d3, d4, d5, hvk⟩ := rd_moment (HT.out.2.later HB.out) h2
      obtain ⟨Av, cv, rfl, -⟩ := hvk
      subst hA
      have HI := SO.out.inv n hn
      have i0 := HI.lo
      have i1 := HI.hi
      have hcx : (stN t.moms n).cur < 101 := by omega
      have CI := SO.out.ctInv n hn
      have hmx := CI.max
      have hps := CI.pos
      have CX := Lib.hid CI
      have hfn := mom_fn (SO.out.moms n h2)
      clear CI HI
      go_upto_region 10 with fail
      have HMB : Hid (Blk (wr.alloc _) wr.heap.size 114 6 _) := Lib.hid (Blk.made wr #[.int .i64 (elt t.moms n).kind, .int .i64 (elt t.moms n).task, .int .i64 (elt t.moms n).fn, .int .i64 (elt t.moms n).line, .string (elt t.moms n).text, .slice Av (elt t.moms n).vars.length cv] 114)
      generalize hW2 : World.alloc wr _ = W2 at HMB ⊢
      have hbl : Below wr.heap.size wr W2 := by rw [← hW2]; exact bl_alloc (Below.refl _ _) _
      have hmb : w.heap.size < wr.heap.size := HX.out.lt
      clear hW2 d0 d1 d2 d3 d4 d5
      replace HK := Lib.hid (HK.out.later hbl)
      replace HBO := Lib.hid (HBO.out.later hbl)
      replace HB := Lib.hid (bl_then HB.out hbl); replace HX := Lib.hid (HX.out.later hbl); replace HO := Lib.hid (HO.out.later hbl); replace HW := Lib.hid (HW.out.later hbl); clear hbl
      obtain ⟨pp, cp, hl⟩ := HW.out.at i0 i1
      have cc : W2.cell? ⟨g, 2, none⟩ = some (.int .i64 (stN t.moms n).cur) := (HW.out.blk.cell (by omega)).trans (by rw [HW.out.cur])
      have HL := Lib.hid hl
      clear hl
      go_upto_region 11 with fail
      go_quiet (fail)
      generalize hW3 : World.drewN W2 _ = W3
      have hbl : Below W2.heap.size W2 W3 := by rw [← hW3]; exact bl_drewN (Below.refl _ _) _
      clear hW3 cp cc
      replace HK := Lib.hid (HK.out.later hbl)
      replace HBO := Lib.hid (HBO.out.later hbl)
      replace HL := Lib.hid (HL.out.later hbl)
      replace HMB := Lib.hid (HMB.out.later hbl)
      replace HB := Lib.hid (bl_then HB.out hbl); replace HX := Lib.hid (HX.out.later hbl); replace HO := Lib.hid (HO.out.later hbl); replace HW := Lib.hid (HW.out.later hbl); clear hbl
      have y0 : W3.cell? ⟨wr.heap.size, 0, none⟩ = some (.int .i64 (elt t.moms n).kind) := HMB.out.cell (j := 0) (by omega)
      have y2 : W3.cell? ⟨wr.heap.size, 2, none⟩ = some (.int .i64 (elt t.moms n).fn) := HMB.out.cell (j := 2) (by omega)
      have HSI : Hid (Inv (stN t.moms n) n) := Lib.hid (SO.out.inv n hn)
      cases hL : (stN t.moms n).stk (stN t.moms n).cur with
      | nil =>
        have hl := HL.out
        rw [hL] at hl
        obtain rfl : pp = none := hl
        have HPV : Hid (ctPar ((ctN t.moms n).stk (stN t.moms n).cur) = -1) := Lib.hid (by rw [HBK.out.top_nil hL]; rfl)
        have HTP := Lib.hid hL
        clear hL HL
        by_cases k2 : (elt t.moms n).kind = 2
        · have hd1 : ((elt t.moms n).kind == 2) = true := by simp [k2]
          have HK2 := Lib.hid k2
          clear k2
          go_upto_region 17 with fail
          have HEB : Hid (Blk (W3.alloc _) W3.heap.size 152 2 _) := Lib.hid (Blk.made W3 #[.int .i64 (elt t.moms n).fn, .int .i64 (-1)] 152)
          generalize hW4 : World.alloc W3 _ = W4 at HEB ⊢
          have hbl : Below W3.heap.size W3 W4 := by rw [← hW4]; exact bl_alloc (Below.refl _ _) _
          have hlt3 : wr.heap.size < W3.heap.size := HMB.out.lt
          clear hW4 y0 y2
          replace HK := Lib.hid (HK.out.later hbl)
          replace HBO := Lib.hid (HBO.out.later hbl)
          replace HMB := Lib.hid (HMB.out.later hbl)
          replace HB := Lib.hid (bl_then HB.out hbl); replace HX := Lib.hid (HX.out.later hbl); replace HO := Lib.hid (HO.out.later hbl); replace HW := Lib.hid (HW.out.later hbl); clear hbl
          have e0 : W4.cell? ⟨W3.heap.size, 0, none⟩ = some (.int .i64 (elt t.moms n).fn) := HEB.out.cell (j := 0) (by simp)
          have e1 : W4.cell? ⟨W3.heap.size, 1, none⟩ = some (.int .i64 (-1)) := HEB.out.cell (j := 1) (by simp)
          have hbd := brAdd_bd (p := (-1)) (fn := (elt t.moms n).fn) (n := (n : Int) + 1) (by omega) CX.out.bd
          obtain ⟨k1, hk1⟩ : ∃ k1, brAt (ctN t.moms n).br (-1) (elt t.moms n).fn = k1 := ⟨_, rfl⟩
          have HK1 := Lib.hid hk1
          have hle := brAt_le (ctN t.moms n).br (-1) (elt t.moms n).fn
          rw [hk1] at hle
          have hlk0 := HK.out.lookOk m_edge (x := ((elt t.moms n).fn, (-1))) ⟨by unfold ok64; omega, by unfold ok64; omega⟩
          have hkm : kM (ctN t.moms n).br ((elt t.moms n).fn, (-1)) = if k1 < (ctN t.moms n).br.length then some (k1 : Int) else none := by unfold kM; rw [hk1]
          rw [hkm] at hlk0
          clear hkm
          by_cases hh : k1 < (ctN t.moms n).br.length
          · rw [if_pos hh] at hlk0
            replace hlk0 : (Instr.lookup 153 (.map (some gk)) (.agg #[.int .i64 (elt t.moms n).fn, .int .i64 (-1)]) true).run Tryz.prog W4 = .ok (.tuple #[.int .i64 (k1 : Nat), .bool true]) W4 := hlk0
            have had : brAdd (ctN t.moms n).br (-1) (elt t.moms n).fn = (ctN t.moms n).br := brAdd_hit (by rw [hk1]; exact hh)
            have HAD := Lib.hid had
            rw [had] at hbd
            have hkx := hh
            clear had hk1 hh
            go_upto_region 22 with fail
            clear hlk0 e0 e1
            have HE : Hid (ctN t.moms (n + 1) = ⟨brCal (ctN t.moms n).br k1, (ctN t.moms n).put (stN t.moms n).cur (k1 :: (ctN t.moms n).stk (stN t.moms n).cur)⟩) := Lib.hid (by
              show ctStep _ _ _ = _
              unfold ctStep; rw [if_pos HK2.out, HPV.out, HK1.out, HAD.out])
            obtain ⟨⟨cz0, cz1⟩, -⟩ := hbd k1 hkx
            have z3 : W4.cell? ⟨bo, k1 * 4 + 2, none⟩ = some (.int .i64 (elt (ctN t.moms n).br k1).cal) := HO.out.cells hkx (j := 2) (by omega)
            have z2 := HO.out.free (k1 * 4 + 2)
            have hkk : (k1 : Int) < (((ctN t.moms n).br.length : Nat) : Int) := by omega
            have HKX := Lib.hid hkx
            clear hbd hkx
            go_upto_region 23 with fail
            have hO5 := brC_cal HO.out HKX.out
            have hset := (Mv.refl [150] w.heap.size W4).setO HO.out (by omega) (by decide) (k1 * 4 + 2) (.int .i64 ((elt (ctN t.moms n).br k1).cal + 1))
            have hW5 := HW.out.mv hset (by decide) (by decide)
            have hX5 := HX.out.mv hset (by decide)
            have hK5 := HK.out.mv hset
            have hBO5 := HBO.out.mv hset
            have hB5 := bl_trans3 HB.out hset.bl
            generalize hWq : World.setCell W4 _ _ = W5 at hO5 hW5 hX5 hK5 hBO5 hB5 ⊢
            obtain ⟨w6, hup, hBO6, hg6⟩ := OwM.update m_int hBO5 (x := (n : Int)) (by unfold ok64; omega) (y := (k1 : Int)) (by unfold ok64; omega) (by simp only [maxLen]; omega)
            replace hup : (Instr.mapUpdate 142 (.map (some gb)) (.int .i64 n) (.int .i64 (k1 : Nat))).run Tryz.prog W5 = .ok () w6 := hup
            have hnem := fun b' e N f' (hBk : Blk W5 b' e N f') => hBO5.ne hBk
            have hO6 := hO5.grown hg6 (fun b' hb' hh => by obtain ⟨N, F, hBk⟩ := hO5.block hb'; exact hnem _ _ _ _ hBk (Option.some.inj hh).symm)
            have hW6 := hW5.gm hg6 hnem
            have hX6 := hX5.gm hg6 (hnem _ _ _ _ hX5)
            have hK6 := hK5.kept hg6 (fun hh => HGG.out (Option.some.inj hh))
            have hB6 := bl_grown hB5 hg6 (by omega)
            clear hset hO5 hW5 hX5 hK5 hBO5 hB5 hg6 hnem hWq HO HW HX HK HBO HB z3 z2
            have HO := Lib.hid hO6
            have HW := Lib.hid hW6
            have HX := Lib.hid hX6
            have HK := Lib.hid hK6
            have HBO := Lib.hid hBO6
            have HB := Lib.hid hB6
            clear hO6 hW6 hX6 hK6 hBO6 hB6
            go_wp2_with fail
            clear hup
            refine (step_calls g _ _ _ _ _ t.moms n t.fns.length _ HW.out (HT.out.2.later HB.out) h2 HSI.out (SO.out.moms n h2) (SO.out.moves n h2)).mono ?_
            rintro e w7 ⟨rfl, ⟨f', hW7⟩, hgb7⟩
            have hmv : Mv [146] w.heap.size w6 w7 := (Mv.refl _ _ _).grown HB.out.size hgb7 (fun b hb => by cases hb; exact ⟨by have := HGS.out; omega, _, _, _, HW.out.blk, by decide⟩)
            replace HX := Lib.hid (HX.out.mv hmv (by decide))
            replace HO := Lib.hid (HO.out.mv hmv (by decide))
            replace HK := Lib.hid (HK.out.mv hmv)
            replace HBO := Lib.hid (HBO.out.mv hmv)
            replace HB := Lib.hid (bl_grown HB.out hgb7 (by have := HGS.out; omega))
            clear HW
            have HW := Lib.hid hW7
            clear hmv hW7 hgb7
            go_wp2
            go_roundw
            case measure => simp [intOf]; omega
            case rel =>
              refine ⟨n + 1, bo, cap, kn, bn + 1, setM B n (k1 : Int), closedP (stN t.moms n) (elt t.moms n), f', by omega, by go_num, by rw [HE.out]; dsimp only; rw [brCal_len], HW.out, ?_, ?_, by omega, HBO.out, by omega, ?_, HB.out, HX.out⟩
              · rw [HE.out]
                have := HO.out
                dsimp only
                rw [brCal_len] at this ⊢
                exact this
              · rw [HE.out]; dsimp only; rw [kM_cal]; exact HK.out
              · exact boOk_step HBK.out HSI.out (fun x hx => by unfold setM; rw [if_neg (by omega)]) (fun _ => by unfold setM; rw [if_pos rfl, HPV.out, HK1.out]; rfl)
          · have hk2 : k1 = (ctN t.moms n).br.length := by omega
            rw [if_neg hh] at hlk0
            replace hlk0 : (Instr.lookup 153 (.map (some gk)) (.agg #[.int .i64 (elt t.moms n).fn, .int .i64 (-1)]) true).run Tryz.prog W4 = .ok (.tuple #[.int .i64 0, .bool false]) W4 := hlk0
            have had : brAdd (ctN t.moms n).br (-1) (elt t.moms n).fn = (ctN t.moms n).br ++ [⟨(elt t.moms n).fn, (-1), 0, 0⟩] := brAdd_miss (by rw [hk1]; exact hk2)
            have HAD := Lib.hid had
            rw [had] at hbd
            obtain ⟨w5, hup0, hK5, hg5⟩ := OwM.update m_edge HK.out (x := ((elt t.moms n).fn, (-1))) ⟨by unfold ok64; omega, by unfold ok64; omega⟩ (y := ((ctN t.moms n).br.length : Int)) (by unfold ok64; omega) (by simp only [maxLen]; omega)
            replace hup0 : (Instr.mapUpdate 153 (.map (some gk)) (.agg #[.int .i64 (elt t.moms n).fn, .int .i64 (-1)]) (.int .i64 ((ctN t.moms n).br.length : Nat))).run Tryz.prog W4 = .ok () w5 := hup0
            replace hK5 := hK5.congr fun x _ => kM_add _ _ _ (by rw [hk1]; exact hk2) x
            have hnem := fun b' e N f' (hBk : Blk W4 b' e N f') => HK.out.ne hBk
            have hO5 := HO.out.grown hg5 (fun b' hb' hh => by obtain ⟨N, F, hBk⟩ := HO.out.block hb'; exact hnem _ _ _ _ hBk (Option.some.inj hh).symm)
            have hW5 := HW.out.gm hg5 hnem
            have hX5 := HX.out.gm hg5 (hnem _ _ _ _ HX.out)
            have hM5 := HMB.out.gm hg5 (hnem _ _ _ _ HMB.out)
            have hBO5 := HBO.out.kept hg5 (fun hh => HGG.out (Option.some.inj hh).symm)
            have hB5 := bl_grown HB.out hg5 (by omega)
            clear had hk1 hh hg5 hnem HO HW HX HMB HBO HB HK hle HEB
            have HO := Lib.hid hO5
            have HW := Lib.hid hW5
            have HX := Lib.hid hX5
            have HK := Lib.hid hK5
            have HBO := Lib.hid hBO5
            have HB := Lib.hid hB5
            have y5 : w5.cell? ⟨wr.heap.size, 2, none⟩ = some (.int .i64 (elt t.moms n).fn) := hM5.cell (j := 2) (by omega)
            have HBD := Lib.hid hbd
            have HKQ := Lib.hid hk2
            have hsl : w1.heap.size ≤ w5.heap.size := by have := hO5.blt; omega
            clear hO5 hW5 hX5 hK5 hBO5 hB5 hM5 hbd hk2
            go_wp2_with (at_builtin; refine stopped ?_)
            clear hlk0 hup0 e0 e1 y5
            unfold Stopped
            refine wpList_append1 _ (by rfl) _ _ 66 (by rfl) w1.heap.size 150 _ 4 32 Tryz.underlying66 i_br rfl (by omega) _ (ctN t.moms n).br.length _ (brC ((ctN t.moms n).br ++ [⟨(elt t.moms n).fn, (-1), 0, 0⟩])) (by rfl) HO.out [.int .i64 (elt t.moms n).fn, .int .i64 (-1), .int .i64 0, .int .i64 0] rfl (by simp [Value.oneCell']) (by rfl) (fun i hi j _ => (brC_snoc hi j).symm) ?hN hsl (by omega) (by omega) ?_
            case hN =>
              intro j hj
              rw [brC_last]
              match j, hj with
              | 0, _ => rfl
              | 1, _ => rfl
              | 2, _ => rfl
              | 3, _ => rfl
            intro ga cg w8 hO8 hG8 _ _
            have hmv8 : Mv [150] w.heap.size w5 w8 := (Mv.refl _ _ _).grown HB.out.size hG8 (fun b hb => by obtain ⟨N, F, hBk⟩ := HO.out.block hb; exact ⟨by have := (HO.out.lt b hb).1; omega, _, N, F, hBk, by decide⟩)
            replace HW := Lib.hid (HW.out.mv hmv8 (by decide) (by decide))
            replace HX := Lib.hid (HX.out.mv hmv8 (by decide))
            replace HK := Lib.hid (HK.out.mv hmv8)
            replace HBO := Lib.hid (HBO.out.mv hmv8)
            replace HB := Lib.hid (bl_trans3 HB.out hmv8.bl)
            clear HO hmv8 hG8
            have hl8 : (ctN t.moms n).br.length + 1 = ((ctN t.moms n).br ++ [(⟨(elt t.moms n).fn, (-1), 0, 0⟩ : PBr)]).length := by simp
            rw [hl8] at hO8 ⊢
            have HO := Lib.hid hO8
            have hbd := HBD.out
            have hkx : k1 < ((ctN t.moms n).br ++ [(⟨(elt t.moms n).fn, (-1), 0, 0⟩ : PBr)]).length := by rw [HKQ.out, ← hl8]; omega
            have hkq := HKQ.out
            have hl9 : ((ctN t.moms n).br ++ [(⟨(elt t.moms n).fn, (-1), 0, 0⟩ : PBr)]).length ≤ n + 2 := by rw [← hl8]; omega
            generalize hBR : (ctN t.moms n).br ++ [(⟨(elt t.moms n).fn, (-1), 0, 0⟩ : PBr)] = BR at HO HAD HK hbd hkx hl8 hl9 ⊢
            rw [← hkq]
            clear hO8 hkq hBR hl8 HBD
            have HE : Hid (ctN t.moms (n + 1) = ⟨brCal BR k1, (ctN t.moms n).put (stN t.moms n).cur (k1 :: (ctN t.moms n).stk (stN t.moms n).cur)⟩) := Lib.hid (by
              show ctStep _ _ _ = _
              unfold ctStep; rw [if_pos HK2.out, HPV.out, HK1.out, HAD.out])
            obtain ⟨⟨cz0, cz1⟩, -⟩ := hbd k1 hkx
            have z3 : w8.cell? ⟨ga, k1 * 4 + 2, none⟩ = some (.int .i64 (elt BR k1).cal) := HO.out.cells hkx (j := 2) (by omega)
            have z2 := HO.out.free (k1 * 4 + 2)
            have hkk : (k1 : Int) < ((BR.length : Nat) : Int) := by omega
            have HKX := Lib.hid hkx
            clear hbd hkx
            go_upto_region 23 with fail
            have hO5 := brC_cal HO.out HKX.out
            have hset := (Mv.refl [150] w.heap.size w8).setO HO.out (by omega) (by decide) (k1 * 4 + 2) (.int .i64 ((elt BR k1).cal + 1))
            have hW5 := HW.out.mv hset (by decide) (by decide)
            have hX5 := HX.out.mv hset (by decide)
            have hK5 := HK.out.mv hset
            have hBO5 := HBO.out.mv hset
            have hB5 := bl_trans3 HB.out hset.bl
            generalize hWq : World.setCell w8 _ _ = W5 at hO5 hW5 hX5 hK5 hBO5 hB5 ⊢
            obtain ⟨w6, hup, hBO6, hg6⟩ := OwM.update m_int hBO5 (x := (n : Int)) (by unfold ok64; omega) (y := (k1 : Int)) (by unfold ok64; omega) (by simp only [maxLen]; omega)
            replace hup : (Instr.mapUpdate 142 (.map (some gb)) (.int .i64 n) (.int .i64 (k1 : Nat))).run Tryz.prog W5 = .ok () w6 := hup
            have hnem := fun b' e N f' (hBk : Blk W5 b' e N f') => hBO5.ne hBk
            have hO6 := hO5.grown hg6 (fun b' hb' hh => by obtain ⟨N, F, hBk⟩ := hO5.block hb'; exact hnem _ _ _ _ hBk (Option.some.inj hh).symm)
            have hW6 := hW5.gm hg6 hnem
            have hX6 := hX5.gm hg6 (hnem _ _ _ _ hX5)
            have hK6 := hK5.kept hg6 (fun hh => HGG.out (Option.some.inj hh))
            have hB6 := bl_grown hB5 hg6 (by omega)
            clear hset hO5 hW5 hX5 hK5 hBO5 hB5 hg6 hnem hWq HO HW HX HK HBO HB z3 z2
            have HO := Lib.hid hO6
            have HW := Lib.hid hW6
            have HX := Lib.hid hX6
            have HK := Lib.hid hK6
            have HBO := Lib.hid hBO6
            have HB := Lib.hid hB6
            clear hO6 hW6 hX6 hK6 hBO6 hB6
            go_wp2_with fail
            clear hup
            refine (step_calls g _ _ _ _ _ t.moms n t.fns.length _ HW.out (HT.out.2.later HB.out) h2 HSI.out (SO.out.moms n h2) (SO.out.moves n h2)).mono ?_
            rintro e w7 ⟨rfl, ⟨f', hW7⟩, hgb7⟩
            have hmv : Mv [146] w.heap.size w6 w7 := (Mv.refl _ _ _).grown HB.out.size hgb7 (fun b hb => by cases hb; exact ⟨by have := HGS.out; omega, _, _, _, HW.out.blk, by decide⟩)
            replace HX := Lib.hid (HX.out.mv hmv (by decide))
            replace HO := Lib.hid (HO.out.mv hmv (by decide))
            replace HK := Lib.hid (HK.out.mv hmv)
            replace HBO := Lib.hid (HBO.out.mv hmv)
            replace HB := Lib.hid (bl_grown HB.out hgb7 (by have := HGS.out; omega))
            clear HW
            have HW := Lib.hid hW7
            clear hmv hW7 hgb7
            go_wp2
            go_roundw
            case measure => simp [intOf]; omega
            case rel =>
              refine ⟨n + 1, ga, cg, (kn + 1), bn + 1, setM B n (k1 : Int), closedP (stN t.moms n) (elt t.moms n), f', by omega, by go_num, by rw [HE.out]; dsimp only; rw [brCal_len], HW.out, ?_, ?_, by omega, HBO.out, by omega, ?_, HB.out, HX.out⟩
              · rw [HE.out]
                have := HO.out
                dsimp only
                rw [brCal_len] at this ⊢
                exact this
              · rw [HE.out]; dsimp only; rw [kM_cal]; exact HK.out
              · exact boOk_step HBK.out HSI.out (fun x hx => by unfold setM; rw [if_neg (by omega)]) (fun _ => by unfold setM; rw [if_pos rfl, HPV.out, HK1.out]; rfl)
        · have k1 : (elt t.moms n).kind ≠ 1 := fun hk => chk_ne (SO.out.moves n h2) (.inl hk) HTP.out
          have HK1 := Lib.hid k1
          have HK2 := Lib.hid k2
          have hd1 : ((elt t.moms n).kind == 2) = false := by simp [k2]
          have hd2 : ((elt t.moms n).kind == 1) = false := by simp [k1]
          clear k1 k2
          go_wp2_with fail
          clear y0 y2
          refine (step_calls g _ _ _ _ _ t.moms n t.fns.length _ HW.out (HT.out.2.later HB.out) h2 HSI.out (SO.out.moms n h2) (SO.out.moves n h2)).mono ?_
          rintro e w7 ⟨rfl, ⟨f', hW7⟩, hgb7⟩
          have hmv : Mv [146] w.heap.size W3 w7 := (Mv.refl _ _ _).grown HB.out.size hgb7 (fun b hb => by cases hb; exact ⟨by have := HGS.out; omega, _, _, _, HW.out.blk, by decide⟩)
          replace HX := Lib.hid (HX.out.mv hmv (by decide))
          replace HO := Lib.hid (HO.out.mv hmv (by decide))
          replace HK := Lib.hid (HK.out.mv hmv)
          replace HBO := Lib.hid (HBO.out.mv hmv)
          replace HB := Lib.hid (bl_grown HB.out hgb7 (by have := HGS.out; omega))
          clear HW
          have HW := Lib.hid hW7
          clear hmv hW7 hgb7
          go_wp2
          go_roundw
          case measure => simp [intOf]; omega
          case rel =>
            have HE : ctN t.moms (n + 1) = ⟨(ctN t.moms n).br, (ctN t.moms (n + 1)).stk⟩ := by
              show ctStep _ _ _ = CT.mk _ (ctStep _ _ _).stk
              unfold ctStep
              rw [if_neg HK2.out, if_neg HK1.out]
              split <;> rfl
            exact ⟨n + 1, bo, cap, kn, bn, B, closedP (stN t.moms n) (elt t.moms n), f', by omega, by go_num, by rw [HE], HW.out, by rw [HE]; exact HO.out, by rw [HE]; exact HK.out, by omega, HBO.out, by omega, boOk_step HBK.out HSI.out (fun _ _ => rfl) (fun hk => absurd hk HK2.out), HB.out, HX.out⟩
      | cons fr r =>
        have hl := HL.out
        rw [hL] at hl
        obtain ⟨bf, nx, rfl, hBf, -⟩ := hl
        obtain ⟨x, l, hxl, hbx⟩ := HBK.out.top hL
        have hxb : x < (ctN t.moms n).br.length := CX.out.idx _ x (by rw [hxl]; simp)
        have HPV : Hid (ctPar ((ctN t.moms n).stk (stN t.moms n).cur) = (x : Int)) := Lib.hid (by rw [hxl]; rfl)
        obtain ⟨q0, q1⟩ := HSI.out.frm _ fr (by rw [hL]; exact List.mem_cons_self)
        have hlk : (Instr.lookup 142 (.map (some gb)) (.int .i64 fr.frm) false).run Tryz.prog W3 = .ok (.int .i64 (x : Int)) W3 := by
          have := HBO.out.look m_int (x := fr.frm) (by unfold ok64; omega)
          rw [hbx] at this; exact this
        have u2 : W3.cell? ⟨bf, 2, none⟩ = some (.int .i64 fr.frm) := hBf.cell (j := 2) (by omega)
        have HXL := Lib.hid hxl
        clear hL HL hBf hbx hxl
        go_upto_region 14 with fail
        clear hlk u2
        by_cases k2 : (elt t.moms n).kind = 2
        · have hd1 : ((elt t.moms n).kind == 2) = true := by simp [k2]
          have HK2 := Lib.hid k2
          clear k2
          go_upto_region 17 with fail
          have HEB : Hid (Blk (W3.alloc _) W3.heap.size 152 2 _) := Lib.hid (Blk.made W3 #[.int .i64 (elt t.moms n).fn, .int .i64 (x : Int)] 152)
          generalize hW4 : World.alloc W3 _ = W4 at HEB ⊢
          have hbl : Below W3.heap.size W3 W4 := by rw [← hW4]; exact bl_alloc (Below.refl _ _) _
          have hlt3 : wr.heap.size < W3.heap.size := HMB.out.lt
          clear hW4 y0 y2
          replace HK := Lib.hid (HK.out.later hbl)
          replace HBO := Lib.hid (HBO.out.later hbl)
          replace HMB := Lib.hid (HMB.out.later hbl)
          replace HB := Lib.hid (bl_then HB.out hbl); replace HX := Lib.hid (HX.out.later hbl); replace HO := Lib.hid (HO.out.later hbl); replace HW := Lib.hid (HW.out.later hbl); clear hbl
          have e0 : W4.cell? ⟨W3.heap.size, 0, none⟩ = some (.int .i64 (elt t.moms n).fn) := HEB.out.cell (j := 0) (by simp)
          have e1 : W4.cell? ⟨W3.heap.size, 1, none⟩ = some (.int .i64 (x : Int)) := HEB.out.cell (j := 1) (by simp)
          have hbd := brAdd_bd (p := (x : Int)) (fn := (elt t.moms n).fn) (n := (n : Int) + 1) (by omega) CX.out.bd
          obtain ⟨k1, hk1⟩ : ∃ k1, brAt (ctN t.moms n).br (x : Int) (elt t.moms n).fn = k1 := ⟨_, rfl⟩
          have HK1 := Lib.hid hk1
          have hle := brAt_le (ctN t.moms n).br (x : Int) (elt t.moms n).fn
          rw [hk1] at hle
          have hlk0 := HK.out.lookOk m_edge (x := ((elt t.moms n).fn, (x : Int))) ⟨by unfold ok64; omega, by unfold ok64; omega⟩
          have hkm : kM (ctN t.moms n).br ((elt t.moms n).fn, (x : Int)) = if k1 < (ctN t.moms n).br.length then some (k1 : Int) else none := by unfold kM; rw [hk1]
          rw [hkm] at hlk0
          clear hkm
          by_cases hh : k1 < (ctN t.moms n).br.length
          · rw [if_pos hh] at hlk0
            replace hlk0 : (Instr.lookup 153 (.map (some gk)) (.agg #[.int .i64 (elt t.moms n).fn, .int .i64 (x : Int)]) true).run Tryz.prog W4 = .ok (.tuple #[.int .i64 (k1 : Nat), .bool true]) W4 := hlk0
            have had : brAdd (ctN t.moms n).br (x : Int) (elt t.moms n).fn = (ctN t.moms n).br := brAdd_hit (by rw [hk1]; exact hh)
            have HAD := Lib.hid had
            rw [had] at hbd
            have hkx := hh
            clear had hk1 hh
            go_upto_region 22 with fail
            clear hlk0 e0 e1
            have HE : Hid (ctN t.moms (n + 1) = ⟨brCal (ctN t.moms n).br k1, (ctN t.moms n).put (stN t.moms n).cur (k1 :: (ctN t.moms n).stk (stN t.moms n).cur)⟩) := Lib.hid (by
              show ctStep _ _ _ = _
              unfold ctStep; rw [if_pos HK2.out, HPV.out, HK1.out, HAD.out])
            obtain ⟨⟨cz0, cz1⟩, -⟩ := hbd k1 hkx
            have z3 : W4.cell? ⟨bo, k1 * 4 + 2, none⟩ = some (.int .i64 (elt (ctN t.moms n).br k1).cal) := HO.out.cells hkx (j := 2) (by omega)
            have z2 := HO.out.free (k1 * 4 + 2)
            have hkk : (k1 : Int) < (((ctN t.moms n).br.length : Nat) : Int) := by omega
            have HKX := Lib.hid hkx
            clear hbd hkx
            go_upto_region 23 with fail
            have hO5 := brC_cal HO.out HKX.out
            have hset := (Mv.refl [150] w.heap.size W4).setO HO.out (by omega) (by decide) (k1 * 4 + 2) (.int .i64 ((elt (ctN t.moms n).br k1).cal + 1))
            have hW5 := HW.out.mv hset (by decide) (by decide)
            have hX5 := HX.out.mv hset (by decide)
            have hK5 := HK.out.mv hset
            have hBO5 := HBO.out.mv hset
            have hB5 := bl_trans3 HB.out hset.bl
            generalize hWq : World.setCell W4 _ _ = W5 at hO5 hW5 hX5 hK5 hBO5 hB5 ⊢
            obtain ⟨w6, hup, hBO6, hg6⟩ := OwM.update m_int hBO5 (x := (n : Int)) (by unfold ok64; omega) (y := (k1 : Int)) (by unfold ok64; omega) (by simp only [maxLen]; omega)
            replace hup : (Instr.mapUpdate 142 (.map (some gb)) (.int .i64 n) (.int .i64 (k1 : Nat))).run Tryz.prog W5 = .ok () w6 := hup
            have hnem := fun b' e N f' (hBk : Blk W5 b' e N f') => hBO5.ne hBk
            have hO6 := hO5.grown hg6 (fun b' hb' hh => by obtain ⟨N, F, hBk⟩ := hO5.block hb'; exact hnem _ _ _ _ hBk (Option.some.inj hh).symm)
            have hW6 := hW5.gm hg6 hnem
            have hX6 := hX5.gm hg6 (hnem _ _ _ _ hX5)
            have hK6 := hK5.kept hg6 (fun hh => HGG.out (Option.some.inj hh))
            have hB6 := bl_grown hB5 hg6 (by omega)
            clear hset hO5 hW5 hX5 hK5 hBO5 hB5 hg6 hnem hWq HO HW HX HK HBO HB z3 z2
            have HO := Lib.hid hO6
            have HW := Lib.hid hW6
            have HX := Lib.hid hX6
            have HK := Lib.hid hK6
            have HBO := Lib.hid hBO6
            have HB := Lib.hid hB6
            clear hO6 hW6 hX6 hK6 hBO6 hB6
            go_wp2_with fail
            clear hup
            refine (step_calls g _ _ _ _ _ t.moms n t.fns.length _ HW.out (HT.out.2.later HB.out) h2 HSI.out (SO.out.moms n h2) (SO.out.moves n h2)).mono ?_
            rintro e w7 ⟨rfl, ⟨f', hW7⟩, hgb7⟩
            have hmv : Mv [146] w.heap.size w6 w7 := (Mv.refl _ _ _).grown HB.out.size hgb7 (fun b hb => by cases hb; exact ⟨by have := HGS.out; omega, _, _, _, HW.out.blk, by decide⟩)
            replace HX := Lib.hid (HX.out.mv hmv (by decide))
            replace HO := Lib.hid (HO.out.mv hmv (by decide))
            replace HK := Lib.hid (HK.out.mv hmv)
            replace HBO := Lib.hid (HBO.out.mv hmv)
            replace HB := Lib.hid (bl_grown HB.out hgb7 (by have := HGS.out; omega))
            clear HW
            have HW := Lib.hid hW7
            clear hmv hW7 hgb7
            go_wp2
            go_roundw
            case measure => simp [intOf]; omega
            case rel =>
              refine ⟨n + 1, bo, cap, kn, bn + 1, setM B n (k1 : Int), closedP (stN t.moms n) (elt t.moms n), f', by omega, by go_num, by rw [HE.out]; dsimp only; rw [brCal_len], HW.out, ?_, ?_, by omega, HBO.out, by omega, ?_, HB.out, HX.out⟩
              · rw [HE.out]
                have := HO.out
                dsimp only
                rw [brCal_len] at this ⊢
                exact this
              · rw [HE.out]; dsimp only; rw [kM_cal]; exact HK.out
              · exact boOk_step HBK.out HSI.out (fun x hx => by unfold setM; rw [if_neg (by omega)]) (fun _ => by unfold setM; rw [if_pos rfl, HPV.out, HK1.out]; rfl)
          · have hk2 : k1 = (ctN t.moms n).br.length := by omega
            rw [if_neg hh] at hlk0
            replace hlk0 : (Instr.lookup 153 (.map (some gk)) (.agg #[.int .i64 (elt t.moms n).fn, .int .i64 (x : Int)]) true).run Tryz.prog W4 = .ok (.tuple #[.int .i64 0, .bool false]) W4 := hlk0
            have had : brAdd (ctN t.moms n).br (x : Int) (elt t.moms n).fn = (ctN t.moms n).br ++ [⟨(elt t.moms n).fn, (x : Int), 0, 0⟩] := brAdd_miss (by rw [hk1]; exact hk2)
            have HAD := Lib.hid had
            rw [had] at hbd
            obtain ⟨w5, hup0, hK5, hg5⟩ := OwM.update m_edge HK.out (x := ((elt t.moms n).fn, (x : Int))) ⟨by unfold ok64; omega, by unfold ok64; omega⟩ (y := ((ctN t.moms n).br.length : Int)) (by unfold ok64; omega) (by simp only [maxLen]; omega)
            replace hup0 : (Instr.mapUpdate 153 (.map (some gk)) (.agg #[.int .i64 (elt t.moms n).fn, .int .i64 (x : Int)]) (.int .i64 ((ctN t.moms n).br.length : Nat))).run Tryz.prog W4 = .ok () w5 := hup0
            replace hK5 := hK5.congr fun x _ => kM_add _ _ _ (by rw [hk1]; exact hk2) x
            have hnem := fun b' e N f' (hBk : Blk W4 b' e N f') => HK.out.ne hBk
            have hO5 := HO.out.grown hg5 (fun b' hb' hh => by obtain ⟨N, F, hBk⟩ := HO.out.block hb'; exact hnem _ _ _ _ hBk (Option.some.inj hh).symm)
            have hW5 := HW.out.gm hg5 hnem
            have hX5 := HX.out.gm hg5 (hnem _ _ _ _ HX.out)
            have hM5 := HMB.out.gm hg5 (hnem _ _ _ _ HMB.out)
            have hBO5 := HBO.out.kept hg5 (fun hh => HGG.out (Option.some.inj hh).symm)
            have hB5 := bl_grown HB.out hg5 (by omega)
            clear had hk1 hh hg5 hnem HO HW HX HMB HBO HB HK hle HEB
            have HO := Lib.hid hO5
            have HW := Lib.hid hW5
            have HX := Lib.hid hX5
            have HK := Lib.hid hK5
            have HBO := Lib.hid hBO5
            have HB := Lib.hid hB5
            have y5 : w5.cell? ⟨wr.heap.size, 2, none⟩ = some (.int .i64 (elt t.moms n).fn) := hM5.cell (j := 2) (by omega)
            have HBD := Lib.hid hbd
            have HKQ := Lib.hid hk2
            have hsl : w1.heap.size ≤ w5.heap.size := by have := hO5.blt; omega
            clear hO5 hW5 hX5 hK5 hBO5 hB5 hM5 hbd hk2
            go_wp2_with (at_builtin; refine stopped ?_)
            clear hlk0 hup0 e0 e1 y5
            unfold Stopped
            refine wpList_append1 _ (by rfl) _ _ 66 (by rfl) w1.heap.size 150 _ 4 32 Tryz.underlying66 i_br rfl (by omega) _ (ctN t.moms n).br.length _ (brC ((ctN t.moms n).br ++ [⟨(elt t.moms n).fn, (x : Int), 0, 0⟩])) (by rfl) HO.out [.int .i64 (elt t.moms n).fn, .int .i64 (x : Int), .int .i64 0, .int .i64 0] rfl (by simp [Value.oneCell']) (by rfl) (fun i hi j _ => (brC_snoc hi j).symm) ?hN hsl (by omega) (by omega) ?_
            case hN =>
              intro j hj
              rw [brC_last]
              match j, hj with
              | 0, _ => rfl
              | 1, _ => rfl
              | 2, _ => rfl
              | 3, _ => rfl
            intro ga cg w8 hO8 hG8 _ _
            have hmv8 : Mv [150] w.heap.size w5 w8 := (Mv.refl _ _ _).grown HB.out.size hG8 (fun b hb => by obtain ⟨N, F, hBk⟩ := HO.out.block hb; exact ⟨by have := (HO.out.lt b hb).1; omega, _, N, F, hBk, by decide⟩)
            replace HW := Lib.hid (HW.out.mv hmv8 (by decide) (by decide))
            replace HX := Lib.hid (HX.out.mv hmv8 (by decide))
            replace HK := Lib.hid (HK.out.mv hmv8)
            replace HBO := Lib.hid (HBO.out.mv hmv8)
            replace HB := Lib.hid (bl_trans3 HB.out hmv8.bl)
            clear HO hmv8 hG8
            have hl8 : (ctN t.moms n).br.length + 1 = ((ctN t.moms n).br ++ [(⟨(elt t.moms n).fn, (x : Int), 0, 0⟩ : PBr)]).length := by simp
            rw [hl8] at hO8 ⊢
            have HO := Lib.hid hO8
            have hbd := HBD.out
            have hkx : k1 < ((ctN t.moms n).br ++ [(⟨(elt t.moms n).fn, (x : Int), 0, 0⟩ : PBr)]).length := by rw [HKQ.out, ← hl8]; omega
            have hkq := HKQ.out
            have hl9 : ((ctN t.moms n).br ++ [(⟨(elt t.moms n).fn, (x : Int), 0, 0⟩ : PBr)]).length ≤ n + 2 := by rw [← hl8]; omega
            generalize hBR : (ctN t.moms n).br ++ [(⟨(elt t.moms n).fn, (x : Int), 0, 0⟩ : PBr)] = BR at HO HAD HK hbd hkx hl8 hl9 ⊢
            rw [← hkq]
            clear hO8 hkq hBR hl8 HBD
            have HE : Hid (ctN t.moms (n + 1) = ⟨brCal BR k1, (ctN t.moms n).put (stN t.moms n).cur (k1 :: (ctN t.moms n).stk (stN t.moms n).cur)⟩) := Lib.hid (by
              show ctStep _ _ _ = _
              unfold ctStep; rw [if_pos HK2.out, HPV.out, HK1.out, HAD.out])
            obtain ⟨⟨cz0, cz1⟩, -⟩ := hbd k1 hkx
            have z3 : w8.cell? ⟨ga, k1 * 4 + 2, none⟩ = some (.int .i64 (elt BR k1).cal) := HO.out.cells hkx (j := 2) (by omega)
            have z2 := HO.out.free (k1 * 4 + 2)
            have hkk : (k1 : Int) < ((BR.length : Nat) : Int) := by omega
            have HKX := Lib.hid hkx
            clear hbd hkx
            go_upto_region 23 with fail
            have hO5 := brC_cal HO.out HKX.out
            have hset := (Mv.refl [150] w.heap.size w8).setO HO.out (by omega) (by decide) (k1 * 4 + 2) (.int .i64 ((elt BR k1).cal + 1))
            have hW5 := HW.out.mv hset (by decide) (by decide)
            have hX5 := HX.out.mv hset (by decide)
            have hK5 := HK.out.mv hset
            have hBO5 := HBO.out.mv hset
            have hB5 := bl_trans3 HB.out hset.bl
            generalize hWq : World.setCell w8 _ _ = W5 at hO5 hW5 hX5 hK5 hBO5 hB5 ⊢
            obtain ⟨w6, hup, hBO6, hg6⟩ := OwM.update m_int hBO5 (x := (n : Int)) (by unfold ok64; omega) (y := (k1 : Int)) (by unfold ok64; omega) (by simp only [maxLen]; omega)
            replace hup : (Instr.mapUpdate 142 (.map (some gb)) (.int .i64 n) (.int .i64 (k1 : Nat))).run Tryz.prog W5 = .ok () w6 := hup
            have hnem := fun b' e N f' (hBk : Blk W5 b' e N f') => hBO5.ne hBk
            have hO6 := hO5.grown hg6 (fun b' hb' hh => by obtain ⟨N, F, hBk⟩ := hO5.block hb'; exact hnem _ _ _ _ hBk (Option.some.inj hh).symm)
            have hW6 := hW5.gm hg6 hnem
            have hX6 := hX5.gm hg6 (hnem _ _ _ _ hX5)
            have hK6 := hK5.kept hg6 (fun hh => HGG.out (Option.some.inj hh))
            have hB6 := bl_grown hB5 hg6 (by omega)
            clear hset hO5 hW5 hX5 hK5 hBO5 hB5 hg6 hnem hWq HO HW HX HK HBO HB z3 z2
            have HO := Lib.hid hO6
            have HW := Lib.hid hW6
            have HX := Lib.hid hX6
            have HK := Lib.hid hK6
            have HBO := Lib.hid hBO6
            have HB := Lib.hid hB6
            clear hO6 hW6 hX6 hK6 hBO6 hB6
            go_wp2_with fail
            clear hup
            refine (step_calls g _ _ _ _ _ t.moms n t.fns.length _ HW.out (HT.out.2.later HB.out) h2 HSI.out (SO.out.moms n h2) (SO.out.moves n h2)).mono ?_
            rintro e w7 ⟨rfl, ⟨f', hW7⟩, hgb7⟩
            have hmv : Mv [146] w.heap.size w6 w7 := (Mv.refl _ _ _).grown HB.out.size hgb7 (fun b hb => by cases hb; exact ⟨by have := HGS.out; omega, _, _, _, HW.out.blk, by decide⟩)
            replace HX := Lib.hid (HX.out.mv hmv (by decide))
            replace HO := Lib.hid (HO.out.mv hmv (by decide))
            replace HK := Lib.hid (HK.out.mv hmv)
            replace HBO := Lib.hid (HBO.out.mv hmv)
            replace HB := Lib.hid (bl_grown HB.out hgb7 (by have := HGS.out; omega))
            clear HW
            have HW := Lib.hid hW7
            clear hmv hW7 hgb7
            go_wp2
            go_roundw
            case measure => simp [intOf]; omega
            case rel =>
              refine ⟨n + 1, ga, cg, (kn + 1), bn + 1, setM B n (k1 : Int), closedP (stN t.moms n) (elt t.moms n), f', by omega, by go_num, by rw [HE.out]; dsimp only; rw [brCal_len], HW.out, ?_, ?_, by omega, HBO.out, by omega, ?_, HB.out, HX.out⟩
              · rw [HE.out]
                have := HO.out
                dsimp only
                rw [brCal_len] at this ⊢
                exact this
              · rw [HE.out]; dsimp only; rw [kM_cal]; exact HK.out
              · exact boOk_step HBK.out HSI.out (fun x hx => by unfold setM; rw [if_neg (by omega)]) (fun _ => by unfold setM; rw [if_pos rfl, HPV.out, HK1.out]; rfl)
        · by_cases k1 : (elt t.moms n).kind = 1
          · have HK1 := Lib.hid k1
            have HK2 := Lib.hid k2
            have hd1 : ((elt t.moms n).kind == 2) = false := by simp [k2]
            have hd2 : ((elt t.moms n).kind == 1) = true := by simp [k1]
            have hxi : (x : Int) < ((ctN t.moms n).br.length : Int) := by omega
            obtain ⟨-, cs0, cs1⟩ := CX.out.bd x hxb
            have z3 : W3.cell? ⟨bo, x * 4 + 3, none⟩ = some (.int .i64 (elt (ctN t.moms n).br x).slf) := HO.out.cells hxb (j := 3) (by omega)
            have z2 := HO.out.free (x * 4 + 3)
            clear k1 k2
            go_upto_region 26 with fail
            have hO5 := brC_slf HO.out hxb
            have hset := (Mv.refl [150] w.heap.size W3).setO HO.out (by omega) (by decide) (x * 4 + 3) (.int .i64 ((elt (ctN t.moms n).br x).slf + 1))
            have hW5 := HW.out.mv hset (by decide) (by decide)
            have hX5 := HX.out.mv hset (by decide)
            have hK5 := HK.out.mv hset
            have hBO5 := HBO.out.mv hset
            have hB5 := bl_trans3 HB.out hset.bl
            generalize hWq : World.setCell W3 _ _ = W5 at hO5 hW5 hX5 hK5 hBO5 hB5 ⊢
            clear hset hWq HO HW HX HK HBO HB z3 z2 y0 y2
            have HO := Lib.hid hO5
            have HW := Lib.hid hW5
            have HX := Lib.hid hX5
            have HK := Lib.hid hK5
            have HBO := Lib.hid hBO5
            have HB := Lib.hid hB5
            clear hO5 hW5 hX5 hK5 hBO5 hB5
            go_wp2_with fail
            refine (step_calls g _ _ _ _ _ t.moms n t.fns.length _ HW.out (HT.out.2.later HB.out) h2 HSI.out (SO.out.moms n h2) (SO.out.moves n h2)).mono ?_
            rintro e w7 ⟨rfl, ⟨f', hW7⟩, hgb7⟩
            have hmv : Mv [146] w.heap.size W5 w7 := (Mv.refl _ _ _).grown HB.out.size hgb7 (fun b hb => by cases hb; exact ⟨by have := HGS.out; omega, _, _, _, HW.out.blk, by decide⟩)
            replace HX := Lib.hid (HX.out.mv hmv (by decide))
            replace HO := Lib.hid (HO.out.mv hmv (by decide))
            replace HK := Lib.hid (HK.out.mv hmv)
            replace HBO := Lib.hid (HBO.out.mv hmv)
            replace HB := Lib.hid (bl_grown HB.out hgb7 (by have := HGS.out; omega))
            clear HW
            have HW := Lib.hid hW7
            clear hmv hW7 hgb7
            go_wp2
            go_roundw
            case measure => simp [intOf]; omega
            case rel =>
              have HE : ctN t.moms (n + 1) = ⟨brSlf (ctN t.moms n).br x, (ctN t.moms n).stk⟩ := by
                show ctStep _ _ _ = _
                unfold ctStep
                rw [if_neg HK2.out, if_neg (by rw [HK1.out]; decide), if_pos HK1.out, HXL.out]; rfl
              refine ⟨n + 1, bo, cap, kn, bn, B, closedP (stN t.moms n) (elt t.moms n), f', by omega, by go_num, by rw [HE]; dsimp only; rw [brSlf_len], HW.out, ?_, ?_, by omega, HBO.out, by omega, boOk_step HBK.out HSI.out (fun _ _ => rfl) (fun hk => absurd hk HK2.out), HB.out, HX.out⟩
              · rw [HE]
                have := HO.out
                dsimp only
                rw [brSlf_len] at this ⊢
                exact this
              · rw [HE]; dsimp only; rw [kM_slf]; exact HK.out
          · have HK1 := Lib.hid k1
            have HK2 := Lib.hid k2
            have hd1 : ((elt t.moms n).kind == 2) = false := by simp [k2]
            have hd2 : ((elt t.moms n).kind == 1) = false := by simp [k1]
            clear k1 k2
            go_wp2_with fail
            clear y0 y2
            refine (step_calls g _ _ _ _ _ t.moms n t.fns.length _ HW.out (HT.out.2.later HB.out) h2 HSI.out (SO.out.moms n h2) (SO.out.moves n h2)).mono ?_
            rintro e w7 ⟨rfl, ⟨f', hW7⟩, hgb7⟩
            have hmv : Mv [146] w.heap.size W3 w7 := (Mv.refl _ _ _).grown HB.out.size hgb7 (fun b hb => by cases hb; exact ⟨by have := HGS.out; omega, _, _, _, HW.out.blk, by decide⟩)
            replace HX := Lib.hid (HX.out.mv hmv (by decide))
            replace HO := Lib.hid (HO.out.mv hmv (by decide))
            replace HK := Lib.hid (HK.out.mv hmv)
            replace HBO := Lib.hid (HBO.out.mv hmv)
            replace HB := Lib.hid (bl_grown HB.out hgb7 (by have := HGS.out; omega))
            clear HW
            have HW := Lib.hid hW7
            clear hmv hW7 hgb7
            go_wp2
            go_roundw
            case measure => simp [intOf]; omega
            case rel =>
              have HE : ctN t.moms (n + 1) = ⟨(ctN t.moms n).br, (ctN t.moms (n + 1)).stk⟩ := by
                show ctStep _ _ _ = CT.mk _ (ctStep _ _ _).stk
                unfold ctStep
                rw [if_neg HK2.out, if_neg HK1.out]
                split <;> rfl
              exact ⟨n + 1, bo, cap, kn, bn, B, closedP (stN t.moms n) (elt t.moms n), f', by omega, by go_num, by rw [HE], HW.out, by rw [HE]; exact HO.out, by rw [HE]; exact HK.out, by omega, HBO.out, by omega, boOk_step HBK.out HSI.out (fun _ _ => rfl) (fun hk => absurd hk HK2.out), HB.out, HX.out⟩
    · obtain rfl : n = t.moms.length := by omega
      go_wp2
      go_ret
      refine ⟨_, rfl, ?_, HB.out⟩
      rw [HR.out]
      exact HO.out.lower (Nat.le_of_lt hw1)
theorem impl_CallTree_calls (v1 v2 : Value) (t : PTr) (w : World) (h : RdTr w v1 v2 t) (hsm : smTr t) :
    Calls Tryz.prog 30 #[.agg #[v1, v2]] w (OwRet w 150 4 (ctP t).length (brC (ctP t))) := by
  cases hs : soundP t with
  | false => exact impl_CallTree_bad v1 v2 t w h hsm hs
  | true => exact impl_CallTree_good v1 v2 t w h hsm hs
end Go.Proofs.YtcklnjjbhngbcaaGreatDoor
