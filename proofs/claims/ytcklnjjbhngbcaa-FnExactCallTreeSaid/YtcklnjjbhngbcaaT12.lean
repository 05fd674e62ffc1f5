/- The specification's FnCounts. -/
import Derived.Test.YtcklnjjbhngbcaaT9
import Derived.Test.YtcklnjjbhngbcaaB6
import Derived.Test.YtcklnjjbhngbcaaF0
namespace Go.Proofs.Ytcklnjjbhngbcaa
open Go.RowKit Go.Proofs.Lens

theorem IsS.mv {w w' : World} {lo lo' g T : Nat} {s : PS} {f : Nat → Value} {ts : List TypeId} (h : IsS w lo g T s f) (hm : Mv ts lo' w w') (h1 : 130 ∉ ts) (h2 : 56 ∉ ts) (h3 : 59 ∉ ts) : IsS w' lo g T s f :=
  ⟨h.lo1, h.lo2, h.blk.mv hm h1, h.tb.mv hm h2, fun i hi => (h.row i hi).mv hm h3, h.ne⟩
/-- The types of the blocks that the specification's FnCounts turns. -/
def fcTys : List TypeId := [130, 56, 59, 50, 4]

set_option maxRecDepth 100000 in
set_option maxHeartbeats 2000000 in
theorem spec_FnCounts_bad (v1 v2 : Value) (t : PTr) (w : World) (h : RdTr w v1 v2 t) (hsm : smTr t) (hs : soundP t = false) :
    Calls Try.prog 63 #[.agg #[v1, v2]] w (OwRet w 50 4 (fcP t).length (fcRow (fcP t))) := by
  have HT := Lib.hid h
  have HS := Lib.hid hsm
  obtain ⟨⟨A1, c1, rfl, hn1, -⟩, ⟨vv, ⟨A2, c2, rfl, hn2, -⟩, -⟩⟩ := h
  have HR : Hid (fcP t = []) := Lib.hid (by unfold fcP; rw [hs]; rfl)
  have HQ := Lib.hid hs
  clear hs hsm
  go_enter Try.func63, Try.ntmps63
  go_wp2_with fail
  refine (l1ok_is _ _ t _ (HT.out.later (by repeat (with_reducible first | exact Below.refl _ _ | exact HL.out | refine bl_drewN ?_ _ | refine bl_drew ?_ | refine bl_alloc ?_ _ | refine bl_set ?_ (by dsimp only; omega) _))) HS.out HQ.out).mono ?_; rintro e w1 ⟨rfl, hb⟩
  have HB := Lib.hid (bl_then (bl_alloc (Below.refl _ w) _) hb)
  clear hb
  go_wp2
  go_ret
  rw [HR.out]
  exact ⟨_, rfl, OwR.nil, HB.out⟩

set_option maxRecDepth 100000 in
set_option maxHeartbeats 8000000 in
theorem spec_FnCounts_good (v1 v2 : Value) (t : PTr) (w : World) (h : RdTr w v1 v2 t) (hsm : smTr t) (hs : soundP t = true) :
    Calls Try.prog 63 #[.agg #[v1, v2]] w (OwRet w 50 4 (fcP t).length (fcRow (fcP t))) := by
  have HT := Lib.hid h
  have HS := Lib.hid hsm
  obtain ⟨⟨A1, c1, rfl, hn1, -⟩, ⟨vv, ⟨A2, c2, rfl, hn2, -⟩, -⟩⟩ := h
  have HR : Hid (fcP t = fcList (fcN t.moms t.moms.length) t.fns.length) := Lib.hid (by unfold fcP; rw [hs]; rfl)
  have HQ := Lib.hid hs
  have hso := sound_iff hs
  obtain ⟨nf0, nf1, nm1⟩ := sound_fns hso
  have SO := Lib.hid hso
  obtain ⟨C, hC, hc, hmk⟩ := make_law (P := Try.prog) 45 50 Try.underlying45 i_fc t.fns.length (by omega) (by omega)
  obtain ⟨D, hD, hd, hmk2⟩ := make_law (P := Try.prog) 101 4 Try.underlying101 i_bool t.fns.length (by omega) (by omega)
  have HC := Lib.hid hC
  have Hc := Lib.hid hc
  have HD := Lib.hid hD
  have Hd := Lib.hid hd
  clear hs hsm hso hC hc hD hd
  go_enter Try.func63, Try.ntmps63
  go_wp2_with fail
  refine (l1ok_is _ _ t _ (HT.out.later (by repeat (with_reducible first | exact Below.refl _ _ | exact HL.out | refine bl_drewN ?_ _ | refine bl_drew ?_ | refine bl_alloc ?_ _ | refine bl_set ?_ (by dsimp only; omega) _))) HS.out HQ.out).mono ?_; rintro e w1 ⟨rfl, hb⟩
  have HX := Lib.hid ((Blk.made w #[.slice A1 t.fns.length c1, .slice A2 t.moms.length c2] 35).later hb)
  have HM := Lib.hid (Mv.then (ts := fcTys) ((Mv.refl _ _ w).alloc (Nat.le_refl _) _) (by simp) hb)
  have hw1 : w.heap.size < w1.heap.size := HX.out.lt
  clear hb
  have x0 : w1.cell? ⟨w.heap.size, 0, none⟩ = some (.slice A1 t.fns.length c1) := HX.out.cell (j := 0) (by simp)
  go_wp2_with fail
  clear x0
  go_loopw [20] (fun i wr => ∃ q : Nat, q ≤ t.fns.length ∧ i = .int .i64 q ∧ OwR wr w1.heap.size 50 4 t.fns.length (fcI q) (.slice (some ⟨w1.heap.size, 0, none⟩) t.fns.length t.fns.length) ∧ Mv fcTys w.heap.size w wr ∧
    Blk wr w.heap.size 35 2 (fun j => #[Value.slice A1 t.fns.length c1, .slice A2 t.moms.length c2].getD j undef)) (fun i _ => t.fns.length - (intOf i).toNat)
  case atStart =>
    exact ⟨0, Nat.zero_le _, rfl, OwR.made HC.out Hc.out (by rfl) (by simp only [maxLen]; omega) _ (fun i hi j hj => by match j, hj with | 0, _ => rfl | 1, _ => rfl | 2, _ => rfl | 3, _ => rfl), HM.out.alloc HM.out.size _, HX.out.alloc _⟩
  case round =>
    obtain ⟨q, hq, rfl, hO, hM, hX⟩ := hrel
    clear HM HX
    have HO := Lib.hid hO
    have HM := Lib.hid hM
    have HX := Lib.hid hX
    clear hO hM hX
    by_cases hlt : q < t.fns.length
    · have x1 := HO.out.cells hlt (j := 0) (by omega)
      have x2 := HO.out.free (q * 4)
      have hlt' : (q : Int) < (t.fns.length : Int) := by omega
      simp only [Nat.add_zero] at x1
      go_wp2
      go_roundw
      case rel => exact ⟨q + 1, by omega, by go_num, fcI_set HO.out hlt, HM.out.setO HO.out (Nat.le_of_lt hw1) (by decide) _ _, HX.out.far (by dsimp only; omega) _⟩
      case measure => simp [intOf]; omega
    · obtain rfl : q = t.fns.length := by omega
      have x1 := HO.out.cells nf0 (j := 1) (by omega)
      have x2 := HO.out.free 1
      simp only [Nat.zero_mul, Nat.zero_add] at x1
      go_wp2_with fail
      refine (l1begin_calls _).mono ?_; rintro e w2 ⟨g, T, f, rfl, hS, hb⟩
      have hM := HM.out.setO HO.out (Nat.le_of_lt hw1) (by decide) 1 (.int .i64 1)
      have HO2 := Lib.hid ((fcI_end HO.out nf0).later hb)
      have HX2 := Lib.hid ((HX.out.far (p := ⟨w1.heap.size, 1, none⟩) (by dsimp only; omega) (.int .i64 1)).later hb)
      have HS2 := Lib.hid (hS.lower (lo' := w.heap.size) hM.size)
      have HM2 := Lib.hid (hM.then hM.size hb)
      clear hM hS hb x1 x2 HO HX HM
      have x1 : w2.cell? ⟨w.heap.size, 1, none⟩ = some (.slice A2 t.moms.length c2) := HX2.out.cell (j := 1) (by simp)
      go_wp2_with fail
      clear x1
      go_loopw [36] (fun i wr => ∃ (n : Nat) (f : Nat → Value), n ≤ t.moms.length ∧ i = .int .i64 n ∧ IsS wr w.heap.size g T (stN t.moms n) f ∧
        OwR wr w1.heap.size 50 4 t.fns.length (fcC (fcN t.moms n)) (.slice (some ⟨w1.heap.size, 0, none⟩) t.fns.length t.fns.length) ∧ Mv fcTys w.heap.size w wr ∧
        Blk wr w.heap.size 35 2 (fun j => #[Value.slice A1 t.fns.length c1, .slice A2 t.moms.length c2].getD j undef)) (fun i _ => t.moms.length - (intOf i).toNat)
      case atStart => exact ⟨0, f, Nat.zero_le _, rfl, HS2.out, HO2.out, HM2.out, HX2.out⟩
      case round =>
        obtain ⟨n, f, hn, rfl, hS, hO, hM, hX⟩ := hrel
        clear HS2 HO2 HM2 HX2
        have HSS := Lib.hid hS
        have HO := Lib.hid hO
        have HM := Lib.hid hM
        have HX := Lib.hid hX
        clear hS hO hM hX
        by_cases h2 : n < t.moms.length
        · obtain ⟨b, o, vk, hA, d0, d1, d2, d3, d4, d5, hvk⟩ := rd_moment (HT.out.2.later HM.out.bl) h2
          obtain ⟨Av, cv, rfl, -⟩ := hvk
          subst hA
          have hlo := HM.out.size
          have hbd := fcN_bd t.moms n (elt t.moms n).fn.toNat
          obtain ⟨b1, b2, b3⟩ := hbd
          have hfn := mom_fn (SO.out.moms n h2)
          go_upto_region 14 with fail
          have HMB : Hid (Blk (wr.alloc _) wr.heap.size 38 6 _) := Lib.hid (Blk.made wr #[.int .i64 (elt t.moms n).kind, .int .i64 (elt t.moms n).task, .int .i64 (elt t.moms n).fn, .int .i64 (elt t.moms n).line, .string (elt t.moms n).text, .slice Av (elt t.moms n).vars.length cv] 38)
          generalize hW2 : World.alloc wr _ = W2 at HMB ⊢
          have hbl : Below wr.heap.size wr W2 := by rw [← hW2]; exact bl_alloc (Below.refl _ _) _
          have hmb : w.heap.size < wr.heap.size := HX.out.lt
          clear hW2 d0 d1 d2 d3 d4 d5
          have y0 : W2.cell? ⟨wr.heap.size, 0, none⟩ = some (.int .i64 (elt t.moms n).kind) := HMB.out.cell (j := 0) (by omega)
          have y1 : W2.cell? ⟨wr.heap.size, 1, none⟩ = some (.int .i64 (elt t.moms n).task) := HMB.out.cell (j := 1) (by omega)
          have y2 : W2.cell? ⟨wr.heap.size, 2, none⟩ = some (.int .i64 (elt t.moms n).fn) := HMB.out.cell (j := 2) (by omega)
          have y3 : W2.cell? ⟨wr.heap.size, 3, none⟩ = some (.int .i64 (elt t.moms n).line) := HMB.out.cell (j := 3) (by omega)
          have y4 : W2.cell? ⟨wr.heap.size, 4, none⟩ = some (.string (elt t.moms n).text) := HMB.out.cell (j := 4) (by omega)
          have y5 : W2.cell? ⟨wr.heap.size, 5, none⟩ = some (.slice Av (elt t.moms n).vars.length cv) := HMB.out.cell (j := 5) (by omega)
          have HI := Lib.hid (SO.out.inv n hn)
          replace HM := Lib.hid (HM.out.then HM.out.size hbl)
          replace HX := Lib.hid (HX.out.later hbl)
          replace HO := Lib.hid (HO.out.later hbl)
          replace HSS := Lib.hid (HSS.out.later hbl)
          clear hbl
          go_wp2_with fail
          refine (move_calls _ g T _ _ (elt t.moms n) _ _ _ n n _ HSS.out HI.out).mono ?_
          rintro e w3 ⟨rfl, hmv, hst⟩
          obtain ⟨f', hS'⟩ := hst (SO.out.moves n h2)
          replace hS' : IsS w3 w.heap.size g T (stN t.moms (n + 1)) f' := hS'
          clear HSS
          have HSS := Lib.hid hS'
          replace HMB := Lib.hid (HMB.out.mv hmv (by decide))
          replace HX := Lib.hid (HX.out.mv hmv (by decide))
          replace HO := Lib.hid (HO.out.mv hmv (by decide))
          replace HM := Lib.hid (HM.out.trans (hmv.mono (by decide)))
          clear hmv hst hS' y0 y1 y2 y3 y4 y5
          have y0 : w3.cell? ⟨wr.heap.size, 0, none⟩ = some (.int .i64 (elt t.moms n).kind) := HMB.out.cell (j := 0) (by omega)
          have y2 : w3.cell? ⟨wr.heap.size, 2, none⟩ = some (.int .i64 (elt t.moms n).fn) := HMB.out.cell (j := 2) (by omega)
          obtain ⟨fq, hfq⟩ : ∃ fq : Nat, (elt t.moms n).fn = (fq : Int) := ⟨(elt t.moms n).fn.toNat, by omega⟩
          have HFQ := Lib.hid hfq
          have hfq1 : (elt t.moms n).fn.toNat < t.fns.length := by omega
          have hfq2 : (elt t.moms n).fn < (t.fns.length : Int) := by omega
          by_cases k2 : (elt t.moms n).kind = 2
          · have hd1 : ((elt t.moms n).kind == 2) = true := by simp [k2]
            have hd2 : ((elt t.moms n).kind != 1) = true := by simp [k2]
            have HK2 := Lib.hid k2
            have z1 := HO.out.cells hfq1 (j := 1) (by omega)
            have z2 := HO.out.free ((elt t.moms n).fn.toNat * 4 + 1)
            have z3 : w3.cell? ⟨w1.heap.size, (elt t.moms n).fn.toNat * 4 + 1, none⟩ = some (.int .i64 ((fcN t.moms n).cal (elt t.moms n).fn.toNat)) := z1
            clear k2 hfq z1
            go_wp2
            go_roundw
            case rel =>
              refine ⟨n + 1, f', by omega, by go_num, ?_, ?_, HM.out.setO HO.out (Nat.le_of_lt hw1) (by decide) _ _, HX.out.far (by dsimp only; omega) _⟩
              · exact HSS.out.mv ((Mv.refl [50] w.heap.size w3).setO HO.out (Nat.le_of_lt hw1) (by decide) _ _) (by decide) (by decide) (by decide)
              · have := fcC_cal HO.out hfq1 (fn := (elt t.moms n).fn) (by omega)
                have e : fcN t.moms (n + 1) = ⟨bump (fcN t.moms n).cal (elt t.moms n).fn, (fcN t.moms n).slf, (fcN t.moms n).tot⟩ := by
                  show fcStep _ _ _ = _
                  unfold fcStep; rw [if_pos HK2.out]
                rw [e]; exact this
            case measure => simp [intOf]; omega
          · by_cases k1 : (elt t.moms n).kind = 1
            · have hd1 : ((elt t.moms n).kind == 2) = false := by simp [k1]
              have hd2 : ((elt t.moms n).kind != 1) = false := by simp [k1]
              have HK1 := Lib.hid k1
              have z3 : w3.cell? ⟨w1.heap.size, (elt t.moms n).fn.toNat * 4 + 2, none⟩ = some (.int .i64 ((fcN t.moms n).slf (elt t.moms n).fn.toNat)) := HO.out.cells hfq1 (j := 2) (by omega)
              have z2 := HO.out.free ((elt t.moms n).fn.toNat * 4 + 2)
              have x0 : w3.cell? ⟨w.heap.size, 0, none⟩ = some (.slice A1 t.fns.length c1) := HX.out.cell (j := 0) (by simp)
              have hne : ¬ w1.heap.size = w.heap.size := by omega
              clear k1 k2 hfq
              have hw3 : w1.heap.size < w3.heap.size := HO.out.blt.2
              go_upto_region 20 with fail
              have hset := (Mv.refl [50] w.heap.size w3).setO HO.out (Nat.le_of_lt hw1) (by decide) ((elt t.moms n).fn.toNat * 4 + 2) (.int .i64 ((fcN t.moms n).slf (elt t.moms n).fn.toNat + 1))
              have hO4 := (fcC_slf HO.out hfq1 (fn := (elt t.moms n).fn) (by omega)).later (bl_alloc (Below.refl _ _) (.cells D 4))
              have hS4 := (HSS.out.mv hset (by decide) (by decide) (by decide)).later (bl_alloc (Below.refl _ _) (.cells D 4))
              have hX4 := (HX.out.far (p := ⟨w1.heap.size, (elt t.moms n).fn.toNat * 4 + 2, none⟩) (by dsimp only; omega) (.int .i64 ((fcN t.moms n).slf (elt t.moms n).fn.toNat + 1))).alloc (.cells D 4)
              have hM4 := (HM.out.setO HO.out (Nat.le_of_lt hw1) (by decide) ((elt t.moms n).fn.toNat * 4 + 2) (.int .i64 ((fcN t.moms n).slf (elt t.moms n).fn.toNat + 1))).alloc (by rw [World.size_setCell]; exact HM.out.size) (.cells D 4)
              have hB4 := OwR.made (e := 4) (w := w3.setCell ⟨w1.heap.size, (elt t.moms n).fn.toNat * 4 + 2, none⟩ (.int .i64 ((fcN t.moms n).slf (elt t.moms n).fn.toNat + 1))) HD.out Hd.out (by rfl) (by simp only [maxLen]; omega) (fun i _ => .bool (openIn [] i)) (fun i hi j hj => by
                obtain rfl : j = 0 := by omega
                rfl)
              rw [World.size_setCell] at hB4
              generalize hW4 : World.alloc _ _ = W4 at hO4 hS4 hX4 hM4 hB4 ⊢
              clear hW4 hset z3 z2 x0 y0 y2 HO HSS HX HM HMB hd1 hd2
              have HI2 := SO.out.inv (n + 1) (by omega)
              have i0 := HI2.lo
              have i1 := HI2.hi
              have i2 := HI2.deep (stN t.moms (n + 1)).cur
              have hcx : (stN t.moms (n + 1)).cur < 101 := by omega
              have HFN := Lib.hid (SO.out.fnsIn (n + 1) (by omega))
              have HTOT := Lib.hid (fun j => (fcN_bd t.moms n j).2.2)
              obtain ⟨Ah, ch, c0', c1', c2', -, -, hv, -⟩ := hS4.heads i0 i1
              have HV := Lib.hid hv
              have HSS := Lib.hid hS4
              have HO := Lib.hid hO4
              have HX := Lib.hid hX4
              have HM := Lib.hid hM4
              have HB := Lib.hid hB4
              clear hS4 hO4 hX4 hM4 hB4 hv HI2
              go_quiet (fail)
              go_wp2_with fail
              clear c0' c1' c2'
              go_loopw [84] (fun i wx => ∃ q : Nat, q ≤ (stN t.moms (n + 1)).top.length ∧ i = .int .i64 q ∧ IsS wx w.heap.size g T (stN t.moms (n + 1)) f' ∧
                OwR wx w1.heap.size 50 4 t.fns.length (fcC ⟨(fcN t.moms n).cal, bump (fcN t.moms n).slf (elt t.moms n).fn, bumpAll (fcN t.moms n).tot ((stN t.moms (n + 1)).top.reverse.take q)⟩) (.slice (some ⟨w1.heap.size, 0, none⟩) t.fns.length t.fns.length) ∧
                OwR wx w3.heap.size 4 1 t.fns.length (fun i _ => .bool (openIn ((stN t.moms (n + 1)).top.reverse.take q) i)) (.slice (some ⟨w3.heap.size, 0, none⟩) t.fns.length t.fns.length) ∧ Mv fcTys w.heap.size w wx ∧
                Blk wx w.heap.size 35 2 (fun j => #[Value.slice A1 t.fns.length c1, .slice (some ⟨b, o, none⟩) t.moms.length c2].getD j undef)) (fun i _ => (stN t.moms (n + 1)).top.length - (intOf i).toNat)
              case atStart =>
                refine ⟨0, Nat.zero_le _, rfl, HSS.out.drewN _, ?_, ?_, HM.out.drewN _, HX.out⟩
                · rw [List.take_zero]
                  exact HO.out.congr fun i hi j hj => by
                    match j, hj with
                    | 0, _ => rfl
                    | 1, _ => rfl
                    | 2, _ => rfl
                    | 3, _ => simp only [fcC, bumpAll_nil]
                · rw [List.take_zero]; exact HB.out
              case round =>
                obtain ⟨q, hq, rfl, hS, hO, hB, hM, hX⟩ := hrel
                clear HSS HO HX HM HB
                have HSS := Lib.hid hS
                have HO := Lib.hid hO
                have HM := Lib.hid hM
                have HX := Lib.hid hX
                have HB := Lib.hid hB
                clear hS hO hM hX hB
                by_cases hql : q < (stN t.moms (n + 1)).top.length
                · obtain ⟨Ah', ch', -, -, -, hcap, hcap2, hv', hrow⟩ := HSS.out.heads i0 i1
                  have hvv : Value.slice Ah (stN t.moms (n + 1)).top.length ch = Value.slice Ah' (stN t.moms (n + 1)).top.length ch' := by rw [← HV.out, hv']
                  obtain ⟨rfl, rfl⟩ : Ah = Ah' ∧ ch = ch' := by simpa using hvv
                  obtain ⟨b5, hb5⟩ : ∃ b5, Ah = some ⟨b5, 0, none⟩ := by
                    obtain ⟨A7, c7, e7, hop⟩ := hrow.open'
                    obtain ⟨b7, e8, -⟩ := hop (by omega)
                    cases e7
                    exact ⟨b7, e8⟩
                  subst hb5
                  have hqt : (q : Int) < ((stN t.moms (n + 1)).top.length : Int) := by omega
                  obtain ⟨fr, hfr⟩ : ∃ fr, elt (stN t.moms (n + 1)).top.reverse q = fr := ⟨_, rfl⟩
                  have u0 : wr.cell? ⟨b5, q * 3, none⟩ = some (.int .i64 fr.fn) := by have := hrow.cells hql (j := 0) (by omega); rw [← hfr]; exact this
                  have u1 : wr.cell? ⟨b5, q * 3 + 1, none⟩ = some (.int .i64 fr.line) := by have := hrow.cells hql (j := 1) (by omega); rw [← hfr]; exact this
                  have u2 : wr.cell? ⟨b5, q * 3 + 2, none⟩ = some (.int .i64 fr.frm) := by have := hrow.cells hql (j := 2) (by omega); rw [← hfr]; exact this
                  have hmem : fr ∈ (stN t.moms (n + 1)).stk (stN t.moms (n + 1)).cur := by
                    have : fr ∈ (stN t.moms (n + 1)).top.reverse := by rw [← hfr, elt_eq (by simpa using hql)]; exact List.getElem_mem _
                    simpa [PS.top] using this
                  obtain ⟨g0, g1⟩ := HFN.out _ fr hmem
                  have HTK := Lib.hid (take_snoc (xs := (stN t.moms (n + 1)).top.reverse) (i := q) (by simpa using hql))
                  have HFR := Lib.hid hfr
                  obtain ⟨fg, hfg⟩ : ∃ fg : Nat, fr.fn = (fg : Int) := ⟨fr.fn.toNat, by omega⟩
                  have e1 : fr.fn.toNat = fg := by omega
                  have hfg1 : fg < t.fns.length := by omega
                  have hfg2 : (fg : Int) < (t.fns.length : Int) := by omega
                  have HFG := Lib.hid hfg
                  rw [hfg] at u0
                  have hxl := HM.out.size
                  have hxl' : w.heap.size ≤ wr.heap.size := hxl
                  have hsx := HB.out.blt.2
                  have hox := HO.out.blt.2
                  have v0 : wr.cell? ⟨w3.heap.size, fg, none⟩ = some (.bool (openIn ((stN t.moms (n + 1)).top.reverse.take q) fg)) := by have := HB.out.cells hfg1 (j := 0) (by omega); simpa only [Nat.mul_one, Nat.add_zero] using this
                  have v1 := HB.out.free fg
                  have v2 : wr.cell? ⟨w1.heap.size, fg * 4 + 3, none⟩ = some (.int .i64 (bumpAll (fcN t.moms n).tot ((stN t.moms (n + 1)).top.reverse.take q) fg)) := HO.out.cells hfg1 (j := 3) (by omega)
                  have v3 := HO.out.free (fg * 4 + 3)
                  obtain ⟨q0, q1⟩ := bumpAll_bd (l := (stN t.moms (n + 1)).top.reverse.take q) (HTOT.out fg)
                  generalize hzz : bumpAll (fcN t.moms n).tot ((stN t.moms (n + 1)).top.reverse.take q) fg = zz at v2 q0 q1
                  generalize hop : openIn ((stN t.moms (n + 1)).top.reverse.take q) fg = ob at v0
                  have HZZ := Lib.hid hzz
                  have HOP := Lib.hid hop
                  clear hzz hop hv' hrow hvv hfr hmem hfg e1 g0 g1
                  cases ob with
                  | true =>
                    go_wp2
                    go_roundw
                    case rel =>
                      refine ⟨q + 1, by omega, by go_num, HSS.out.later (bl_alloc (Below.refl _ _) _), ?_, ?_, HM.out.alloc HM.out.size _, HX.out.alloc _⟩
                      · rw [HTK.out, HFR.out]
                        exact (HO.out.later (bl_alloc (Below.refl _ _) _)).congr fun i hi j hj => by
                          match j, hj with
                          | 0, _ => rfl
                          | 1, _ => rfl
                          | 2, _ => rfl
                          | 3, _ => simp only [fcC]; rw [bumpAll_old HFG.out HOP.out]
                      · rw [HTK.out, HFR.out]
                        exact (HB.out.later (bl_alloc (Below.refl _ _) _)).congr fun i hi j hj => by
                          rw [openIn_snoc]
                          by_cases hig : fr.fn = (i : Int)
                          · obtain rfl : fg = i := by have := HFG.out; omega
                            rw [HOP.out]; simp
                          · simp [hig]
                    case measure => simp [intOf]; omega
                  | false =>
                    have hB1 := HB.out
                    have hO1 := HO.out
                    have hM1 := Mv.refl [4, 50] w.heap.size wr
                    have hB2 : OwR _ _ _ _ _ (fun i _ => .bool (openIn ((stN t.moms (n + 1)).top.reverse.take q ++ [fr]) i)) _ := OwR.set (u := .bool true) (i0 := fg) (j0 := 0) hB1 hfg1 (by omega) (fun i j hi hj hne => by
                      rw [openIn_snoc]
                      have : ¬ fr.fn = (i : Int) := by have := HFG.out; omega
                      simp [this]) (by rw [openIn_snoc]; simp [HFG.out])
                    simp only [Nat.mul_one, Nat.add_zero] at hB2
                    obtain ⟨Nb, Fb, hBk⟩ := hB1.block (b := w3.heap.size) rfl
                    have hO2 := OwR.other hO1 hBk (by decide) fg (.bool true)
                    have hM2 := hM1.setO hB1 (by omega) (by decide) fg (.bool true)
                    obtain ⟨No, Fo, hOk⟩ := hO2.block (b := w1.heap.size) rfl
                    have hO3 := fcC_tot (fn := (fg : Int)) hO2 hfg1 rfl
                    dsimp only at hO3
                    rw [HZZ.out] at hO3
                    have hB3 := OwR.other hB2 hOk (by decide) (fg * 4 + 3) (.int .i64 (zz + 1))
                    have hM3 := hM2.setO hO2 (by omega) (by decide) (fg * 4 + 3) (.int .i64 (zz + 1))
                    have RO := Lib.hid (hO3.later (bl_alloc (Below.refl _ _) (.cells #[.int .i64 (fg : Int), .int .i64 fr.line, .int .i64 fr.frm] 59)))
                    have RB := Lib.hid (hB3.later (bl_alloc (Below.refl _ _) (.cells #[.int .i64 (fg : Int), .int .i64 fr.line, .int .i64 fr.frm] 59)))
                    have RM := Lib.hid (hM3.alloc (by simp; exact hxl') (.cells #[.int .i64 (fg : Int), .int .i64 fr.line, .int .i64 fr.frm] 59))
                    clear hB1 hO1 hM1 hB2 hBk hO2 hM2 hOk hO3 hB3 hM3
                    go_wp2
                    go_roundw
                    case rel =>
                      refine ⟨q + 1, by omega, by go_num, HSS.out.mv RM.out (by decide) (by decide) (by decide), ?_, ?_, HM.out.trans (RM.out.mono (by decide)), HX.out.mv RM.out (by decide)⟩
                      · rw [HTK.out, HFR.out]
                        exact RO.out.congr fun i hi j hj => by
                          match j, hj with
                          | 0, _ => rfl
                          | 1, _ => rfl
                          | 2, _ => rfl
                          | 3, _ => simp only [fcC]; rw [bumpAll_new HFG.out HOP.out]
                      · rw [HTK.out, HFR.out]
                        exact RB.out
                    case measure => simp [intOf]; omega
                · obtain rfl : q = (stN t.moms (n + 1)).top.length := by omega
                  go_wp2
                  go_roundw
                  case rel =>
                    refine ⟨n + 1, f', by omega, by go_num, HSS.out, ?_, HM.out, HX.out⟩
                    have e : fcN t.moms (n + 1) = ⟨(fcN t.moms n).cal, bump (fcN t.moms n).slf (elt t.moms n).fn, bumpAll (fcN t.moms n).tot (stN t.moms (n + 1)).top⟩ := by
                      show fcStep _ _ _ = _
                      unfold fcStep; rw [if_neg (by rw [HK1.out]; decide), if_pos HK1.out]
                    rw [e]
                    exact HO.out.congr fun i hi j hj => by
                      match j, hj with
                      | 0, _ => rfl
                      | 1, _ => rfl
                      | 2, _ => rfl
                      | 3, _ =>
                        simp only [fcC]
                        rw [List.take_of_length_le (by simp), bumpAll_rev]
                  case measure => simp [intOf]; omega
            · have hd1 : ((elt t.moms n).kind == 2) = false := by simp [k2]
              have hd2 : ((elt t.moms n).kind != 1) = true := by simp [k1]
              have HK1 := Lib.hid k1
              have HK2 := Lib.hid k2
              clear k1 k2 hfq
              go_wp2
              go_roundw
              case rel =>
                refine ⟨n + 1, f', by omega, by go_num, HSS.out, ?_, HM.out, HX.out⟩
                have e : fcN t.moms (n + 1) = fcN t.moms n := by
                  show fcStep _ _ _ = _
                  unfold fcStep; rw [if_neg HK2.out, if_neg HK1.out]
                rw [e]; exact HO.out
              case measure => simp [intOf]; omega
        · obtain rfl : n = t.moms.length := by omega
          go_wp2
          go_ret
          refine ⟨_, rfl, ?_, HM.out.bl⟩
          rw [HR.out, fcList_len]
          exact (HO.out.lower (Nat.le_of_lt hw1)).congr fun i hi j hj => (fcList_row _ hi).symm
theorem spec_FnCounts_calls (v1 v2 : Value) (t : PTr) (w : World) (h : RdTr w v1 v2 t) (hsm : smTr t) :
    Calls Try.prog 63 #[.agg #[v1, v2]] w (OwRet w 50 4 (fcP t).length (fcRow (fcP t))) := by
  cases hs : soundP t with
  | false => exact spec_FnCounts_bad v1 v2 t w h hsm hs
  | true => exact spec_FnCounts_good v1 v2 t w h hsm hs
end Go.Proofs.Ytcklnjjbhngbcaa
