/- Lemmas and contracts of functions that the theorem of this claim leans on (texts T5, T6, T7, T8, T9, T11). -/
import Derived.Test.YtcklnjjbhngbcaaGreatDoorRowTopz00
import Derived.Test.YtcklnjjbhngbcaaGreatDoorRowUnz27
import Derived.Test.YtcklnjjbhngbcaaGreatDoorRowTopz10
import Derived.Deep.DeepCutAuto
import Derived.Deep.CutBlock
import Derived.Test.YtcklnjjbhngbcaaGreatDoorRowTopz09
import Derived.Test.YtcklnjjbhngbcaaGreatDoorRowUnz02
import Derived.Test.YtcklnjjbhngbcaaGreatDoorRowUnz05
namespace Go.Proofs.YtcklnjjbhngbcaaGreatDoor
open Go.RowKit Go.Proofs.Lens
set_option maxRecDepth 100000 in
set_option maxHeartbeats 2000000 in
theorem l1sizes_calls (v1 v2:Value) (t:PTr) (w:World) (h:RdTr w v1 v2 t) :
  Calls Tryz.prog 74 #[.agg #[v1,v2]] w fun e w'=>e=.returned (.bool (sizesOk t)) ∧ Below w.heap.size w w':=by
 have HT:=qhq h
 obtain ⟨⟨A1,c1,rfl,hn1,-⟩,⟨vv,⟨A2,c2,rfl,hn2,-⟩,-⟩⟩:=h
 have HSZ:=qhq (sizesOk_eq t)
 go_enter Tryz.func74,Tryz.ntmps74
 go_upto_region 1 with fail
 generalize hW:World.alloc w _=W
 have HB:Hid (Below w.heap.size w W):=by rw [← hW];exact qhq (by repeat (with_reducible first | exact qrq _ _ | exact HL.out | refine qnq ?_ _ | refine bl_drew ?_ | refine qaq ?_ _ | refine bl_set ?_ (by dsimp only;omega) _))
 have HX:Hid (BoxAt W w.heap.size [.slice A1 t.fns.length c1,.slice A2 t.moms.length c2]):=by rw [← hW];exact qhq (BoxAt.new w _ _)
 clear hW
 obtain ⟨x0,x1⟩:=HX.out.open2
 go_cut [20] (fun s wx=>s=.bool (szHd t) ∧ W=wx)
 case first =>
  by_cases h0:t.fns.length=0
  ·have hd:((t.fns.length:Int) == 0)=true:=by simp [h0]
   have H0:=qhq h0
   clear h0
   go_wp2
   go_meet
   exact ⟨by unfold szHd;simp [H0.out],rfl⟩
  ·have hd:((t.fns.length:Int) == 0)=false:=by rw [beq_eq_false_iff_ne];omega
   have H0:=qhq h0
   clear h0
   go_wp2
   all_goals
    go_meet
    refine ⟨congrArg Value.bool ?_,rfl⟩
    have h0:=H0.out
    go_tidy
    unfold szHd
    grind
 case rest =>
  obtain ⟨rfl,rfl⟩:=hcut
  generalize hq:szHd t=q
  have HQ:=qhq hq
  clear hq
  cases q with
  | true =>
   go_wp2
   go_ret
   have HL:=HB
   exact ⟨ret_bool (by rw [HSZ.out,HQ.out];rfl),(by repeat (with_reducible first | exact qrq _ _ | exact HL.out | refine qnq ?_ _ | refine bl_drew ?_ | refine qaq ?_ _ | refine bl_set ?_ (by dsimp only;omega) _))⟩
  | false =>
   go_wp2_with fail
   go_loopw [24] (fun i wr=>∃ k:Nat,k ≤ t.fns.length ∧ i=.int .i64 k ∧ fnsOk (t.fns.take k)=true ∧ Below w.heap.size w wr) (fun i _=>t.fns.length - (intOf i).toNat)
   case atStart=>exact ⟨0,Nat.zero_le _,rfl,by simp [fnsOk],HB.out⟩
   case round =>
    obtain ⟨k,hk,rfl,hq,hb⟩:=hrel
    have HL:=qhq hb
    have HF:=qhq hq
    clear hq
    by_cases hlt:k < t.fns.length
    ·obtain ⟨A',c',he,_,hrow⟩:=HT.out.1.later hb
     obtain ⟨rfl,rfl⟩:A1=A' ∧ c1=c':=by simpa using he
     obtain ⟨b,o,rfl,hc⟩:=hrow (by omega)
     have hc0:wr.cell? ⟨b,o + k,none⟩=some (.string (elt t.fns k)):=by have:=hc k hlt 0 (by omega);simp only [Nat.mul_one,Nat.add_zero] at this;exact this
     have HSn:=qhq (fnsOk_snoc t.fns k hlt)
     clear hc he hrow hb x0 x1
     by_cases hs:(elt t.fns k).size ≤ 40
     ·have HS:=qhq hs
      go_wp2
      go_roundw
      case rel=>exact ⟨k + 1,by omega,by go_num,by rw [HSn.out,HF.out];simpa using HS.out,(by repeat (with_reducible first | exact qrq _ _ | exact HL.out | refine qnq ?_ _ | refine bl_drew ?_ | refine qaq ?_ _ | refine bl_set ?_ (by dsimp only;omega) _))⟩
      case measure=>simp [intOf];omega
     ·have HS:=qhq hs
      go_wp2
      go_ret
      refine ⟨ret_bool ?_,(by repeat (with_reducible first | exact qrq _ _ | exact HL.out | refine qnq ?_ _ | refine bl_drew ?_ | refine qaq ?_ _ | refine bl_set ?_ (by dsimp only;omega) _))⟩
      rw [HSZ.out,HQ.out]
      have:fnsOk t.fns=false:=by
       cases hh:fnsOk t.fns with
       | false=>rfl
       | true =>
        unfold fnsOk at hh
        rw [List.all_eq_true] at hh
        have h3:=hh (elt t.fns k) (by rw [elt_eq hlt];exact List.getElem_mem hlt)
        exact absurd (by simpa using h3) HS.out
      rw [this];rfl
    ·obtain rfl:k=t.fns.length:=by omega
     clear hb x0 x1
     go_wp2
     go_ret
     refine ⟨ret_bool ?_,(by repeat (with_reducible first | exact qrq _ _ | exact HL.out | refine qnq ?_ _ | refine bl_drew ?_ | refine qaq ?_ _ | refine bl_set ?_ (by dsimp only;omega) _))⟩
     have:=HF.out
     rw [List.take_length] at this
     rw [HSZ.out,HQ.out,this];rfl
def momA (nf:Nat) (m:PMom):Bool :=
 !inB m.kind 1 7 || !inB m.task 0 100 || !inB m.fn 0 (nf - 1) || !inB m.line 0 100000 || decide (4000 < m.text.size) || decide (200 < m.vars.length)
def momB (m:PMom):Bool:=decide (m.kind=1) && decide (m.line=0)
theorem momHd_eq (nf:Nat) (m:PMom):momHd nf m=!(momA nf m || momB m):=by
 unfold momHd momA momB
 cases h1:inB m.kind 1 7 <;> cases h2:inB m.task 0 100 <;> cases h3:inB m.fn 0 (nf - 1) <;> cases h4:inB m.line 0 100000 <;> simp
 have:=inB_true.1 h4
 grind
set_option maxRecDepth 100000 in
set_option maxHeartbeats 2000000 in
theorem l1moment_calls (v1 v2 v : Value) (t : PTr) (m : PMom) (w : World) (h : RdTr w v1 v2 t) (hv : RdVars w v m.vars) (hsm : smMom m) (hfn : t.fns.length ≤ 1048576) :
    Calls Tryz.prog 75 #[.agg #[v1, v2], .agg #[.int .i64 m.kind, .int .i64 m.task, .int .i64 m.fn, .int .i64 m.line, .string m.text, v]] w fun e w' =>
      e = .returned (.bool (momOk t.fns.length m)) ∧ Below w.heap.size w w' := by
  obtain ⟨⟨A1, c1, rfl, -⟩, -⟩ := h
  have HV := qhq hv
  obtain ⟨A, c, rfl, hn, hrow⟩ := hv
  obtain ⟨hs1, hs2, hs3⟩ := hsm
  have HS := qhq hs3
  have HM := qhq (momHd_eq t.fns.length m)
  clear hrow hs3
  go_enter Tryz.func75, Tryz.ntmps75
  go_upto_region 1 with fail
  generalize hW : World.alloc (World.alloc w _) _ = W
  have hb : Below w.heap.size w W := by rw [← hW]; exact (by repeat (with_reducible first | exact qrq _ _ | exact HL.out | refine qnq ?_ _ | refine bl_drew ?_ | refine qaq ?_ _ | refine bl_set ?_ (by dsimp only; omega) _))
  have x0 : W.cell? ⟨w.heap.size, 0, none⟩ = some (.slice A1 t.fns.length c1) := by rw [← hW]; clear hW; go_simp
  have y0 : W.cell? ⟨w.heap.size + 1, 0, none⟩ = some (.int .i64 m.kind) := by rw [← hW]; clear hW; go_simp
  have y1 : W.cell? ⟨w.heap.size + 1, 1, none⟩ = some (.int .i64 m.task) := by rw [← hW]; clear hW; go_simp
  have y2 : W.cell? ⟨w.heap.size + 1, 2, none⟩ = some (.int .i64 m.fn) := by rw [← hW]; clear hW; go_simp
  have y3 : W.cell? ⟨w.heap.size + 1, 3, none⟩ = some (.int .i64 m.line) := by rw [← hW]; clear hW; go_simp
  have y4 : W.cell? ⟨w.heap.size + 1, 4, none⟩ = some (.string m.text) := by rw [← hW]; clear hW; go_simp
  have y5 : W.cell? ⟨w.heap.size + 1, 5, none⟩ = some (.slice A m.vars.length c) := by rw [← hW]; clear hW; go_simp
  have HB := qhq hb
  clear hW hb
  go_cut [44] (fun s wx => s = .bool (momA t.fns.length m) ∧ W = wx)
  case first =>
    go_wp2_with (first | (go_at_call 137; refine (l1in_calls _ _ _ _).mono ?_; rintro e w1 ⟨rfl, rfl⟩))
    all_goals
      go_meet
      refine ⟨?_, rfl⟩
      go_tidy
      congr 1
      unfold momA
      grind
  case rest =>
    obtain ⟨rfl, rfl⟩ := hcut
    generalize hq : momA t.fns.length m = q
    have HQ := qhq hq
    clear hq
    cases q with
    | true =>
      go_wp2
      go_ret
      have HL := HB
      exact ⟨ret_bool (by unfold momOk; rw [HM.out, HQ.out]; rfl), (by repeat (with_reducible first | exact qrq _ _ | exact HL.out | refine qnq ?_ _ | refine bl_drew ?_ | refine qaq ?_ _ | refine bl_set ?_ (by dsimp only; omega) _))⟩
    | false =>
      go_upto_region 3 with fail
      go_cut [52] (fun s wx => s = .bool (momB m) ∧ W = wx)
      case first =>
        by_cases hk : m.kind = 1
        · have hd : (m.kind == 1) = true := by simp [hk]
          have HK := qhq hk
          clear hk
          go_wp2
          all_goals
            go_meet
            refine ⟨congrArg Value.bool ?_, rfl⟩
            have := HK.out
            go_tidy
            unfold momB
            grind
        · have hd : (m.kind == 1) = false := by simp [hk]
          have HK := qhq hk
          clear hk
          go_wp2
          all_goals
            go_meet
            refine ⟨congrArg Value.bool ?_, rfl⟩
            have := HK.out
            go_tidy
            unfold momB
            grind
      case rest =>
        obtain ⟨rfl, rfl⟩ := hcut
        clear x0 y0 y1 y2 y3 y4
        have HH : Hid (momHd t.fns.length m = !momB m) := qhq (by rw [HM.out, HQ.out]; rfl)
        generalize hq : momB m = q at HH
        clear hq
        cases q with
        | true =>
          go_wp2
          go_ret
          have HL := HB
          exact ⟨ret_bool (by unfold momOk; rw [HH.out]; rfl), (by repeat (with_reducible first | exact qrq _ _ | exact HL.out | refine qnq ?_ _ | refine bl_drew ?_ | refine qaq ?_ _ | refine bl_set ?_ (by dsimp only; omega) _))⟩
        | false =>
          go_wp2_with fail
          clear y5
          have bad : ∀ k, k < m.vars.length → varOk (elt m.vars k) = false → momOk t.fns.length m = false := fun k hk hb => by
            have : varsOk m.vars = false := by
              cases hh : varsOk m.vars with
              | false => rfl
              | true =>
                unfold varsOk at hh
                rw [List.all_eq_true] at hh
                have h3 := hh (elt m.vars k) (by rw [elt_eq hk]; exact List.getElem_mem hk)
                rw [hb] at h3; cases h3
            unfold momOk; rw [this, Bool.and_false]
          have BAD := qhq bad
          clear bad
          go_loopw [56] (fun i wr => ∃ k : Nat, k ≤ m.vars.length ∧ i = .int .i64 k ∧ varsOk (m.vars.take k) = true ∧ Below w.heap.size w wr) (fun i _ => m.vars.length - (intOf i).toNat)
          case atStart => exact ⟨0, Nat.zero_le _, rfl, by simp [varsOk], HB.out⟩
          case round =>
            obtain ⟨k, hk, rfl, hq, hb⟩ := hrel
            have HL := qhq hb
            have HF := qhq hq
            clear hq
            by_cases hlt : k < m.vars.length
            · obtain ⟨A', c', he, _, hrow⟩ := HV.out.later hb
              obtain ⟨rfl, rfl⟩ : A = A' ∧ c = c' := by simpa using he
              obtain ⟨b, o, rfl, hc⟩ := hrow (by omega)
              have hc0 : wr.cell? ⟨b, o + k * 2, none⟩ = some (.string (elt m.vars k).nm) := hc k hlt 0 (by omega)
              have hc1 : wr.cell? ⟨b, o + k * 2 + 1, none⟩ = some (.string (elt m.vars k).tx) := hc k hlt 1 (by omega)
              have HSn := qhq (varsOk_snoc m.vars k hlt)
              obtain ⟨hz1, hz2⟩ := HS.out k hlt
              clear hc he hrow hb
              by_cases h0 : (elt m.vars k).nm.size = 0
              · have hd : (((elt m.vars k).nm.size : Int) == 0) = true := by simp [h0]
                have H0 := qhq h0
                clear h0
                go_wp2
                go_ret
                exact ⟨ret_bool (BAD.out k hlt (by unfold varOk inB; simp [H0.out])).symm, (by repeat (with_reducible first | exact qrq _ _ | exact HL.out | refine qnq ?_ _ | refine bl_drew ?_ | refine qaq ?_ _ | refine bl_set ?_ (by dsimp only; omega) _))⟩
              · have hd : (((elt m.vars k).nm.size : Int) == 0) = false := by rw [beq_eq_false_iff_ne]; omega
                have H0 := qhq h0
                clear h0
                go_wp2
                all_goals first
                  | (go_roundw
                     case rel =>
                       refine ⟨k + 1, by omega, by go_num, ?_, (by repeat (with_reducible first | exact qrq _ _ | exact HL.out | refine qnq ?_ _ | refine bl_drew ?_ | refine qaq ?_ _ | refine bl_set ?_ (by dsimp only; omega) _))⟩
                       rw [HSn.out, HF.out]
                       have := H0.out
                       go_tidy
                       unfold varOk inB
                       grind
                     case measure => simp [intOf]; omega)
                  | (go_ret
                     refine ⟨ret_bool (BAD.out k hlt ?_).symm, (by repeat (with_reducible first | exact qrq _ _ | exact HL.out | refine qnq ?_ _ | refine bl_drew ?_ | refine qaq ?_ _ | refine bl_set ?_ (by dsimp only; omega) _))⟩
                     go_tidy
                     unfold varOk inB
                     grind)
            · obtain rfl : k = m.vars.length := by omega
              clear hb
              go_wp2
              go_ret
              have := HF.out
              rw [List.take_length] at this
              exact ⟨ret_bool (by unfold momOk; rw [HH.out, this]; rfl), HL.out⟩
theorem bl_trans {lo:Nat} {a b c:World} (h:Below lo a b) (k:Below lo b c):Below lo a c:=⟨k.os.trans h.os,k.tape.trans h.tape,k.output.trans h.output,Nat.le_trans h.size k.size,fun j hj=>(k.block j hj).trans (h.block j hj)⟩
set_option maxRecDepth 100000 in
set_option maxHeartbeats 2000000 in
theorem spec_TraceOk_calls (v1 v2:Value) (t:PTr) (w:World) (h:RdTr w v1 v2 t) (hsm:smTr t) :
  Calls Tryz.prog 28 #[.agg #[v1,v2]] w fun e w'=>e=.returned (.agg #[.int .i64 (faultP t).1,.int .i64 (faultP t).2]) ∧ Below w.heap.size w w':=by
 have HT:=qhq h
 have HT0:=qhq h
 have HSM:=qhq hsm
 obtain ⟨⟨A1,c1,rfl,hn1,-⟩,⟨vv,⟨A2,c2,rfl,hn2,-⟩,-⟩⟩:=h
 obtain ⟨⟨hs1,-⟩,⟨hs2,-⟩⟩:=hsm
 go_enter Tryz.func28,Tryz.ntmps28
 go_upto_region 1 with fail
 generalize hW:World.alloc (World.alloc w _) _=W
 have HB:Hid (Below w.heap.size w W):=by rw [← hW];exact qhq (by repeat (with_reducible first | exact qrq _ _ | exact HL.out | refine qnq ?_ _ | refine bl_drew ?_ | refine qaq ?_ _ | refine bl_set ?_ (by dsimp only;omega) _))
 have HX:Hid (BoxAt W w.heap.size [.slice A1 t.fns.length c1,.slice A2 t.moms.length c2]):=by rw [← hW];exact qhq ((BoxAt.new w _ _).later (qaq (qrq _ _) _))
 have HR:Hid (Blk W (w.heap.size + 1) 62 2 (fun _=>.int .i64 0)):=by
  rw [← hW]
  have:=Blk.made (w.alloc (.cells #[.slice A1 t.fns.length c1,.slice A2 t.moms.length c2] 26)) #[.int .i64 0,.int .i64 0] 62
  rw [World.size_alloc] at this
  exact qhq <| this.congr fun j hj=>by match j,hj with | 0,_=>rfl | 1,_=>rfl
 clear hW
 obtain ⟨x0,x1⟩:=HX.out.open2
 go_wp2_with fail
 refine (l1sizes_calls _ _ t _ (HT.out.later HB.out)).mono ?_
 rintro e w0 ⟨rfl,hb0⟩
 have hr:=HR.out.later hb0
 have r0:=hr.cell (j:=0) (by omega)
 have r1:=hr.cell (j:=1) (by omega)
 have rf0:=hr.free 0
 have rf1:=hr.free 1
 have HR1:=qhq hr
 have HL:=qhq hb0
 have HB1:=qhq (qtq HB.out HL.out)
 clear hr hb0 x0 x1
 obtain ⟨x0,x1⟩:=(HX.out.later HL.out).open2
 generalize hq:sizesOk t=q
 have HSO:=qhq hq
 clear hq
 cases q with
 | false =>
  go_wp2
  have hf:faultP t=(1,0):=by unfold faultP;rw [if_pos HSO.out]
  refine bodyPost_ret (v:=.agg #[.int .i64 1,.int .i64 0]) (by simp [results,Tryz.results28,go_sem,r0,r1]) rfl ⟨by rw [hf],?_⟩
  have HL:=HB1
  exact (by repeat (with_reducible first | exact qrq _ _ | exact HL.out | refine qnq ?_ _ | refine bl_drew ?_ | refine qaq ?_ _ | refine bl_set ?_ (by dsimp only;omega) _))
 | true =>
  have HT1:=qhq (HT.out.later HB1.out)
  have HX1:=qhq (HX.out.later HL.out)
  clear HL HB HT HX HR x0 x1
  obtain ⟨x0,x1⟩:=HX1.out.open2
  go_wp2_with fail
  go_loopw [16] (fun i wy=>∃ k:Nat,k ≤ t.moms.length ∧ i=.int .i64 k ∧ firstNZ (momCode t) (t.moms.length - 0) 0=firstNZ (momCode t) (t.moms.length - k) k ∧ Below w0.heap.size w0 wy) (fun i _=>t.moms.length - (intOf i).toNat)
  case atStart=>exact ⟨0,Nat.zero_le _,rfl,rfl,qrq _ _⟩
  case round =>
   obtain ⟨k,hk,rfl,hq,hb⟩:=hrel
   have HL:=qhq hb
   have HQ:=qhq hq
   clear hq
   by_cases hlt:k < t.moms.length
   ·obtain ⟨b,o,vk,hA,c0,c1',c2',c3,c4,c5,hvk⟩:=rd_moment (HT1.out.2.later hb) hlt
    have HA:=qhq hA
    have HVK:=qhq hvk
    obtain ⟨Av,cv,rfl,-⟩:=hvk
    have HX2:=qhq (HX1.out.later HL.out)
    have HR2:=qhq (HR1.out.later HL.out)
    have HT2:=qhq (HT1.out.later HL.out)
    have HB2:=qhq (qtq HB1.out HL.out)
    have hsm:=HSM.out.2.2 k hlt
    have hsz:w.heap.size + 1 < wr.heap.size:=HR2.out.lt
    clear hb x0 x1 r0 r1 rf0 rf1 hA
    subst A2
    obtain ⟨x0,x1⟩:=HX2.out.open2
    go_upto_region 6 with fail
    generalize hW2:World.alloc wr _=W2
    have hbl:Below wr.heap.size wr W2:=by rw [← hW2];exact qaq (qrq _ _) _
    have y0:W2.cell? ⟨wr.heap.size,0,none⟩=some (.int .i64 (elt t.moms k).kind):=by rw [← hW2];clear hW2;go_simp
    have y1:W2.cell? ⟨wr.heap.size,1,none⟩=some (.int .i64 (elt t.moms k).task):=by rw [← hW2];clear hW2;go_simp
    have y2:W2.cell? ⟨wr.heap.size,2,none⟩=some (.int .i64 (elt t.moms k).fn):=by rw [← hW2];clear hW2;go_simp
    have y3:W2.cell? ⟨wr.heap.size,3,none⟩=some (.int .i64 (elt t.moms k).line):=by rw [← hW2];clear hW2;go_simp
    have y4:W2.cell? ⟨wr.heap.size,4,none⟩=some (.string (elt t.moms k).text):=by rw [← hW2];clear hW2;go_simp
    have y5:W2.cell? ⟨wr.heap.size,5,none⟩=some (.slice Av (elt t.moms k).vars.length cv):=by rw [← hW2];clear hW2;go_simp
    have HX3:=qhq (HX2.out.later hbl)
    have HR3:=qhq (HR2.out.later hbl)
    have HT3:=qhq (HT2.out.later hbl)
    have HV3:=qhq (HVK.out.later hbl)
    have HB3:=qhq (qtq HB2.out hbl)
    have HL3:=qhq (qtq HL.out hbl)
    clear hbl hW2 x0 x1 HX2 HR2 HT2 HVK HB2 HL
    obtain ⟨x0,x1⟩:=HX3.out.open2
    go_wp2_with fail
    refine (l1moment_calls _ _ _ t (elt t.moms k) _ HT3.out HV3.out hsm hs1).mono ?_
    rintro e w1 ⟨rfl,hb⟩
    have HL2:=qhq (qtq HL3.out hb)
    have hr:=HR3.out.later hb
    have r0:=hr.cell (j:=0) (by omega)
    have r1:=hr.cell (j:=1) (by omega)
    have rf0:=hr.free 0
    have rf1:=hr.free 1
    have HB4:=qhq (qtq HB3.out hb)
    generalize hmo:momOk t.fns.length (elt t.moms k)=mo
    have HMO:=qhq hmo
    clear hr hb x0 x1 y0 y1 y2 y3 y4 y5 c0 c1' c2' c3 c4 c5 hmo
    cases mo with
    | true =>
     go_wp2
     go_roundw
     case rel=>exact ⟨k + 1,by omega,by go_num,HQ.out.trans (firstNZ_skip hlt (by unfold momCode;rw [if_pos HMO.out])),HL2.out⟩
     case measure=>simp [intOf];omega
    | false =>
     go_wp2
     have hf:faultP t=(2,(k:Int)):=by
      have h2:firstNZ (momCode t) (t.moms.length - 0) 0=(2,(k:Int)):=by
       rw [HQ.out,firstNZ_hit hlt (by unfold momCode;rw [if_neg (by rw [HMO.out];simp)];omega)]
       unfold momCode;rw [if_neg (by rw [HMO.out];simp)]
      unfold faultP
      rw [if_neg (by rw [HSO.out];simp),h2,if_pos (by simp)]
     refine bodyPost_ret (v:=.agg #[.int .i64 2,.int .i64 k]) (by simp [results,Tryz.results28,go_sem,r0,r1]) rfl ⟨by rw [hf],?_⟩
     have HL:=HB4
     exact (by repeat (with_reducible first | exact qrq _ _ | exact HL.out | refine qnq ?_ _ | refine bl_drew ?_ | refine qaq ?_ _ | refine bl_set ?_ (by dsimp only;omega) _))
   ·obtain rfl:k=t.moms.length:=by omega
    clear hb x0 x1 r0 r1
    have HT2:=qhq (HT1.out.later HL.out)
    have HX2:=qhq (HX1.out.later HL.out)
    have HR2:=qhq (HR1.out.later HL.out)
    have HB2:=qhq (qtq HB1.out HL.out)
    have HQ2:Hid (firstNZ (momCode t) (t.moms.length - 0) 0=(0,0)):=qhq (HQ.out.trans firstNZ_end)
    clear HB1 HX1 HR1 HQ HT1 rf0 rf1 HL
    obtain ⟨x0,x1⟩:=HX2.out.open2
    go_wp2_with fail
    refine (l1begin_calls _).mono ?_
    rintro e w1 ⟨g,T,f,rfl,hW,hb⟩
    have HW:=qhq hW
    have HL1:=qhq hb
    have HX3:=qhq (HX2.out.later hb)
    clear hW hb x0 x1
    obtain ⟨x0,x1⟩:=HX3.out.open2
    go_wp2_with fail
    go_loopw [32] (fun i wz=>∃ (k:Nat) (f:Nat → Value),k ≤ t.moms.length ∧ i=.int .i64 k ∧ firstNZ (moveCode t) (t.moms.length - 0) 0=firstNZ (moveCode t) (t.moms.length - k) k ∧
     Inv (stN t.moms k) k ∧ IsS wz wr.heap.size g T (stN t.moms k) f ∧ Below wr.heap.size wr wz) (fun i _=>t.moms.length - (intOf i).toNat)
    case atStart=>exact ⟨0,f,Nat.zero_le _,rfl,rfl,inv0,HW.out,HL1.out⟩
    case round =>
     obtain ⟨k,f,hk,rfl,hq,hinv,hW,hb⟩:=hrel
     have HQ:=qhq hq
     have HI:=qhq hinv
     have HW:=qhq hW
     have HL:=qhq hb
     clear hq hinv hW hb x0 x1
     by_cases hlt:k < t.moms.length
     ·have HM:=qhq (HT2.out.2.later HL.out)
      obtain ⟨b,o,vk,hA,c0,c1',c2',c3,c4,c5,hvk⟩:=rd_moment HM.out hlt
      have HA:=qhq hA
      obtain ⟨Av,cv,rfl,-⟩:=hvk
      clear hA
      subst A2
      go_upto_region 13 with fail
      generalize hW2:World.alloc wr _=W2
      have hbl:Below wr.heap.size wr W2:=by rw [← hW2];exact qaq (qrq _ _) _
      have y0:W2.cell? ⟨wr.heap.size,0,none⟩=some (.int .i64 (elt t.moms k).kind):=by rw [← hW2];clear hW2;go_simp
      have y1:W2.cell? ⟨wr.heap.size,1,none⟩=some (.int .i64 (elt t.moms k).task):=by rw [← hW2];clear hW2;go_simp
      have y2:W2.cell? ⟨wr.heap.size,2,none⟩=some (.int .i64 (elt t.moms k).fn):=by rw [← hW2];clear hW2;go_simp
      have y3:W2.cell? ⟨wr.heap.size,3,none⟩=some (.int .i64 (elt t.moms k).line):=by rw [← hW2];clear hW2;go_simp
      have y4:W2.cell? ⟨wr.heap.size,4,none⟩=some (.string (elt t.moms k).text):=by rw [← hW2];clear hW2;go_simp
      have y5:W2.cell? ⟨wr.heap.size,5,none⟩=some (.slice Av (elt t.moms k).vars.length cv):=by rw [← hW2];clear hW2;go_simp
      have HS2:=qhq (HW.out.later hbl)
      have HL2:=qhq (qtq HL.out hbl)
      clear hbl hW2
      go_wp2_with fail
      refine (move_calls _ g T _ _ (elt t.moms k) _ _ _ k k _ HS2.out HI.out).mono ?_
      rintro e w2 ⟨rfl,hb,hst⟩
      have HB3:=qhq (bl_trans HL2.out hb.bl)
      have hr:=HR2.out.later HB3.out
      have r0:=hr.cell (j:=0) (by omega)
      have r1:=hr.cell (j:=1) (by omega)
      have rf0:=hr.free 0
      have rf1:=hr.free 1
      have HBw:=qhq (qtq HB2.out HB3.out)
      have HST:=qhq hst
      clear hr hb hst y0 y1 y2 y3 y4 y5 c0 c1' c2' c3 c4 c5
      have HMC:Hid (moveCode t k=checkP (stN t.moms k) (elt t.moms k)):=qhq rfl
      generalize hcc:checkP (stN t.moms k) (elt t.moms k)=cc at HMC HST
      have HCC:=qhq hcc
      clear hcc
      by_cases hz:cc=0
      ·have hd:(cc != 0)=false:=by simp [hz]
       have HZ:=qhq hz
       clear hz r0 r1 rf0 rf1
       have hmo:momOk t.fns.length (elt t.moms k)=true:=by
        have:=firstNZ_zero (f:=momCode t) (d:=t.moms.length - 0) (k:=0) (by rw [HQ2.out]) k (by omega) (by omega)
        unfold momCode at this
        by_cases h4:momOk t.fns.length (elt t.moms k)=true
        ·exact h4
        ·rw [if_neg h4] at this;cases this
       have HI3:=qhq (inv_step HI.out hmo (HCC.out.trans HZ.out))
       clear hmo
       go_wp2
       go_roundw
       case rel =>
        obtain ⟨f',hf'⟩:=HST.out HZ.out
        exact ⟨k + 1,f',by omega,by go_num,HQ.out.trans (firstNZ_skip hlt (by rw [HMC.out,HZ.out])),HI3.out,hf',HB3.out⟩
       case measure=>simp [intOf];omega
      ·have hd:(cc != 0)=true:=by simp [hz]
       have HZ:=qhq hz
       clear hz
       go_wp2
       have hf:faultP t=(cc,(k:Int)):=by
        unfold faultP
        rw [if_neg (by rw [HSO.out];simp),HQ2.out,if_neg (by simp),HQ.out,firstNZ_hit hlt (by rw [HMC.out];exact HZ.out),HMC.out]
       refine bodyPost_ret (v:=.agg #[.int .i64 cc,.int .i64 k]) (by simp [results,Tryz.results28,go_sem,r0,r1]) rfl ⟨by rw [hf],?_⟩
       have HL:=HBw
       exact (by repeat (with_reducible first | exact qrq _ _ | exact HL.out | refine qnq ?_ _ | refine bl_drew ?_ | refine qaq ?_ _ | refine bl_set ?_ (by dsimp only;omega) _))
     ·obtain rfl:k=t.moms.length:=by omega
      have hr:=HR2.out.later HL.out
      have r0:=hr.cell (j:=0) (by omega)
      have r1:=hr.cell (j:=1) (by omega)
      have rf0:=hr.free 0
      have rf1:=hr.free 1
      have HB3:=qhq (qtq HB2.out HL.out)
      clear hr
      go_wp2
      have hf:faultP t=(0,0):=by
       unfold faultP
       rw [if_neg (by rw [HSO.out];simp),HQ2.out,if_neg (by simp),HQ.out,firstNZ_end]
      refine bodyPost_ret (v:=.agg #[.int .i64 0,.int .i64 0]) (by simp [results,Tryz.results28,go_sem,r0,r1]) rfl ⟨by rw [hf],?_⟩
      have HL:=HB3
      exact (by repeat (with_reducible first | exact qrq _ _ | exact HL.out | refine qnq ?_ _ | refine bl_drew ?_ | refine qaq ?_ _ | refine bl_set ?_ (by dsimp only;omega) _))
set_option maxRecDepth 100000 in
set_option maxHeartbeats 400000 in
theorem l1ok_calls (v1 v2:Value) (t:PTr) (w:World) (h:RdTr w v1 v2 t) (hsm:smTr t) :
  Calls Tryz.prog 36 #[.agg #[v1,v2]] w fun e w'=>e=.returned (.bool (soundP t)) ∧ Below w.heap.size w w':=by
 have HT:=qhq h
 have HS:=qhq hsm
 obtain ⟨⟨A1,c1,rfl,hn1,-⟩,⟨vv,⟨A2,c2,rfl,hn2,-⟩,-⟩⟩:=h
 clear hsm
 go_enter Tryz.func36,Tryz.ntmps36
 go_wp2_with fail
 refine (spec_TraceOk_calls _ _ t _ (HT.out.later (by repeat (with_reducible first | exact qrq _ _ | exact HL.out | refine qnq ?_ _ | refine bl_drew ?_ | refine qaq ?_ _ | refine bl_set ?_ (by dsimp only;omega) _))) HS.out).mono ?_;rintro e w1 ⟨rfl,hb⟩
 have HB:=qhq (qtq (qaq (qrq _ w) _) hb)
 clear hb
 go_wp2
 go_ret
 have HL:=HB
 exact ⟨ret_bool (by unfold soundP;exact Bool.beq_eq_decide_eq _ _),(by repeat (with_reducible first | exact qrq _ _ | exact HL.out | refine qnq ?_ _ | refine bl_drew ?_ | refine qaq ?_ _ | refine bl_set ?_ (by dsimp only;omega) _))⟩
theorem l1ok_is (v1 v2:Value) (t:PTr) (w:World) {b:Bool} (h:RdTr w v1 v2 t) (hsm:smTr t) (hs:soundP t=b) :
  Calls Tryz.prog 36 #[.agg #[v1,v2]] w fun e w'=>e=.returned (.bool b) ∧ Below w.heap.size w w':=hs ▸ l1ok_calls v1 v2 t w h hsm
def StPost (w:World) (s:PS) (e:Ending) (w':World):Prop:=∃ g T f,e=.returned (.pointer (some ⟨g,0,none⟩)) ∧ IsS w' w.heap.size g T s f ∧ Below w.heap.size w w'
set_option maxRecDepth 100000 in
set_option maxHeartbeats 2000000 in
theorem l1at_calls (v1 v2:Value) (t:PTr) (k:Int) (w:World) (h:RdTr w v1 v2 t) (hsm:smTr t) (hg:soundP t=true) (hk0:-1 ≤ k) (hk1:k < t.moms.length) :
  Calls Tryz.prog 143 #[.agg #[v1,v2],.int .i64 k] w (StPost w (stN t.moms (k + 1).toNat)):=by
 have HT:=qhq h
 obtain ⟨⟨A1,c1,rfl,hn1,-⟩,⟨vv,⟨A2,c2,rfl,hn2,-⟩,-⟩⟩:=h
 obtain ⟨⟨hs1,-⟩,⟨hs2,-⟩⟩:=hsm
 have SO:=qhq (sound_iff hg)
 clear hg
 go_enter Tryz.func143,Tryz.ntmps143
 go_wp2_with fail
 generalize hW:World.alloc w _=W
 have HB:Hid (Below w.heap.size w W):=by rw [← hW];exact qhq (by repeat (with_reducible first | exact qrq _ _ | exact HL.out | refine qnq ?_ _ | refine bl_drew ?_ | refine qaq ?_ _ | refine bl_set ?_ (by dsimp only;omega) _))
 have HX:Hid (BoxAt W w.heap.size [.slice A1 t.fns.length c1,.slice A2 t.moms.length c2]):=by rw [← hW];exact qhq (BoxAt.new w _ _)
 clear hW
 refine (l1begin_calls _).mono ?_
 rintro e w1 ⟨g,T,f,rfl,hS,hb⟩
 have HW:=qhq hS
 have HL:=qhq hb
 clear hS hb
 go_wp2_with fail
 go_loopw [6] (fun i wr=>∃ (n:Nat) (f:Nat → Value),n ≤ t.moms.length ∧ (n:Int) ≤ k + 1 ∧ i=.int .i64 n ∧ IsS wr W.heap.size g T (stN t.moms n) f ∧ Below W.heap.size W wr) (fun i _=>t.moms.length - (intOf i).toNat)
 case atStart=>exact ⟨0,f,Nat.zero_le _,by omega,rfl,HW.out,HL.out⟩
 case round =>
  obtain ⟨n,f,hn,hn2,rfl,hS,hb⟩:=hrel
  clear HW HL
  have HW:=qhq hS
  have HL:=qhq hb
  clear hS hb
  by_cases h1:(n:Int) ≤ k
  ·have h2:n < t.moms.length:=by omega
   have HI:=qhq (SO.out.inv n hn)
   have HM:=qhq ((HT.out.2.later HB.out).later HL.out)
   obtain ⟨b,o,vk,hA,c0,c1',c2',c3,c4,c5,hvk⟩:=rd_moment HM.out h2
   obtain ⟨Av,cv,rfl,-⟩:=hvk
   subst hA
   obtain ⟨x0,x1⟩:=(HX.out.later HL.out).open2
   go_wp2_with fail
   refine (move_calls _ g T _ _ (elt t.moms n) _ _ _ n n _ HW.out HI.out).mono ?_
   rintro e w2 ⟨rfl,hb,hst⟩
   have HL2:=qhq (bl_trans HL.out hb.bl)
   have HST:=qhq (hst (SO.out.moves n h2))
   clear hb hst x0 x1 c0 c1' c2' c3 c4 c5
   go_wp2
   go_roundw
   case rel =>
    obtain ⟨f',hf'⟩:=HST.out
    exact ⟨n + 1,f',by omega,by omega,by go_num,hf',HL2.out⟩
   case measure=>simp [intOf];omega
  ·go_wp2
   go_ret
   have e:(k + 1).toNat=n:=by omega
   rw [e]
   exact ⟨g,T,f,rfl,HW.out.lower HB.out.size,qtq HB.out HL.out⟩
set_option maxRecDepth 100000 in
set_option maxHeartbeats 2000000 in
theorem l1stand_calls (v1 v2:Value) (t:PTr) (k:Int) (w:World) (h:RdTr w v1 v2 t) (hsm:smTr t) (hg:goodP t k=true) :
  Calls Tryz.prog 95 #[.agg #[v1,v2],.int .i64 k] w (StPost w (atP t k)):=by
 have HT:=qhq h
 have HS:=qhq hsm
 obtain ⟨⟨A1,c1,rfl,hn1,-⟩,⟨vv,⟨A2,c2,rfl,hn2,-⟩,-⟩⟩:=h
 obtain ⟨⟨hs1,-⟩,⟨hs2,-⟩⟩:=hsm
 unfold goodP at hg
 rw [Bool.and_eq_true] at hg
 have hp:=inB_true.1 hg.2
 have HQ:=qhq hg.1
 clear hg
 by_cases hk:k=t.moms.length
 ·have e:atP t k=stN t.moms (k - 1 + 1).toNat:=by unfold atP atN;congr 1;omega
  have hd:(k == (t.moms.length:Int))=true:=by simp [hk]
  have HE:=qhq e
  have hk1:0 ≤ k:=by omega
  have hk2:k - 1 < t.moms.length:=by omega
  clear hk e
  go_enter Tryz.func95,Tryz.ntmps95
  go_wp2_with fail
  refine (l1at_calls _ _ t _ _ (HT.out.later (by repeat (with_reducible first | exact qrq _ _ | exact HL.out | refine qnq ?_ _ | refine bl_drew ?_ | refine qaq ?_ _ | refine bl_set ?_ (by dsimp only;omega) _))) HS.out HQ.out (by omega) (by omega)).mono ?_
  rintro e w1 ⟨g,T,f,rfl,hS,hb⟩
  have HW:=qhq (hS.lower (lo':=w.heap.size) (by simp))
  have HB:=qhq (qtq (qaq (qrq _ w) _) hb)
  clear hS hb
  go_wp2
  go_ret
  exact ⟨g,T,f,rfl,by rw [HE.out];exact HW.out,HB.out⟩
 ·have e:atP t k=stN t.moms (k + 1).toNat:=by unfold atP atN;congr 1;omega
  have hd:(k == (t.moms.length:Int))=false:=by simp [hk]
  have HE:=qhq e
  have hk2:k < t.moms.length:=by omega
  clear hk e
  go_enter Tryz.func95,Tryz.ntmps95
  go_wp2_with fail
  refine (l1at_calls _ _ t _ _ (HT.out.later (by repeat (with_reducible first | exact qrq _ _ | exact HL.out | refine qnq ?_ _ | refine bl_drew ?_ | refine qaq ?_ _ | refine bl_set ?_ (by dsimp only;omega) _))) HS.out HQ.out (by omega) (by omega)).mono ?_
  rintro e w1 ⟨g,T,f,rfl,hS,hb⟩
  have HW:=qhq (hS.lower (lo':=w.heap.size) (by simp))
  have HB:=qhq (qtq (qaq (qrq _ w) _) hb)
  clear hS hb
  go_wp2
  go_ret
  exact ⟨g,T,f,rfl,by rw [HE.out];exact HW.out,HB.out⟩
theorem IsS.mv {w w':World} {lo lo' g T:Nat} {s:PS} {f:Nat → Value} {ts:List TypeId} (h:IsS w lo g T s f) (hm:Mv ts lo' w w') (h1:161 ∉ ts) (h2:35 ∉ ts) (h3:42 ∉ ts):IsS w' lo g T s f :=
 ⟨h.lo1,h.lo2,h.blk.mv hm h1,h.tb.mv hm h2,fun i hi=>(h.row i hi).mv hm h3,h.ne⟩
theorem IsS.at {w:World} {lo g T:Nat} {s:PS} {f:Nat → Value} (h:IsS w lo g T s f) {i:Int} (h0:0 ≤ i) (h1:i ≤ 100) :
  ∃ A cap,w.cell? ⟨g,0,none⟩=some (.slice (some ⟨T,0,none⟩) 101 101) ∧ w.cell? ⟨T,i.toNat,none⟩=some (.slice A (s.stk i).length cap) ∧ (s.stk i).length ≤ cap ∧ cap ≤ 9223372036854775807 ∧
   OwR w lo 42 3 (s.stk i).length (frC (s.stk i).reverse) (.slice A (s.stk i).length cap):=by
 have hr:=h.row i.toNat (by omega)
 rw [Int.toNat_of_nonneg h0] at hr
 obtain ⟨A,cap,hv,hc1,hc2⟩:=hr.cap
 rw [hv] at hr
 exact ⟨A,cap,h.blk.cell (j:=0) (by omega),(h.tb.cell (by omega)).trans (by rw [hv]),hc1,hc2,hr⟩
theorem good_cur {t:PTr} {k:Int} (h:goodP t k=true):Inv (atP t k) (atN t k):=by
 unfold goodP at h
 rw [Bool.and_eq_true] at h
 exact (sound_iff h.1).inv _ (atN_le t k)
theorem good_bd {t:PTr} {k:Int} (h:goodP t k=true):-1 ≤ k ∧ k ≤ t.moms.length:=by
 unfold goodP at h
 rw [Bool.and_eq_true] at h
 exact inB_true.1 h.2
theorem good_sound {t:PTr} {k:Int} (h:goodP t k=true):soundP t=true:=by
 unfold goodP at h
 rw [Bool.and_eq_true] at h
 exact h.1
set_option maxRecDepth 100000 in
set_option maxHeartbeats 2000000 in
theorem l4into_calls (v1 v2:Value) (t:PTr) (k:Int) (w:World) (h:RdTr w v1 v2 t) (hsm:smTr t) (hg:goodP t k=true) :
  Calls Tryz.prog 93 #[.agg #[v1,v2],.int .i64 k] w fun e w'=>e=.returned (.int .i64 (intoP t k)) ∧ Below w.heap.size w w':=by
 have HT:=qhq h
 have HS:=qhq hsm
 obtain ⟨⟨A1,c1,rfl,hn1,-⟩,⟨vv,⟨A2,c2,rfl,hn2,-⟩,-⟩⟩:=h
 obtain ⟨⟨hs1,-⟩,⟨hs2,-⟩⟩:=hsm
 obtain ⟨k0,k1⟩:=good_bd hg
 have HP:Hid (intoP t k=(firstB (intoQ t k) t.moms.length (t.moms.length - (k + 1).toNat) (k + 1).toNat:Nat)):=qhq (by unfold intoP seekP;rw [if_pos hg])
 have HG:=qhq hg
 clear hg
 go_enter Tryz.func93,Tryz.ntmps93
 go_wp2_with fail
 refine (l1stand_calls _ _ t _ _ (HT.out.later (by repeat (with_reducible first | exact qrq _ _ | exact HL.out | refine qnq ?_ _ | refine bl_drew ?_ | refine qaq ?_ _ | refine bl_set ?_ (by dsimp only;omega) _))) HS.out HG.out).mono ?_;rintro e w1 ⟨g,T,f,rfl,hS,hb⟩
 have HX:=qhq ((BoxAt.new w [.slice A1 t.fns.length c1,.slice A2 t.moms.length c2] 26).later hb)
 have HB:=qhq (qtq (qaq (qrq _ w) _) hb)
 have cc:w1.cell? ⟨g,1,none⟩=some (.int .i64 (atP t k).cur):=hS.blk.cell (j:=1) (by omega)
 clear hb hS
 obtain ⟨x0,x1⟩:=HX.out.open2
 obtain ⟨j,hj⟩:∃ j:Nat,k + 1=(j:Int):=⟨(k + 1).toNat,by omega⟩
 have HJ:=qhq hj
 clear hj
 go_wp2_with fail
 go_loop [7] (fun i=>∃ n:Nat,j ≤ n ∧ i=.int .i64 n ∧ firstB (intoQ t k) t.moms.length (t.moms.length - j) j=firstB (intoQ t k) t.moms.length (t.moms.length - n) n) (fun i=>t.moms.length - (intOf i).toNat)
 case atStart=>exact ⟨j,Nat.le_refl _,by rw [← HJ.out],rfl⟩
 case round =>
  obtain ⟨n,hn,rfl,hq⟩:=hrel
  have HQ:=qhq hq
  clear hq
  by_cases h2:n < t.moms.length
  ·obtain ⟨b,o,vk,hA,c0,c1',-,-,-,-,-⟩:=rd_moment (HT.out.2.later HB.out) h2
   subst hA
   have HI:Hid (intoQ t k n=(((elt t.moms n).kind == 1) && ((elt t.moms n).task == (atP t k).cur))):=qhq (by unfold intoQ;rw [Bool.beq_eq_decide_eq,Bool.beq_eq_decide_eq])
   generalize hk1:((elt t.moms n).kind == 1)=q1 at HI
   generalize hk2:((elt t.moms n).task == (atP t k).cur)=q2 at HI
   cases q1 <;> cases q2
   all_goals
    go_wp2
   ·go_round
    case rel=>exact ⟨n + 1,by omega,by go_num,HQ.out.trans (firstB_skip h2 HI.out)⟩
    case measure=>simp [intOf];omega
   ·go_round
    case rel=>exact ⟨n + 1,by omega,by go_num,HQ.out.trans (firstB_skip h2 HI.out)⟩
    case measure=>simp [intOf];omega
   ·go_round
    case rel=>exact ⟨n + 1,by omega,by go_num,HQ.out.trans (firstB_skip h2 HI.out)⟩
    case measure=>simp [intOf];omega
   ·go_ret
    refine ⟨ret_int ?_,HB.out⟩
    rw [HP.out,HJ.out,Int.toNat_natCast,HQ.out,firstB_hit h2 HI.out]
  ·go_wp2
   go_ret
   refine ⟨ret_int ?_,HB.out⟩
   rw [HP.out,HJ.out,Int.toNat_natCast,HQ.out,firstB_end (by omega)]
def leaveQ (t:PTr) (k kd ls:Int) (i:Nat):Bool:=decide ((elt t.moms i).kind=kd) && decide ((elt t.moms i).task=(atP t k).cur) && decide ((((stN t.moms (i + 1)).stk (atP t k).cur).length:Int) ≤ ((atP t k).stk (atP t k).cur).length - ls)
theorem over_leave (t:PTr) (k:Int) (i:Nat):overQ t k i=leaveQ t k 1 0 i:=by
 unfold overQ leaveQ
 congr 1
 apply decide_eq_decide.2
 omega
theorem out_leave (t:PTr) (k:Int) (i:Nat):outQ t k i=leaveQ t k 3 1 i:=by
 unfold outQ leaveQ
 congr 1
 apply decide_eq_decide.2
 omega
set_option maxRecDepth 100000 in
set_option maxHeartbeats 2000000 in
theorem l4leave_calls (v1 v2 : Value) (t : PTr) (k kd ls : Int) (w : World) (h : RdTr w v1 v2 t) (hsm : smTr t) (hg : goodP t k = true) (hl0 : 0 ≤ ls) (hl1 : ls ≤ 1) :
    Calls Tryz.prog 94 #[.agg #[v1, v2], .int .i64 k, .int .i64 kd, .int .i64 ls] w fun e w' => e = .returned (.int .i64 (seekP t k (leaveQ t k kd ls))) ∧ Below w.heap.size w w' := by
  have HT := qhq h
  have HS := qhq hsm
  obtain ⟨⟨A1, c1, rfl, hn1, -⟩, ⟨vv, ⟨A2, c2, rfl, hn2, -⟩, -⟩⟩ := h
  obtain ⟨⟨hs1, -⟩, ⟨hs2, -⟩⟩ := hsm
  obtain ⟨k0, k1⟩ := good_bd hg
  have HP : Hid (seekP t k (leaveQ t k kd ls) = (firstB (leaveQ t k kd ls) t.moms.length (t.moms.length - (k + 1).toNat) (k + 1).toNat : Nat)) := qhq (by unfold seekP; rw [if_pos hg])
  have HG := qhq hg
  have hi := good_cur hg
  have i0 := hi.lo
  have i1 := hi.hi
  have i2 := hi.deep (atP t k).cur
  have SO := qhq (sound_iff (good_sound hg))
  clear hg hi
  go_enter Tryz.func94, Tryz.ntmps94
  go_wp2_with fail
  generalize hW : World.alloc w _ = W
  have HBW : Hid (Below w.heap.size w W) := by rw [← hW]; exact qhq (by repeat (with_reducible first | exact qrq _ _ | exact HL.out | refine qnq ?_ _ | refine bl_drew ?_ | refine qaq ?_ _ | refine bl_set ?_ (by dsimp only; omega) _))
  have HX : Hid (BoxAt W w.heap.size [.slice A1 t.fns.length c1, .slice A2 t.moms.length c2]) := by rw [← hW]; exact qhq (BoxAt.new w _ _)
  clear hW
  refine (l1stand_calls _ _ t _ _ (HT.out.later HBW.out) HS.out HG.out).mono ?_; rintro e w1 ⟨g, T, f, rfl, hS, hb⟩
  have HW := qhq hS
  have HL := qhq hb
  have cc : w1.cell? ⟨g, 1, none⟩ = some (.int .i64 (atP t k).cur) := hS.blk.cell (j := 1) (by omega)
  obtain ⟨Ad, cpd, c0, cr, -, -, -⟩ := hS.at i0 i1
  clear hb hS
  obtain ⟨x0, x1⟩ := (HX.out.later HL.out).open2
  obtain ⟨j, hj⟩ : ∃ j : Nat, k + 1 = (j : Int) := ⟨(k + 1).toNat, by omega⟩
  have HJ := qhq hj
  clear hj
  have hcx : (atP t k).cur < 101 := by omega
  go_wp2_with fail
  clear x0 x1 cc c0 cr
  go_loopw [12] (fun i wr => ∃ (n : Nat) (f : Nat → Value), j ≤ n ∧ i = .int .i64 n ∧ firstB (leaveQ t k kd ls) t.moms.length (t.moms.length - j) j = firstB (leaveQ t k kd ls) t.moms.length (t.moms.length - n) n ∧
    (n ≤ t.moms.length → IsS wr W.heap.size g T (stN t.moms n) f) ∧ Below W.heap.size W wr) (fun i _ => t.moms.length - (intOf i).toNat)
  case atStart =>
    refine ⟨j, f, Nat.le_refl _, by rw [← HJ.out], rfl, fun hj => ?_, HL.out⟩
    have e : atP t k = stN t.moms j := by
      have := HJ.out
      unfold atP atN; congr 1; omega
    rw [← e]; exact HW.out
  case round =>
    obtain ⟨n, f, hn, rfl, hq, hS, hb⟩ := hrel
    clear HW HL
    have HQ := qhq hq
    have HL := qhq hb
    by_cases h2 : n < t.moms.length
    · have HW := qhq (hS (by omega))
      clear hq hS hb
      obtain ⟨b, o, vk, hA, c0, c1', c2', c3, c4, c5, hvk⟩ := rd_moment ((HT.out.2.later HBW.out).later HL.out) h2
      obtain ⟨Av, cv, rfl, -⟩ := hvk
      subst hA
      obtain ⟨x0, x1⟩ := (HX.out.later HL.out).open2
      have hlo := HL.out.size
      go_upto_region 8 with fail
      have HMB : Hid (Blk (wr.alloc _) wr.heap.size 114 6 _) := qhq (Blk.made wr #[.int .i64 (elt t.moms n).kind, .int .i64 (elt t.moms n).task, .int .i64 (elt t.moms n).fn, .int .i64 (elt t.moms n).line, .string (elt t.moms n).text, .slice Av (elt t.moms n).vars.length cv] 114)
      generalize hW2 : World.alloc wr _ = W2 at HMB ⊢
      have hbl : Below wr.heap.size wr W2 := by rw [← hW2]; exact qaq (qrq _ _) _
      clear hW2 x0 x1 c0 c1' c2' c3 c4 c5
      have y0 : W2.cell? ⟨wr.heap.size, 0, none⟩ = some (.int .i64 (elt t.moms n).kind) := HMB.out.cell (j := 0) (by omega)
      have y1 : W2.cell? ⟨wr.heap.size, 1, none⟩ = some (.int .i64 (elt t.moms n).task) := HMB.out.cell (j := 1) (by omega)
      have y2 : W2.cell? ⟨wr.heap.size, 2, none⟩ = some (.int .i64 (elt t.moms n).fn) := HMB.out.cell (j := 2) (by omega)
      have y3 : W2.cell? ⟨wr.heap.size, 3, none⟩ = some (.int .i64 (elt t.moms n).line) := HMB.out.cell (j := 3) (by omega)
      have y4 : W2.cell? ⟨wr.heap.size, 4, none⟩ = some (.string (elt t.moms n).text) := HMB.out.cell (j := 4) (by omega)
      have y5 : W2.cell? ⟨wr.heap.size, 5, none⟩ = some (.slice Av (elt t.moms n).vars.length cv) := HMB.out.cell (j := 5) (by omega)
      have HI := qhq (SO.out.inv n (by omega))
      replace HW := qhq (HW.out.later hbl); replace HL := qhq (qtq HL.out hbl); clear hbl
      go_wp2_with fail
      refine (move_calls _ g T _ _ (elt t.moms n) _ _ _ n n _ HW.out HI.out).mono ?_
      rintro e w2 ⟨rfl, hb, hst⟩
      clear y0 y1 y2 y3 y4 y5
      replace HL := qhq (bl_trans HL.out hb.bl)
      replace HMB := qhq (HMB.out.mv hb (by decide))
      obtain ⟨f', hS'⟩ := hst (SO.out.moves n h2)
      replace hS' : IsS w2 W.heap.size g T (stN t.moms (n + 1)) f' := hS'
      clear HW
      have HW := qhq hS'
      have y0 : w2.cell? ⟨wr.heap.size, 0, none⟩ = some (.int .i64 (elt t.moms n).kind) := HMB.out.cell (j := 0) (by omega)
      have y1 : w2.cell? ⟨wr.heap.size, 1, none⟩ = some (.int .i64 (elt t.moms n).task) := HMB.out.cell (j := 1) (by omega)
      obtain ⟨Ae, cpe, c0, cr, -, -, -⟩ := hS'.at i0 i1
      clear hb hS' hst
      have HI : Hid (leaveQ t k kd ls n = (((elt t.moms n).kind == kd) && ((elt t.moms n).task == (atP t k).cur) && decide ((((stN t.moms (n + 1)).stk (atP t k).cur).length : Int) ≤ ((atP t k).stk (atP t k).cur).length - ls))) := qhq (by unfold leaveQ; rw [Bool.beq_eq_decide_eq, Bool.beq_eq_decide_eq])
      generalize hk1 : ((elt t.moms n).kind == kd) = q1 at HI
      generalize hk2 : ((elt t.moms n).task == (atP t k).cur) = q2 at HI
      generalize hk3 : decide ((((stN t.moms (n + 1)).stk (atP t k).cur).length : Int) ≤ ((atP t k).stk (atP t k).cur).length - ls) = q3 at HI
      cases q1 <;> cases q2 <;> cases q3
      all_goals
        go_wp2
        first
          | (go_roundw
             case rel => exact ⟨n + 1, f', by omega, by go_num, HQ.out.trans (firstB_skip h2 HI.out), fun _ => HW.out, HL.out⟩
             case measure => simp [intOf]; omega)
          | (go_ret
             refine ⟨ret_int ?_, qtq HBW.out HL.out⟩
             rw [HP.out, HJ.out, Int.toNat_natCast, HQ.out, firstB_hit h2 HI.out])
    · clear hq hS hb
      obtain ⟨x0, x1⟩ := (HX.out.later HL.out).open2
      go_wp2
      go_ret
      refine ⟨ret_int ?_, qtq HBW.out HL.out⟩
      rw [HP.out, HJ.out, Int.toNat_natCast, HQ.out, firstB_end (by omega)]
theorem l1in_is (x a b:Int) (w:World) {q:Bool} (h:inB x a b=q):Calls Tryz.prog 137 #[.int .i64 x,.int .i64 a,.int .i64 b] w fun e w'=>e=.returned (.bool q) ∧ w=w':=h ▸ l1in_calls x a b w
set_option maxRecDepth 100000 in
set_option maxHeartbeats 2000000 in
theorem l1inner_calls (v:Value) (xs:List PFr) (w:World) (h:RdFrs w v xs) (hn:xs.length ≤ 1048576) :
  Calls Tryz.prog 96 #[v] w (OwRet w 42 3 xs.length (frC xs.reverse)):=by
 have HV:=qhq h
 obtain ⟨A,c,rfl,hm,-⟩:=h
 go_enter Tryz.func96,Tryz.ntmps96
 go_wp2_with fail
 go_loopw [3,4] (fun o i wr=>∃ q:Nat,q ≤ xs.length ∧ i=.int .i64 ((xs.length:Int) - 1 - q) ∧ OwR wr w.heap.size 42 3 q (frC xs.reverse) o ∧ Below w.heap.size w wr) (fun _ i _=>(intOf i + 1).toNat)
 case atStart=>exact ⟨0,Nat.zero_le _,by simp,OwR.nil,qrq _ _⟩
 case round =>
  obtain ⟨q,hq,rfl,hO,hb⟩:=hrel
  have HO:=qhq hO
  have HB:=qhq hb
  obtain ⟨A3,c3,rfl,-⟩:=hO.cap
  have hsz:=hb.size
  clear hO hb
  by_cases hlt:q < xs.length
  ·obtain ⟨p,hp⟩:∃ p:Nat,(xs.length:Int) - 1 - q=(p:Int):=⟨xs.length - 1 - q,by omega⟩
   have hp':p < xs.length:=by omega
   obtain ⟨A',c',he,_,hrow⟩:=HV.out.later HB.out
   obtain ⟨rfl,rfl⟩:A=A' ∧ c=c':=by simpa using he
   obtain ⟨b,o,rfl,hc⟩:=hrow (by omega)
   have x0:wr.cell? ⟨b,o + p * 3,none⟩=some (.int .i64 (elt xs p).fn):=hc p hp' 0 (by omega)
   have x1:wr.cell? ⟨b,o + p * 3 + 1,none⟩=some (.int .i64 (elt xs p).line):=hc p hp' 1 (by omega)
   have x2:wr.cell? ⟨b,o + p * 3 + 2,none⟩=some (.int .i64 (elt xs p).frm):=hc p hp' 2 (by omega)
   have hpi:(p:Int) < (xs.length:Int):=by omega
   have HN:Hid (elt xs.reverse q=elt xs p):=qhq (by
    rw [elt_eq (by simpa using hlt),elt_eq hp',List.getElem_reverse]
    congr 1
    omega)
   rw [hp]
   have HP:=qhq hp
   clear hc he hrow hp
   go_wp2_with (at_builtin;refine stopped ?_)
   unfold Stopped
   refine wpList_append1 _ (by rfl) _ _ 35 (by rfl) w.heap.size 42 _ 3 24 Tryz.underlying35 i_frame rfl (by omega) _ q _ (frC xs.reverse) (by rfl) HO.out [.int .i64 (elt xs p).fn,.int .i64 (elt xs p).line,.int .i64 (elt xs p).frm] rfl (by simp [Value.oneCell']) (by rfl) (fun _ _ _ _=>rfl) ?hN hsz (by omega) (by omega) ?_
   case hN =>
    intro j hj
    simp only [frC,HN.out]
    match j,hj with
    | 0,_=>rfl
    | 1,_=>rfl
    | 2,_=>rfl
   intro g cap w1 hO1 hG1 _ _
   go_wp2
   go_roundw
   case rel =>
    have:=HP.out
    exact ⟨q + 1,by omega,by congr 1 <;> omega,hO1,bl_own HB.out hsz HO.out hG1⟩
   case measure=>simp [intOf] <;> omega
  ·obtain rfl:q=xs.length:=by omega
   go_wp2
   go_ret
   exact ⟨_,rfl,HO.out,HB.out⟩
end Go.Proofs.YtcklnjjbhngbcaaGreatDoor
