/- Lemmas and contracts of functions that the theorem of this claim leans on (texts I3, B7, I7a, I9). -/
import Derived.Test.YtcklnjjbhngbcaaGreatDoorRowTopz00
import Derived.Deep.DeepCutAuto
import Derived.Deep.CutBlock
import Derived.Test.YtcklnjjbhngbcaaGreatDoorRowTopz10
import Derived.Test.YtcklnjjbhngbcaaGreatDoorRowTopz02
import Derived.Maps.OwnSet
import Derived.Test.YtcklnjjbhngbcaaGreatDoorRowUnz05
import Derived.Test.YtcklnjjbhngbcaaGreatDoorRowTopz13
import Derived.RangeFuncNested
import Derived.RangeFuncBound
import Derived.RangeFuncCalls
import Derived.RangeFuncLeaves
import Derived.RangeFuncBox
import Derived.Shelf.Abstract
import Derived.Shelf.RegionOpen
import Derived.WalkKit
import Derived.OwnWalkIn
import Derived.TacticsInMore
import Derived.LoopNIn
import Derived.LoopIn
import Derived.Test.YtcklnjjbhngbcaaGreatDoorRowUnz02
namespace Go.Proofs.YtcklnjjbhngbcaaGreatDoor
open Go.RowKit Go.Proofs.Lens
set_option maxRecDepth 100000 in
set_option maxHeartbeats 2000000 in
theorem impl_TraceOk_calls (v1 v2:Value) (t:PTr) (w:World) (h:RdTr w v1 v2 t) (hsm:smTr t) :
  Calls Tryz.prog 27 #[.agg #[v1,v2]] w fun e w'=>e=.returned (.agg #[.int .i64 (faultP t).1,.int .i64 (faultP t).2]) ∧ Below w.heap.size w w':=by
 have HT:=qhq h
 have HT0:=qhq h
 have HSM:=qhq hsm
 obtain ⟨⟨A1,c1,rfl,hn1,-⟩,⟨vv,⟨A2,c2,rfl,hn2,-⟩,-⟩⟩:=h
 obtain ⟨⟨hs1,-⟩,⟨hs2,-⟩⟩:=hsm
 go_enter Tryz.func27,Tryz.ntmps27
 go_upto_region 1 with fail
 generalize hW:World.alloc (World.alloc w _) _=W
 have HB:Hid (Below w.heap.size w W):=by rw [← hW];exact qhq (by repeat (with_reducible first | exact qrq _ _ | exact HL.out | refine qnq ?_ _ | refine bl_drew ?_ | refine qaq ?_ _ | refine bl_set ?_ (by dsimp only;omega) _))
 have HX:Hid (BoxAt W w.heap.size [.slice A1 t.fns.length c1,.slice A2 t.moms.length c2]):=by rw [← hW];exact qhq ((BoxAt.new w _ _).later (qaq (qrq _ _) _))
 have HR:Hid (Blk W (w.heap.size + 1) 62 2 (fun _=>.int .i64 0)):=by
  rw [← hW]
  have:=Blk.made (w.alloc (.cells #[.slice A1 t.fns.length c1,.slice A2 t.moms.length c2] 26)) #[.int .i64 0,.int .i64 0] 62
  rw [World.size_alloc] at this
  exact qhq <| this.congr fun j hj=>by match j,hj with | 0,_=>rfl | 1,_=>rfl
 clear hW
 obtain ⟨x0,x1⟩:=HX.out.open2
 go_cut [3] (fun s3 wx=>s3=.bool (szHd t) ∧ W=wx)
 case first =>
  by_cases h0:t.fns.length=0
  ·have hd:((t.fns.length:Int) == 0)=true:=by simp [h0]
   have H0:=qhq h0
   clear h0
   go_wp2
   go_meet
   exact ⟨by unfold szHd;simp [H0.out],rfl⟩
  ·have hd:((t.fns.length:Int) == 0)=false:=by rw [beq_eq_false_iff_ne];omega
   have H0:=qhq h0
   clear h0
   go_wp2
   all_goals
    go_meet
    refine ⟨congrArg Value.bool ?_,rfl⟩
    have h0:=H0.out
    go_tidy
    unfold szHd
    grind
 case rest =>
  obtain ⟨rfl,rfl⟩:=hcut
  clear x0 x1
  obtain ⟨x0,x1⟩:=HX.out.open2
  go_wp2_with fail
  go_loopw [3,31] (fun b i wr=>∃ k:Nat,k ≤ t.fns.length ∧ i=.int .i64 k ∧ b=.bool (szHd t || !fnsOk (t.fns.take k)) ∧ Below W.heap.size W wr) (fun _ i _=>t.fns.length - (intOf i).toNat)
  case atStart=>exact ⟨0,Nat.zero_le _,rfl,by simp [fnsOk],qrq _ _⟩
  case round =>
   obtain ⟨k,hk,rfl,rfl,hb⟩:=hrel
   have HL:=qhq hb
   by_cases hlt:k < t.fns.length
   ·obtain ⟨A',c',he,_,hrow⟩:=(HT.out.1.later HB.out).later hb
    obtain ⟨rfl,rfl⟩:A1=A' ∧ c1=c':=by simpa using he
    obtain ⟨b,o,rfl,hc⟩:=hrow (by omega)
    have hc0:wr.cell? ⟨b,o + k,none⟩=some (.string (elt t.fns k)):=by have:=hc k hlt 0 (by omega);simp only [Nat.mul_one,Nat.add_zero] at this;exact this
    have HSn:=qhq (fnsOk_snoc t.fns k hlt)
    clear hc he hrow hb x0 x1
    generalize hq:(szHd t || !fnsOk (t.fns.take k))=q
    have HQ:=qhq hq
    clear hq
    go_wp2
    all_goals
     go_roundw
     case rel =>
      refine ⟨k + 1,by omega,by go_num,congrArg Value.bool ?_,(by repeat (with_reducible first | exact qrq _ _ | exact HL.out | refine qnq ?_ _ | refine bl_drew ?_ | refine qaq ?_ _ | refine bl_set ?_ (by dsimp only;omega) _))⟩
      have hq:=HQ.out
      rw [HSn.out]
      go_tidy
      grind
     case measure=>simp [intOf];omega
   ·obtain rfl:k=t.fns.length:=by omega
    clear hb x0 x1
    obtain ⟨x0,x1⟩:=(HX.out.later HL.out).open2
    have hr:=HR.out.later HL.out
    have r0:=hr.cell (j:=0) (by omega)
    have r1:=hr.cell (j:=1) (by omega)
    have rf0:=hr.free 0
    have rf1:=hr.free 1
    have HR1:=qhq hr
    clear hr
    have HB1:=qhq (qtq HB.out HL.out)
    rw [List.take_length]
    have hso:=sizesOk_eq t
    generalize hq:(szHd t || !fnsOk t.fns)=q at hso
    have HSO:=qhq hso
    clear hso hq
    cases q with
    | true =>
     go_wp2
     have hf:faultP t=(1,0):=by unfold faultP;rw [if_pos (by rw [HSO.out];rfl)]
     refine bodyPost_ret (v:=.agg #[.int .i64 1,.int .i64 0]) (by simp [results,Tryz.results27,go_sem,r0,r1]) rfl ⟨by rw [hf],?_⟩
     have HL:=HB1
     exact (by repeat (with_reducible first | exact qrq _ _ | exact HL.out | refine qnq ?_ _ | refine bl_drew ?_ | refine qaq ?_ _ | refine bl_set ?_ (by dsimp only;omega) _))
    | false =>
     have HT1:=qhq (HT.out.later HB1.out)
     have HX1:=qhq (HX.out.later HL.out)
     clear HL HB HT HX HR x0 x1
     obtain ⟨x0,x1⟩:=HX1.out.open2
     go_wp2_with fail
     go_loopw [47] (fun i wy=>∃ k:Nat,k ≤ t.moms.length ∧ i=.int .i64 k ∧ firstNZ (momCode t) (t.moms.length - 0) 0=firstNZ (momCode t) (t.moms.length - k) k ∧ Below wr.heap.size wr wy) (fun i _=>t.moms.length - (intOf i).toNat)
     case atStart=>exact ⟨0,Nat.zero_le _,rfl,rfl,qrq _ _⟩
     case round =>
      obtain ⟨k,hk,rfl,hq,hb⟩:=hrel
      have HL:=qhq hb
      have HQ:=qhq hq
      clear hq
      by_cases hlt:k < t.moms.length
      ·obtain ⟨b,o,vk,hA,c0,c1',c2',c3,c4,c5,hvk⟩:=rd_moment (HT1.out.2.later hb) hlt
       have HA:=qhq hA
       have HVK:=qhq hvk
       obtain ⟨Av,cv,rfl,-⟩:=hvk
       have HX2:=qhq (HX1.out.later HL.out)
       have HR2:=qhq (HR1.out.later HL.out)
       have HT2:=qhq (HT1.out.later HL.out)
       have HB2:=qhq (qtq HB1.out HL.out)
       have hsm:=HSM.out.2.2 k hlt
       have hsz:w.heap.size + 1 < wr.heap.size:=HR2.out.lt
       clear hb x0 x1 r0 r1 rf0 rf1 hA
       subst A2
       obtain ⟨x0,x1⟩:=HX2.out.open2
       go_upto_region 12 with fail
       generalize hW2:World.alloc wr _=W2
       have hbl:Below wr.heap.size wr W2:=by rw [← hW2];exact qaq (qrq _ _) _
       have y0:W2.cell? ⟨wr.heap.size,0,none⟩=some (.int .i64 (elt t.moms k).kind):=by rw [← hW2];clear hW2;go_simp
       have y1:W2.cell? ⟨wr.heap.size,1,none⟩=some (.int .i64 (elt t.moms k).task):=by rw [← hW2];clear hW2;go_simp
       have y2:W2.cell? ⟨wr.heap.size,2,none⟩=some (.int .i64 (elt t.moms k).fn):=by rw [← hW2];clear hW2;go_simp
       have y3:W2.cell? ⟨wr.heap.size,3,none⟩=some (.int .i64 (elt t.moms k).line):=by rw [← hW2];clear hW2;go_simp
       have y4:W2.cell? ⟨wr.heap.size,4,none⟩=some (.string (elt t.moms k).text):=by rw [← hW2];clear hW2;go_simp
       have y5:W2.cell? ⟨wr.heap.size,5,none⟩=some (.slice Av (elt t.moms k).vars.length cv):=by rw [← hW2];clear hW2;go_simp
       have HX3:=qhq (HX2.out.later hbl)
       have HR3:=qhq (HR2.out.later hbl)
       have HT3:=qhq (HT2.out.later hbl)
       have HV3:=qhq (HVK.out.later hbl)
       have HB3:=qhq (qtq HB2.out hbl)
       have HL3:=qhq (qtq HL.out hbl)
       clear hbl hW2 x0 x1 HX2 HR2 HT2 HVK HB2 HL
       obtain ⟨x0,x1⟩:=HX3.out.open2
       go_wp2_with fail
       refine (momentOk_calls _ _ _ t (elt t.moms k) _ HT3.out HV3.out hsm hs1).mono ?_
       rintro e w1 ⟨rfl,hb⟩
       have HL2:=qhq (qtq HL3.out hb)
       have hr:=HR3.out.later hb
       have r0:=hr.cell (j:=0) (by omega)
       have r1:=hr.cell (j:=1) (by omega)
       have rf0:=hr.free 0
       have rf1:=hr.free 1
       have HB4:=qhq (qtq HB3.out hb)
       generalize hmo:momOk t.fns.length (elt t.moms k)=mo
       have HMO:=qhq hmo
       clear hr hb x0 x1 y0 y1 y2 y3 y4 y5 c0 c1' c2' c3 c4 c5 hmo
       cases mo with
       | true =>
        go_wp2
        go_roundw
        case rel=>exact ⟨k + 1,by omega,by go_num,HQ.out.trans (firstNZ_skip hlt (by unfold momCode;rw [if_pos HMO.out])),HL2.out⟩
        case measure=>simp [intOf];omega
       | false =>
        go_wp2
        have hf:faultP t=(2,(k:Int)):=by
         have h2:firstNZ (momCode t) (t.moms.length - 0) 0=(2,(k:Int)):=by
          rw [HQ.out,firstNZ_hit hlt (by unfold momCode;rw [if_neg (by rw [HMO.out];simp)];omega)]
          unfold momCode;rw [if_neg (by rw [HMO.out];simp)]
         unfold faultP
         rw [if_neg (by rw [HSO.out];simp),h2,if_pos (by simp)]
        refine bodyPost_ret (v:=.agg #[.int .i64 2,.int .i64 k]) (by simp [results,Tryz.results27,go_sem,r0,r1]) rfl ⟨by rw [hf],?_⟩
        have HL:=HB4
        exact (by repeat (with_reducible first | exact qrq _ _ | exact HL.out | refine qnq ?_ _ | refine bl_drew ?_ | refine qaq ?_ _ | refine bl_set ?_ (by dsimp only;omega) _))
      ·obtain rfl:k=t.moms.length:=by omega
       clear hb x0 x1 r0 r1
       have HT2:=qhq (HT1.out.later HL.out)
       have HX2:=qhq (HX1.out.later HL.out)
       have HR2:=qhq (HR1.out.later HL.out)
       have HB2:=qhq (qtq HB1.out HL.out)
       have HQ2:Hid (firstNZ (momCode t) (t.moms.length - 0) 0=(0,0)):=qhq (HQ.out.trans firstNZ_end)
       clear HB1 HX1 HR1 HQ HT1 rf0 rf1 HL
       obtain ⟨x0,x1⟩:=HX2.out.open2
       go_wp2_with fail
       refine (newWalk_calls _ _ _).mono ?_
       rintro e w1 ⟨g,f,rfl,hW,hg,hb⟩
       have HW:=qhq hW
       have HT3:=qhq (HT2.out.later hb)
       have HX3:=qhq (HX2.out.later hb)
       have HR3:=qhq (HR2.out.later hb)
       have HB3:=qhq (qtq HB2.out hb)
       have HG2:Hid (w.heap.size + 2 ≤ g):=qhq (Nat.le_trans HR2.out.lt hg)
       clear HB2 HX2 HR2 HT2 hW hb x0 x1 hg
       obtain ⟨x0,x1⟩:=HX3.out.open2
       go_wp2_with fail
       go_loopw [64] (fun i wz=>∃ (k:Nat) (cl:List PFr) (f:Nat → Value),k ≤ t.moms.length ∧ i=.int .i64 k ∧ firstNZ (moveCode t) (t.moms.length - 0) 0=firstNZ (moveCode t) (t.moms.length - k) k ∧
        Inv (stN t.moms k) k ∧ IsW wz g (.slice A1 t.fns.length c1) (.slice A2 t.moms.length c2) (stN t.moms k) cl f ∧ Below w.heap.size w wz ∧ w.heap.size + 2 ≤ g ∧
        BoxAt wz w.heap.size [.slice A1 t.fns.length c1,.slice A2 t.moms.length c2] ∧ Blk wz (w.heap.size + 1) 62 2 (fun _=>.int .i64 0)) (fun i _=>t.moms.length - (intOf i).toNat)
       case atStart =>
        exact ⟨0,[],f,Nat.zero_le _,rfl,rfl,inv0,HW.out,HB3.out,HG2.out,HX3.out,HR3.out⟩
       case round =>
        obtain ⟨k,cl,f,hk,rfl,hq,hinv,hW,hb,hg,hx,hr⟩:=hrel
        have HQ:=qhq hq
        have HI:=qhq hinv
        have HW:=qhq hW
        have HL:=qhq hb
        have HX:=qhq hx
        have HR:=qhq hr
        have HG:=qhq hg
        clear hq hinv hW hb hg hx hr x0 x1
        by_cases hlt:k < t.moms.length
        ·have HM:=qhq (HT0.out.2.later HL.out)
         obtain ⟨b,o,vk,hA,c0,c1',c2',c3,c4,c5,hvk⟩:=rd_moment HM.out hlt
         have HA:=qhq hA
         obtain ⟨Av,cv,rfl,-⟩:=hvk
         have hgs:=HW.out.blk.lt
         clear hA
         subst A2
         go_upto_region 19 with fail
         generalize hW2:World.alloc wr _=W2
         have hbl:Below wr.heap.size wr W2:=by rw [← hW2];exact qaq (qrq _ _) _
         have y0:W2.cell? ⟨wr.heap.size,0,none⟩=some (.int .i64 (elt t.moms k).kind):=by rw [← hW2];clear hW2;go_simp
         have y1:W2.cell? ⟨wr.heap.size,1,none⟩=some (.int .i64 (elt t.moms k).task):=by rw [← hW2];clear hW2;go_simp
         have y2:W2.cell? ⟨wr.heap.size,2,none⟩=some (.int .i64 (elt t.moms k).fn):=by rw [← hW2];clear hW2;go_simp
         have y3:W2.cell? ⟨wr.heap.size,3,none⟩=some (.int .i64 (elt t.moms k).line):=by rw [← hW2];clear hW2;go_simp
         have y4:W2.cell? ⟨wr.heap.size,4,none⟩=some (.string (elt t.moms k).text):=by rw [← hW2];clear hW2;go_simp
         have y5:W2.cell? ⟨wr.heap.size,5,none⟩=some (.slice Av (elt t.moms k).vars.length cv):=by rw [← hW2];clear hW2;go_simp
         have HX1:=qhq (HX.out.later hbl)
         have HR1:=qhq (HR.out.later hbl)
         have HM1:=qhq (HM.out.later hbl)
         have HW1:=qhq (HW.out.later hbl)
         have HB1:=qhq (qtq HL.out hbl)
         clear hbl hW2 HX HR HM HW HL
         go_wp2_with fail
         refine (check_calls g _ _ _ _ _ (elt t.moms k) _ _ HW1.out HI.out.lo HI.out.hi).mono ?_
         rintro e w2 ⟨rfl,hb⟩
         have HX2:=qhq (HX1.out.later hb)
         have hr:=HR1.out.later hb
         have r0:=hr.cell (j:=0) (by omega)
         have r1:=hr.cell (j:=1) (by omega)
         have rf0:=hr.free 0
         have rf1:=hr.free 1
         have HR2:=qhq hr
         have HM2:=qhq (HM1.out.later hb)
         have HW2:=qhq (HW1.out.later hb)
         have HB2:=qhq (qtq HB1.out hb)
         clear hb y0 y1 y2 y3 y4 y5 c0 c1' c2' c3 c4 c5 HX1 HR1 HM1 HW1 HB1 hgs hr
         have HMC:Hid (moveCode t k=checkP (stN t.moms k) (elt t.moms k)):=qhq rfl
         generalize hcc:checkP (stN t.moms k) (elt t.moms k)=cc at HMC
         have HCC:=qhq hcc
         clear hcc
         by_cases hz:cc=0
         ·have hd:(cc != 0)=false:=by simp [hz]
          have HZ:=qhq hz
          clear hz r0 r1 rf0 rf1
          go_wp2_with fail
          have hmo:momOk t.fns.length (elt t.moms k)=true:=by
           have:=firstNZ_zero (f:=momCode t) (d:=t.moms.length - 0) (k:=0) (by rw [HQ2.out]) k (by omega) (by omega)
           unfold momCode at this
           by_cases h4:momOk t.fns.length (elt t.moms k)=true
           ·exact h4
           ·rw [if_neg h4] at this;cases this
          refine (step_calls g _ _ _ _ _ t.moms k t.fns.length _ HW2.out HM2.out hlt HI.out hmo (HCC.out.trans HZ.out)).mono ?_
          rintro e w3 ⟨rfl,⟨f',hW3⟩,hgb⟩
          have HX3:=qhq (BoxAt.gb HX2.out hgb (by have:=HG.out;omega))
          have HR3:=qhq (Blk.gb HR2.out hgb (by have:=HG.out;omega))
          have HB3:=qhq (bl_grown HB2.out hgb (by have:=HG.out;omega))
          have HW3:=qhq hW3
          have HI3:=qhq (inv_step HI.out hmo (HCC.out.trans HZ.out))
          clear hgb hW3 hmo
          go_wp2
          go_roundw
          case rel =>
           exact ⟨k + 1,_,f',by omega,by go_num,HQ.out.trans (firstNZ_skip hlt (by rw [HMC.out,HZ.out])),HI3.out,HW3.out,HB3.out,HG.out,HX3.out,HR3.out⟩
          case measure=>simp [intOf];omega
         ·have hd:(cc != 0)=true:=by simp [hz]
          have HZ:=qhq hz
          clear hz
          go_wp2
          have hf:faultP t=(cc,(k:Int)):=by
           unfold faultP
           rw [if_neg (by rw [HSO.out];simp),HQ2.out,if_neg (by simp),HQ.out,firstNZ_hit hlt (by rw [HMC.out];exact HZ.out),HMC.out]
          refine bodyPost_ret (v:=.agg #[.int .i64 cc,.int .i64 k]) (by simp [results,Tryz.results27,go_sem,r0,r1]) rfl ⟨by rw [hf],?_⟩
          have HL:=HB2
          exact (by repeat (with_reducible first | exact qrq _ _ | exact HL.out | refine qnq ?_ _ | refine bl_drew ?_ | refine qaq ?_ _ | refine bl_set ?_ (by dsimp only;omega) _))
        ·obtain rfl:k=t.moms.length:=by omega
         have r0:=HR.out.cell (j:=0) (by omega)
         have r1:=HR.out.cell (j:=1) (by omega)
         have rf0:=HR.out.free 0
         have rf1:=HR.out.free 1
         go_wp2
         have hf:faultP t=(0,0):=by
          unfold faultP
          rw [if_neg (by rw [HSO.out];simp),HQ2.out,if_neg (by simp),HQ.out,firstNZ_end]
         refine bodyPost_ret (v:=.agg #[.int .i64 0,.int .i64 0]) (by simp [results,Tryz.results27,go_sem,r0,r1]) rfl ⟨by rw [hf],?_⟩
         exact (by repeat (with_reducible first | exact qrq _ _ | exact HL.out | refine qnq ?_ _ | refine bl_drew ?_ | refine qaq ?_ _ | refine bl_set ?_ (by dsimp only;omega) _))
end Go.Proofs.YtcklnjjbhngbcaaGreatDoor

namespace Go.Proofs.Lens
open Go.Proofs.YtcklnjjbhngbcaaGreatDoor
open Go.RowKit
structure MTy {α β:Type} (P:Program) (t kt et:TypeId) (kV:α → Value) (okK:α → Prop) (eV:β → Value) (eL:β → Lit) (okE:β → Prop) (z:β):Prop where
 keyed:Go.Maps.Keyed P kt
 und:P.underlying t=some (.map kt et)
 key:∀ x,okK x → ∃ l,keyOf P kt (kV x)=some l
 inj:∀ x y,kV x=kV y → x=y
 elem:∀ y,okE y → plainElem (H:=Unit) P et (eV y)=some (.lit (eL y),[])
 back:∀ v y ps,plainElem (H:=Unit) P et v=some (.lit (eL y),ps) → v=eV y
 zero:∀ w,(zeroValue et).run P w=.ok (eV z) w
 zok:okE z
def OwM {α β:Type} (P:Program) (kt et:TypeId) (kV:α → Value) (okK:α → Prop) (eL:β → Lit) (w:World) (b n:Nat) (M:α → Option β):Prop :=
 ∃ D:DataW Unit,w.ownsMap P kt (plainElem P et) b n D ∧ ∀ x,okK x → ∀ l,keyOf P kt (kV x)=some l → ∀ zd,D.atKey l zd=match M x with | none=>zd | some y=>.lit (eL y)
section
variable {α β : Type} {P : Program} {t kt et : TypeId} {kV : α → Value} {okK : α → Prop} {eV : β → Value} {eL : β → Lit} {okE : β → Prop} {z : β}
theorem OwM.made (w:World):OwM P kt et kV okK eL (w.alloc (.map #[] 0)) w.heap.size 0 (fun _=>none):=⟨.map [],World.ownsMap_made _ _ _ _,fun _ _ _ _ _=>rfl⟩
theorem OwM.kept {w w':World} {b n:Nat} {M:α → Option β} {row:Option Nat} (h:OwM P kt et kV okK eL w b n M) (hg:w.grownBy w' row) (hne:some b ≠ row):OwM P kt et kV okK eL w' b n M:=by
 obtain ⟨D,h1,h2⟩:=h
 exact ⟨D,h1.kept hg hne,h2⟩
theorem OwM.lt {w:World} {b n:Nat} {M:α → Option β} (h:OwM P kt et kV okK eL w b n M):b < w.heap.size:=by
 obtain ⟨D,h1,_⟩:=h
 exact h1.lt
theorem OwM.later {w w':World} {b n:Nat} {M:α → Option β} (h:OwM P kt et kV okK eL w b n M) (hb:Below w.heap.size w w'):OwM P kt et kV okK eL w' b n M :=
 h.kept (row:=none) ⟨hb.os,hb.tape,hb.output,hb.size,fun i hi _=>hb.block i hi⟩ (by simp)
theorem OwM.mv {w w':World} {b n lo:Nat} {M:α → Option β} {ts:List TypeId} (h:OwM P kt et kV okK eL w b n M) (hm:Mv ts lo w w'):OwM P kt et kV okK eL w' b n M:=by
 obtain ⟨D,⟨es,c,h1,h2⟩,h3⟩:=h
 exact ⟨D,⟨es,c,hm.kp b _ h1 (fun _ _ _ hh=>by cases hh),h2⟩,h3⟩
theorem OwM.ne {w:World} {b n g N:Nat} {M:α → Option β} {e:TypeId} {f:Nat → Value} (h:OwM P kt et kV okK eL w b n M) (hB:Blk w g e N f):g ≠ b:=by
 rintro rfl
 obtain ⟨D,⟨es,c,h1,_⟩,_⟩:=h
 obtain ⟨cur,h2,_⟩:=hB
 rw [h1] at h2
 cases h2
theorem OwM.congr {w:World} {b n:Nat} {M M':α → Option β} (h:OwM P kt et kV okK eL w b n M) (he:∀ x,okK x → M x=M' x):OwM P kt et kV okK eL w b n M':=by
 obtain ⟨D,h1,h2⟩:=h
 exact ⟨D,h1,fun x hx l hl zd=>by rw [h2 x hx l hl zd,he x hx]⟩
theorem OwM.look (T:MTy P t kt et kV okK eV eL okE z) {w:World} {b n:Nat} {M:α → Option β} (h:OwM P kt et kV okK eL w b n M) {x:α} (hx:okK x) :
  (Instr.lookup t (.map (some b)) (kV x) false).run P w=.ok (eV ((M x).getD z)) w:=by
 obtain ⟨D,h1,h2⟩:=h
 obtain ⟨l,hl⟩:=T.key x hx
 obtain ⟨v,ps,hrun,hv⟩:=h1.lookup T.keyed T.und (T.zero w) (T.elem z T.zok) hl
 rw [hrun]
 rw [h2 x hx l hl] at hv
 cases hM:M x with
 | none=>rw [hM] at hv;rw [T.back v z ps hv];rfl
 | some y=>rw [hM] at hv;rw [T.back v y ps hv];rfl
open Classical in
noncomputable def setM (M:α → Option β) (x:α) (y:β) (i:α):Option β:=if i=x then some y else M i
theorem OwM.update (T:MTy P t kt et kV okK eV eL okE z) {w:World} {b n:Nat} {M:α → Option β} (h:OwM P kt et kV okK eL w b n M) {x:α} (hx:okK x) {y:β} (hy:okE y) (hn:n < maxLen) :
  ∃ w',(Instr.mapUpdate t (.map (some b)) (kV x) (eV y)).run P w=.ok () w' ∧ OwM P kt et kV okK eL w' b (n + 1) (setM M x y) ∧ w.grownBy w' (some b):=by
 obtain ⟨D,h1,h2⟩:=h
 obtain ⟨l,hl⟩:=T.key x hx
 obtain ⟨w',hrun,h3,hg⟩:=h1.update T.keyed T.und hn hl (T.elem y hy)
 refine ⟨w',hrun,⟨_,h3,fun x' hx' l' hl' zd=>?_⟩,hg⟩
 unfold setM
 by_cases he:x'=x
 ·subst he
  rw [hl] at hl'
  cases hl'
  rw [if_pos rfl,Go.Maps.atKey_put_same h1.isMap (T.keyed.key hl)]
 ·rw [if_neg he,Go.Maps.atKey_put_other (show l' ≠ l from fun hll=>he (T.inj _ _ (T.keyed.inj hl' (by rw [hll];exact hl))))]
  exact h2 x' hx' l' hl' zd
end
def ok64 (x:Int):Prop:=-9223372036854775808 ≤ x ∧ x ≤ 9223372036854775807
theorem wf64 {x:Int} (h:ok64 x):(Lit.int .i64 x).wf=true:=by
 have h1:IntKind.min .i64=-9223372036854775808:=by decide
 have h2:IntKind.max .i64=9223372036854775807:=by decide
 simp only [Lit.wf,Bool.and_eq_true,decide_eq_true_eq]
 unfold ok64 at h
 omega
theorem Blk.gm {w w':World} {b g:Nat} {e:TypeId} {N:Nat} {f:Nat → Value} (h:Blk w b e N f) (hb:w.grownBy w' (some g)) (hne:b ≠ g):Blk w' b e N f :=
 h.keep (hb.block b h.lt (fun e=>hne (Option.some.inj e)))
end Go.Proofs.Lens

namespace Go.Proofs.YtcklnjjbhngbcaaGreatDoor
open Go.RowKit Go.Proofs.Lens
theorem m_int:MTy Tryz.prog 142 3 3 (fun x:Int=>.int .i64 x) ok64 (fun y:Int=>.int .i64 y) (fun y=>.int .i64 y) ok64 0 where
 keyed:=Go.Maps.int_keyed Tryz.underlying3
 und:=Tryz.underlying142
 key x hx:=⟨_,Go.Maps.keyOf_int_mk Tryz.underlying3 (wf64 hx)⟩
 inj x y h:=by simpa using h
 elem y hy:=plainElem_int Tryz.underlying3 (wf64 hy)
 back v y ps h:=by
  obtain ⟨a,rfl,h2,_⟩:=plainElem_int_inv Tryz.underlying3 h
  simp only [Prod.mk.injEq,DataW.lit.injEq,Lit.int.injEq,true_and] at h2
  rw [h2.1]
 zero w:=by kernel_rfl
 zok:=by unfold ok64;omega
abbrev OwMi (w:World) (b n:Nat) (M:Int → Option Int):Prop:=OwM Tryz.prog 3 3 (fun x:Int=>.int .i64 x) ok64 (fun y=>.int .i64 y) w b n M
theorem IsW.mv {w w':World} {g lo:Nat} {v1 v2:Value} {s:PS} {cl:List PFr} {f:Nat → Value} {ts:List TypeId} (h:IsW w g v1 v2 s cl f) (hm:Mv ts lo w w') (h1:146 ∉ ts) (h2:148 ∉ ts):IsW w' g v1 v2 s cl f:=by
 have hk:∀ (b N:Nat) (f:Nat → Value),Blk w b 148 N f → w'.heap[b]?=w.heap[b]?:=fun b N f hB=>by
  obtain ⟨cur,h3,_⟩:=hB
  rw [h3]
  exact hm.kp b _ h3 (fun cur' e' fr' hh=>by cases hh;exact h2)
 exact ⟨h.blk.mv hm h1,h.v1,h.v2,h.cur,fun i hi=>by obtain ⟨p,a,b⟩:=h.stk i hi;exact ⟨p,a,b.keep hk⟩,by obtain ⟨c,a,b⟩:=h.cl;exact ⟨c,a,b.keep hk⟩⟩
theorem FrL.mv {w w':World} {lo:Nat} {fs:List PFr} {p:Option Addr} {ts:List TypeId} (h:FrL w p fs) (hm:Mv ts lo w w') (h2:148 ∉ ts):FrL w' p fs :=
 h.keep fun b N f hB=>by
  obtain ⟨cur,h3,_⟩:=hB
  rw [h3]
  exact hm.kp b _ h3 (fun cur' e' fr' hh=>by cases hh;exact h2)
theorem FrL.gm {w w':World} {fs:List PFr} {p:Option Addr} {g:Nat} (h:FrL w p fs) (hg:w.grownBy w' (some g)) (hne:∀ b e N f,Blk w b e N f → b ≠ g):FrL w' p fs :=
 h.keep fun b N f hB=>hg.block b hB.lt (fun hh=>hne b _ N f hB (Option.some.inj hh))
theorem IsW.gm {w w':World} {g gm:Nat} {v1 v2:Value} {s:PS} {cl:List PFr} {f:Nat → Value} (h:IsW w g v1 v2 s cl f) (hg:w.grownBy w' (some gm)) (hne:∀ b e N f,Blk w b e N f → b ≠ gm):IsW w' g v1 v2 s cl f :=
 ⟨h.blk.gm hg (hne _ _ _ _ h.blk),h.v1,h.v2,h.cur,fun i hi=>by obtain ⟨p,a,b⟩:=h.stk i hi;exact ⟨p,a,b.gm hg hne⟩,by obtain ⟨c,a,b⟩:=h.cl;exact ⟨c,a,b.gm hg hne⟩⟩
theorem bl_trans3 {lo:Nat} {a b c:World} (h:Below lo a b) (k:Below lo b c):Below lo a c:=⟨k.os.trans h.os,k.tape.trans h.tape,k.output.trans h.output,Nat.le_trans h.size k.size,fun j hj=>(k.block j hj).trans (h.block j hj)⟩
end Go.Proofs.YtcklnjjbhngbcaaGreatDoor

namespace Go.Proofs.YtcklnjjbhngbcaaGreatDoor
open Go.RowKit Go.Proofs.Lens Go.Shelf
attribute [local go_sem] Oper.semAt_some
theorem valP_none {vs:List PVar} {nm:ByteArray} (h:∀ j,j < vs.length → (elt vs j).nm ≠ nm):valP vs nm=none:=by
 induction vs with
 | nil=>rfl
 | cons v r ih =>
  have hr:=ih fun j hj=>by have:=h (j + 1) (by simp;omega);simpa [elt] using this
  have h0:=h 0 (by simp)
  have h0:v.nm ≠ nm:=by simpa [elt] using h0
  simp [valP,hr,h0]
theorem valP_hit {vs:List PVar} {nm:ByteArray}:∀ {i:Nat},i < vs.length → (∀ j,i < j → j < vs.length → (elt vs j).nm ≠ nm) → (elt vs i).nm=nm → valP vs nm=some (elt vs i).tx:=by
 induction vs with
 | nil=>intro i hi;exact absurd hi (by simp)
 | cons v r ih =>
  intro i hi h1 h2
  cases i with
  | zero =>
   have hr:valP r nm=none:=valP_none fun j hj=>by have:=h1 (j + 1) (by omega) (by simp;omega);simpa [elt] using this
   have h2:v.nm=nm:=by simpa [elt] using h2
   simp [valP,hr,h2,elt]
  | succ i =>
   have:=ih (i:=i) (by simp at hi;omega) (fun j hj hj2=>by have:=h1 (j + 1) (by omega) (by simp;omega);simpa [elt] using this) (by simpa [elt] using h2)
   simp [valP,this,elt]
def bkUp (vs:List PVar) (k:Nat):List (Nat × PVar):=(List.range k).map fun j=>(vs.length - 1 - j,elt vs (vs.length - 1 - j))
theorem bkUp_succ (vs:List PVar) (k:Nat):bkUp vs (k + 1)=bkUp vs k ++ [(vs.length - 1 - k,elt vs (vs.length - 1 - k))]:=by simp [bkUp,List.range_succ]
theorem bkUp_len (vs:List PVar) (k:Nat):(bkUp vs k).length=k:=by simp [bkUp]
abbrev bkEnc (x:Nat × PVar):Array Value:=#[.int .i64 (x.1:Int),.agg #[.string x.2.nm,.string x.2.tx]]
set_option maxRecDepth 100000 in
set_option maxHeartbeats 2000000 in
theorem back1_in (F:Fence) (n:Nat) (h7:F.fn 186) (hro:F.round=none) (hn:1 ≤ n) (l Bs n₀ cap:Nat) (A:Option Addr) (vs:List PVar) (hsm:vs.length ≤ 9223372036854775807) (hBl:Bs < n₀)
  (J Jx:List (Nat × PVar) → World → Prop)
  (hY:∀ pre x W,J pre W → pre.length < vs.length → YieldAt F (n - 1) Tryz.prog l (bkEnc x) W fun e W' =>
   (e=.returned (.bool true) ∧ J (pre ++ [x]) W' ∧ Below n₀ W W') ∨ (e=.returned (.bool false) ∧ Jx (pre ++ [x]) W'))
  (W:World) (hBs:W.cell? ⟨Bs,0,none⟩=some (.slice A vs.length cap)) (hc:0 < vs.length → ∃ b o,A=some ⟨b,o,none⟩ ∧ b < n₀ ∧ ∀ i,i < vs.length → ∀ j,j < 2 → W.cell? ⟨b,o + i * 2 + j,none⟩=some (varC vs i j)) (h0:J [] W) :
  CallsIn F n Tryz.prog 186 #[.func (.yield l) #[] #[],.pointer (some ⟨Bs,0,none⟩)] W fun e W'=>(∃ v,e=.returned v) ∧
   ((∃ ys,ys=bkUp vs vs.length ∧ J ys W') ∨ (∃ pre,(∃ k,k ≤ vs.length ∧ pre=bkUp vs k) ∧ Jx pre W')):=by
 refine callsIn_of_wp Tryz.func186 rfl h7 ?_ hro
 simp only [Tryz.ntmps186,List.size_toArray,List.length_cons,List.length_nil,Nat.reduceAdd,Nat.reduceSub,Array.replicate_succ,Array.replicate_zero,List.push_toArray,List.append_toArray,List.nil_append,List.cons_append]
 gi_wp2
 gi_loopw [3] (fun i wr=>∃ k:Nat,k ≤ vs.length ∧ i=.int .i64 ((vs.length:Int) - 1 - k) ∧ J (bkUp vs k) wr ∧ Below n₀ W wr)
  (fun i _=>(intOf i + 1).toNat)
 case atStart=>exact ⟨0,Nat.zero_le _,by simp,h0,qrq _ _⟩
 case round =>
  obtain ⟨k,hk,rfl,hJs,hnx⟩:=hrel
  have hBs':wr.cell? ⟨Bs,0,none⟩=some (.slice A vs.length cap):=(hnx.cell (p:=⟨Bs,0,none⟩) hBl).trans hBs
  by_cases hlt:k < vs.length
  ·obtain ⟨b,o,rfl,hb,hcs⟩:=hc (by omega)
   obtain ⟨i,hi⟩:∃ i,vs.length - 1 - k=i:=⟨_,rfl⟩
   have hil:i < vs.length:=by omega
   have c0:wr.cell? ⟨b,o + i * 2,none⟩=some (.string (elt vs i).nm):=(hnx.cell (p:=⟨b,o + i * 2,none⟩) hb).trans (hcs i hil 0 (by omega))
   have c1:wr.cell? ⟨b,o + i * 2 + 1,none⟩=some (.string (elt vs i).tx):=(hnx.cell (p:=⟨b,o + i * 2 + 1,none⟩) hb).trans (hcs i hil 1 (by omega))
   obtain ⟨fn,tmps,assign,body,hy,hR⟩:=hY _ (i,elt vs i) wr hJs (by rw [bkUp_len];exact hlt)
   dsimp only [bkEnc] at hy
   have hi2:(vs.length:Int) - 1 - k=(i:Int):=by omega
   have hil2:(i:Int) < (vs.length:Int):=by omega
   rw [hi2]
   gi_wp2
   refine hR.mono ?_
   rintro e W3 (⟨rfl,hJ3,hk3⟩ | ⟨rfl,hJx3⟩)
   ·gi_wp2
    go_roundw
    case rel=>exact ⟨k + 1,by omega,by go_num,by rw [bkUp_succ,hi];exact hJ3,hnx.trans hk3⟩
    case measure=>simp [intOf] <;> omega
   ·gi_wp2
    refine bodyPost_ret (results_none rfl _ _ _) rfl ?_
    exact ⟨⟨_,rfl⟩,.inr ⟨_,⟨k + 1,by omega,by rw [bkUp_succ,hi]⟩,hJx3⟩⟩
  ·obtain rfl:k=vs.length:=by omega
   have hi2:(vs.length:Int) - 1 - vs.length=-1:=by omega
   rw [hi2]
   gi_wp2
   go_end0
   exact ⟨⟨_,rfl⟩,.inl ⟨_,rfl,hJs⟩⟩
set_option maxHeartbeats 1000000 in
theorem back_in (F:Fence) (n:Nat) (h5:F.fn 168) (hro:F.round=none) (a:Option Addr) (len cap:Nat) (w:World) :
  CallsIn F n Tryz.prog 168 #[.slice a len cap] w fun e w'=>e=.returned (.func (.func 186) #[] #[.pointer (some ⟨w.heap.size,0,none⟩)]) ∧ w'=w.alloc (.cells #[.slice a len cap] 36):=by
 refine callsIn_of_wp Tryz.func168 rfl h5 ?_ hro
 simp only [Tryz.ntmps168,List.size_toArray,List.length_cons,List.length_nil,Nat.reduceAdd,Nat.reduceSub,Array.replicate_succ,Array.replicate_zero,List.push_toArray,List.append_toArray,List.nil_append,List.cons_append]
 gi_wp2
 go_ret
 exact ⟨rfl,rfl⟩
theorem back_stops (F:Fence) (n:Nat) (h7:F.fn 186) (hro:F.round=none) (hn:1 ≤ n) (Bs cap:Nat) (A:Option Addr) (vs:List PVar) (hsm:vs.length ≤ 9223372036854775807) (w:World) (hBs:Bs < w.heap.size)
  (hc:w.cell? ⟨Bs,0,none⟩=some (.slice A vs.length cap)) (hR:RowR w A vs.length 2 (varC vs)) :
  SeqStopsK F n Tryz.prog 186 #[.pointer (some ⟨Bs,0,none⟩)] bkEnc (Below w.heap.size) (fun ys=>ys=bkUp vs vs.length) (fun pre=>∃ k,k ≤ vs.length ∧ pre=bkUp vs k) vs.length w:=fun l J Jx W hW _ _ hY h0=>by
 have hc':=(hW.cell (p:=⟨Bs,0,none⟩) hBs).trans hc
 refine back1_in F n h7 hro hn l Bs w.heap.size cap A vs hsm hBs J Jx hY W hc' (fun h=>?_) h0
 obtain ⟨b,o,rfl,hcs⟩:=hR h
 have hb:b < w.heap.size:=World.block_lt_of_cell? _ _ (hcs 0 h 0 (by omega))
 exact ⟨b,o,rfl,hb,fun i hi j hj=>(hW.cell (p:=⟨b,o + i * 2 + j,none⟩) hb).trans (hcs i hi j hj)⟩
set_option maxRecDepth 100000 in
set_option maxHeartbeats 4000000 in
theorem value_in (F:Fence) (n:Nat) (h3:F.fn 154) (h5:F.fn 168) (h7:F.fn 186) (hro:F.round=none) (hn:3 ≤ n) (m:PMom) (Av:Option Addr) (cv:Nat) (nm:ByteArray) (w:World) (hR:RdVars w (.slice Av m.vars.length cv) m.vars) :
  CallsIn F n Tryz.prog 154 #[.agg #[.int .i64 m.kind,.int .i64 m.task,.int .i64 m.fn,.int .i64 m.line,.string m.text,.slice Av m.vars.length cv],.string nm] w fun e W' =>
   e=.returned (.tuple #[.string ((valP m.vars nm).getD ⟨#[]⟩),.bool (valP m.vars nm).isSome]) ∧ Below w.heap.size w W':=by
 have h1:1 ≤ n:=by omega
 refine callsIn_of_wp_marks Tryz.func154 rfl h3 ?_ hro
 simp only [Tryz.ntmps154,List.size_toArray,List.length_cons,List.length_nil,Nat.reduceAdd,Nat.reduceSub,Array.replicate_succ,Array.replicate_zero,List.push_toArray,List.append_toArray,List.nil_append,List.cons_append]
 gi_wp2_with (gi_at_call 168;refine (back_in F (n - 1) h5 hro _ _ _ _).mono ?_;rintro e w' ⟨rfl,rfl⟩)
 have bN:=(((Boxed.new (w.alloc (.cells #[.int .i64 m.kind,.int .i64 m.task,.int .i64 m.fn,.int .i64 m.line,.string m.text,.slice Av m.vars.length cv] 114)) 9 (.string nm)).alloc (.cells #[.string ⟨#[]⟩] 9)).alloc (.cells #[.bool false] 4)).alloc (.cells #[.slice Av m.vars.length cv] 36)
 have bS:=((Boxed.new ((w.alloc (.cells #[.int .i64 m.kind,.int .i64 m.task,.int .i64 m.fn,.int .i64 m.line,.string m.text,.slice Av m.vars.length cv] 114)).alloc (.cells #[.string nm] 9)) 9 (.string ⟨#[]⟩)).alloc (.cells #[.bool false] 4)).alloc (.cells #[.slice Av m.vars.length cv] 36)
 have bO:=(Boxed.new (((w.alloc (.cells #[.int .i64 m.kind,.int .i64 m.task,.int .i64 m.fn,.int .i64 m.line,.string m.text,.slice Av m.vars.length cv] 114)).alloc (.cells #[.string nm] 9)).alloc (.cells #[.string ⟨#[]⟩] 9)) 4 (.bool false)).alloc (.cells #[.slice Av m.vars.length cv] 36)
 have bX:=Boxed.new ((((w.alloc (.cells #[.int .i64 m.kind,.int .i64 m.task,.int .i64 m.fn,.int .i64 m.line,.string m.text,.slice Av m.vars.length cv] 114)).alloc (.cells #[.string nm] 9)).alloc (.cells #[.string ⟨#[]⟩] 9)).alloc (.cells #[.bool false] 4)) 36 (.slice Av m.vars.length cv)
 simp only [World.size_alloc] at bN bS bO bX
 have hB0:Below w.heap.size w (((((w.alloc (.cells #[.int .i64 m.kind,.int .i64 m.task,.int .i64 m.fn,.int .i64 m.line,.string m.text,.slice Av m.vars.length cv] 114)).alloc (.cells #[.string nm] 9)).alloc (.cells #[.string ⟨#[]⟩] 9)).alloc (.cells #[.bool false] 4)).alloc (.cells #[.slice Av m.vars.length cv] 36)):=(by repeat (with_reducible first | exact qrq _ _ | exact HL.out | refine qnq ?_ _ | refine bl_drew ?_ | refine qaq ?_ _ | refine bl_set ?_ (by dsimp only;omega) _))
 have hsz:(((((w.alloc (.cells #[.int .i64 m.kind,.int .i64 m.task,.int .i64 m.fn,.int .i64 m.line,.string m.text,.slice Av m.vars.length cv] 114)).alloc (.cells #[.string nm] 9)).alloc (.cells #[.string ⟨#[]⟩] 9)).alloc (.cells #[.bool false] 4)).alloc (.cells #[.slice Av m.vars.length cv] 36)).heap.size=w.heap.size + 5:=by simp
 generalize hW0:World.alloc (World.alloc (World.alloc (World.alloc (World.alloc w _) _) _) _) _=W0 at bN bS bO bX hB0 hsz ⊢
 clear hW0
 obtain ⟨a',c',he,hlm,hrow⟩:=hR.later hB0
 obtain ⟨rfl,-,rfl⟩:Av=a' ∧ m.vars.length=m.vars.length ∧ cv=c':=by simpa using he
 refine wpIn_rangeFunc_ownH hro h1 (gf:=186) (lb:=#[.pointer (some ⟨w.heap.size + 1 + 1 + 1 + 1,0,none⟩)]) rfl h7 (enters_of Tryz.func186 (by kernel_rfl) rfl)
  (back_stops F (n - 1) h7 hro (by omega) (w.heap.size + 1 + 1 + 1 + 1) cv Av m.vars hlm W0 (by omega) bX.cell hrow) belowK_t (belowK_b (Nat.le_refl _)) (qrq _ _) (fun _=>rfl)
  (fun pre W=>(((∀ y ∈ pre,y.2.nm ≠ nm) ∧ Boxed W (w.heap.size + 1) 9 (.string nm) ∧ Boxed W (w.heap.size + 1 + 1 + 1 + 1) 36 (.slice Av m.vars.length cv)) ∧ Boxed W (w.heap.size + 1 + 1) 9 (.string ⟨#[]⟩) ∧ Boxed W (w.heap.size + 1 + 1 + 1) 4 (.bool false)) ∧ Below w.heap.size w W)
  (fun c pre W=>(c=.ret ∧ ∃ ini last,pre=ini ++ [last] ∧ (∀ y ∈ ini,y.2.nm ≠ nm) ∧ last.2.nm=nm ∧ Boxed W (w.heap.size + 1 + 1) 9 (.string last.2.tx) ∧ Boxed W (w.heap.size + 1 + 1 + 1) 4 (.bool true)) ∧ Below w.heap.size w W)
  (OwnFrom.and (OwnFrom.and (OwnFrom.and (ownFrom_pure _ _) (OwnFrom.and (Own.from (boxed_own _ _ _) _) (Own.from (boxed_own _ _ _) _))) (OwnFrom.and (Own.from (boxed_own _ _ _) _) (Own.from (boxed_own _ _ _) _))) (ownFrom_below (Nat.le_refl _) (by omega)))
  (fun c=>OwnFrom.and (fun s X Y row hs hg hr=>by
   obtain ⟨hc,ini,last,e1,e2,e3,e4,e5⟩:=hs
   exact ⟨hc,ini,last,e1,e2,e3,boxed_own _ _ (fun (_:Unit)=>Value.string last.2.tx) () X Y row e4 hg (fun r e=>(hr r e).2),boxed_own _ _ (fun (_:Unit)=>Value.bool true) () X Y row e5 hg (fun r e=>(hr r e).2)⟩) (ownFrom_below (Nat.le_refl _) (by omega)))
  ⟨⟨⟨by simp,bN,bX⟩,bS,bO⟩,hB0⟩
  (fun x a' W=>∃ Bx,w.heap.size + 4 < Bx ∧ W.cell? ⟨Bx,0,none⟩=some (.string x.2.nm) ∧ W.cell? ⟨Bx,1,none⟩=some (.string x.2.tx) ∧
   a'={ tmps:=#[.agg #[.int .i64 m.kind,.int .i64 m.task,.int .i64 m.fn,.int .i64 m.line,.string m.text,.slice Av m.vars.length cv],.string nm,.pointer (some ⟨w.heap.size,0,none⟩),.pointer (some ⟨w.heap.size + 1,0,none⟩),.pointer (some ⟨w.heap.size + 1 + 1,0,none⟩),.pointer (some ⟨w.heap.size + 1 + 1 + 1,0,none⟩),undef,.pointer (some ⟨Bx,0,none⟩),.pointer (some ⟨w.heap.size,5,none⟩),.slice Av m.vars.length cv,.func (.func 186) #[] #[.pointer (some ⟨w.heap.size + 1 + 1 + 1 + 1,0,none⟩)],.int .i64 (x.1:Int),.agg #[.string x.2.nm,.string x.2.tx],undef,undef,undef,undef,undef,undef],defers:=[] })
  (fun x a' _ X Y row hs hg hr=>by
   obtain ⟨Bx,h1,h2,h3,h4⟩:=hs
   exact ⟨Bx,h1,cell_kept h2 hg (fun r e=>(hr r e).2),cell_kept h3 hg (fun r e=>(hr r e).2),h4⟩)
  ?assign ?body ?done ?stop
 case assign =>
  rintro l pre x W K ⟨⟨⟨hp,bN1,bX1⟩,bS1,bO1⟩,hB1⟩ hK
  have hlt:=bX1.lt
  gi_wp2
  exact hK _ _ ((KeepsOthers.alloc _ _).from _) ((qrq _ W).alloc (by omega) _) ⟨⟨⟨hp,bN1.alloc _,bX1.alloc _⟩,bS1.alloc _,bO1.alloc _⟩,hB1.alloc hB1.size _⟩ ⟨W.heap.size,by omega,(Blk.made W #[.string x.2.nm,.string x.2.tx] 40).cell (j:=0) (by simp),(Blk.made W #[.string x.2.nm,.string x.2.tx] 40).cell (j:=1) (by simp),rfl⟩
 case body =>
  rintro l pre x a' W hl ⟨r,hr⟩ ⟨⟨⟨hp,bN1,bX1⟩,bS1,bO1⟩,hB1⟩ ⟨Bx,hBx,x0,x1,rfl⟩ hlt
  have cN:=bN1.cell
  have cS:=bS1.cell
  have fS:=bS1.frozen
  have cO:=bO1.cell
  have fO:=bO1.frozen
  gi_wp2
  ·have hx:x.2.nm=nm:=by rename_i hx;exact ba_eq (eq_of_beq hx)
   exact ⟨((KeepsOthers.setCell _ _ _).trans (KeepsOthers.setCell _ _ _)).from _,⟨rfl,pre,x,rfl,hp,hx,(bS1.set _).other (by omega) _,(bO1.other (by omega) _).set _⟩,(hB1.setCell (p:=⟨w.heap.size + 1 + 1,0,none⟩) (by simp;omega) _).setCell (p:=⟨w.heap.size + 1 + 1 + 1,0,none⟩) (by simp;omega) _⟩
  ·have hx:x.2.nm ≠ nm:=by rename_i hx;exact fun hh=>by rw [hh] at hx;simp at hx
   exact ⟨KeepsFrom.refl _ _,qrq _ _,⟨⟨fun y hy=>(List.mem_append.1 hy).elim (hp y) (fun e=>by simp at e;subst e;exact hx),bN1,bX1⟩,bS1,bO1⟩,hB1⟩
 case done =>
  rintro D ys W hD rfl ⟨⟨⟨hne,_⟩,bS1,bO1⟩,hB⟩ hK
  have cS:=bS1.cell
  have fS:=bS1.frozen
  have cO:=bO1.cell
  have fO:=bO1.frozen
  gi_wp2
  have hK':=((KeepsOthers.setCell W ⟨w.heap.size + 1 + 1,0,none⟩ (.string ⟨#[]⟩)).trans (KeepsOthers.setCell _ ⟨w.heap.size + 1 + 1 + 1,0,none⟩ (.bool false))).same D _ hK rfl
  refine ⟨by simp,.inl ⟨_,_,rfl,run_takeDeferred hK',?_⟩⟩
  have hc5:=cell_kept ((bS1.set (.string ⟨#[]⟩)).other (B':=w.heap.size + 1 + 1 + 1) (by omega) (.bool false)).cell (grownBy_putObj' _ D (.deferred none)) (fun r e=>by cases e;exact ⟨_,hK',rfl⟩)
  have hc6:=cell_kept ((bO1.other (B':=w.heap.size + 1 + 1) (by omega) (.string ⟨#[]⟩)).set (.bool false)).cell (grownBy_putObj' _ D (.deferred none)) (fun r e=>by cases e;exact ⟨_,hK',rfl⟩)
  have hv:valP m.vars nm=none:=valP_none fun j hj=>hne (j,elt m.vars j) (by
   simp only [bkUp,List.mem_map,List.mem_range]
   exact ⟨m.vars.length - 1 - j,by omega,by rw [show m.vars.length - 1 - (m.vars.length - 1 - j)=j by omega]⟩)
  refine ⟨.tuple #[.string ⟨#[]⟩,.bool false],?_,by rw [hv];rfl,((hB.setCell (p:=⟨w.heap.size + 1 + 1,0,none⟩) (by simp;omega) _).setCell (p:=⟨w.heap.size + 1 + 1 + 1,0,none⟩) (by simp;omega) _).trans (belowK_b (w:=w) (Nat.le_refl _) _ D _ _ (by omega) hK' rfl rfl)⟩
  simp [results,Tryz.f154,go_sem,hc5,hc6]
 case stop =>
  rintro D c pre W hD ⟨k,hk,rfl⟩ ⟨⟨rfl,ini,last,e1,e2,e3,bS1,bO1⟩,hB⟩ hK
  gi_wp2
  refine ⟨by simp,.inl ⟨_,_,rfl,run_takeDeferred hK,?_⟩⟩
  have hc5:=cell_kept bS1.cell (grownBy_putObj' _ D (.deferred none)) (fun r e=>by cases e;exact ⟨_,hK,rfl⟩)
  have hc6:=cell_kept bO1.cell (grownBy_putObj' _ D (.deferred none)) (fun r e=>by cases e;exact ⟨_,hK,rfl⟩)
  obtain ⟨k',rfl⟩:∃ k',k=k' + 1:=by
   cases k with
   | zero=>simp [bkUp] at e1
   | succ k'=>exact ⟨k',rfl⟩
  rw [bkUp_succ] at e1
  obtain ⟨rfl,e5⟩:=List.append_inj' e1 rfl
  obtain rfl:(m.vars.length - 1 - k',elt m.vars (m.vars.length - 1 - k'))=last:=by simpa using e5
  have hv:=valP_hit (vs:=m.vars) (nm:=nm) (i:=m.vars.length - 1 - k') (by omega) (fun j hj hj2=>e2 (j,elt m.vars j) (by
   simp only [bkUp,List.mem_map,List.mem_range]
   exact ⟨m.vars.length - 1 - j,by omega,by rw [show m.vars.length - 1 - (m.vars.length - 1 - j)=j by omega]⟩)) e3
  refine ⟨.tuple #[.string (elt m.vars (m.vars.length - 1 - k')).tx,.bool true],?_,by rw [hv];rfl,hB.trans (belowK_b (w:=w) (Nat.le_refl _) W D _ _ (by omega) hK rfl rfl)⟩
  simp [results,Tryz.f154,go_sem,hc5,hc6]
theorem value_calls (m:PMom) (Av:Option Addr) (cv:Nat) (nm:ByteArray) (w:World) (hR:RdVars w (.slice Av m.vars.length cv) m.vars) :
  Calls Tryz.prog 154 #[.agg #[.int .i64 m.kind,.int .i64 m.task,.int .i64 m.fn,.int .i64 m.line,.string m.text,.slice Av m.vars.length cv],.string nm] w fun e W' =>
   e=.returned (.tuple #[.string ((valP m.vars nm).getD ⟨#[]⟩),.bool (valP m.vars nm).isSome]) ∧ Below w.heap.size w W' :=
 callsIn_wide.1 (value_in Fence.wide 3 trivial trivial trivial rfl (Nat.le_refl _) m Av cv nm w hR)
end Go.Proofs.YtcklnjjbhngbcaaGreatDoor
