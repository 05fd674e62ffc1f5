/- Lemmas and contracts of functions that the theorem of this claim leans on (texts RM2). -/
import Derived.Test.YtcklnjjbhngbcaaGreatDoorRowTopz00
import Derived.Test.YtcklnjjbhngbcaaGreatDoorRowTopzB
import Derived.Deep.DeepCutAuto
import Derived.Deep.CutBlock
import Derived.Test.YtcklnjjbhngbcaaGreatDoorRowUnz27
import Derived.Test.YtcklnjjbhngbcaaGreatDoorRowTopz10
import Derived.Test.YtcklnjjbhngbcaaGreatDoorRowTopz09
import Derived.Test.YtcklnjjbhngbcaaGreatDoorRowUnz02
import Derived.Test.YtcklnjjbhngbcaaGreatDoorRowUnz05
import Derived.Test.YtcklnjjbhngbcaaGreatDoorRowTopz13
import Derived.Test.YtcklnjjbhngbcaaGreatDoorRowTopz34
import Derived.Test.YtcklnjjbhngbcaaGreatDoorRowTopz12
namespace Go.Proofs.YtcklnjjbhngbcaaGreatDoor
open Go.RowKit Go.Proofs.Lens
def fcTys:List TypeId:=[161,35,42,106,4]
set_option maxRecDepth 100000 in
set_option maxHeartbeats 2000000 in
theorem spec_FnCounts_bad (v1 v2:Value) (t:PTr) (w:World) (h:RdTr w v1 v2 t) (hsm:smTr t) (hs:soundP t=false) :
  Calls Tryz.prog 48 #[.agg #[v1,v2]] w (OwRet w 106 4 (fcP t).length (fcRow (fcP t))):=by
 have HT:=qhq h
 have HS:=qhq hsm
 obtain ⟨⟨A1,c1,rfl,hn1,-⟩,⟨vv,⟨A2,c2,rfl,hn2,-⟩,-⟩⟩:=h
 have HR:Hid (fcP t=[]):=qhq (by unfold fcP;rw [hs];rfl)
 have HQ:=qhq hs
 clear hs hsm
 go_enter Tryz.func48,Tryz.ntmps48
 go_wp2_with fail
 refine (l1ok_is _ _ t _ (HT.out.later (by repeat (with_reducible first | exact qrq _ _ | exact HL.out | refine qnq ?_ _ | refine bl_drew ?_ | refine qaq ?_ _ | refine bl_set ?_ (by dsimp only;omega) _))) HS.out HQ.out).mono ?_;rintro e w1 ⟨rfl,hb⟩
 have HB:=qhq (qtq (qaq (qrq _ w) _) hb)
 clear hb
 go_wp2
 go_ret
 rw [HR.out]
 exact ⟨_,rfl,OwR.nil,HB.out⟩
set_option maxRecDepth 100000 in
set_option maxHeartbeats 8000000 in
theorem spec_FnCounts_good (v1 v2:Value) (t:PTr) (w:World) (h:RdTr w v1 v2 t) (hsm:smTr t) (hs:soundP t=true) :
  Calls Tryz.prog 48 #[.agg #[v1,v2]] w (OwRet w 106 4 (fcP t).length (fcRow (fcP t))):=by
 have HT:=qhq h
 have HS:=qhq hsm
 obtain ⟨⟨A1,c1,rfl,hn1,-⟩,⟨vv,⟨A2,c2,rfl,hn2,-⟩,-⟩⟩:=h
 have HR:Hid (fcP t=fcList (fcN t.moms t.moms.length) t.fns.length):=qhq (by unfold fcP;rw [hs];rfl)
 have HQ:=qhq hs
 have hso:=sound_iff hs
 obtain ⟨nf0,nf1,nm1⟩:=sound_fns hso
 have SO:=qhq hso
 obtain ⟨C,hC,hc,hmk⟩:=make_law (P:=Tryz.prog) 64 106 Tryz.underlying64 i_fc t.fns.length (by omega) (by omega)
 obtain ⟨D,hD,hd,hmk2⟩:=make_law (P:=Tryz.prog) 165 4 Tryz.underlying165 i_bool t.fns.length (by omega) (by omega)
 have HC:=qhq hC
 have Hc:=qhq hc
 have HD:=qhq hD
 have Hd:=qhq hd
 clear hs hsm hso hC hc hD hd
 go_enter Tryz.func48,Tryz.ntmps48
 go_wp2_with fail
 refine (l1ok_is _ _ t _ (HT.out.later (by repeat (with_reducible first | exact qrq _ _ | exact HL.out | refine qnq ?_ _ | refine bl_drew ?_ | refine qaq ?_ _ | refine bl_set ?_ (by dsimp only;omega) _))) HS.out HQ.out).mono ?_;rintro e w1 ⟨rfl,hb⟩
 have HX:=qhq ((Blk.made w #[.slice A1 t.fns.length c1,.slice A2 t.moms.length c2] 26).later hb)
 have HM:=qhq (Mv.then (ts:=fcTys) ((Mv.refl _ _ w).alloc (Nat.le_refl _) _) (by simp) hb)
 have hw1:w.heap.size < w1.heap.size:=HX.out.lt
 clear hb
 have x0:w1.cell? ⟨w.heap.size,0,none⟩=some (.slice A1 t.fns.length c1):=HX.out.cell (j:=0) (by simp)
 go_wp2_with fail
 clear x0
 go_loopw [20] (fun i wr=>∃ q:Nat,q ≤ t.fns.length ∧ i=.int .i64 q ∧ OwR wr w1.heap.size 106 4 t.fns.length (fcI q) (.slice (some ⟨w1.heap.size,0,none⟩) t.fns.length t.fns.length) ∧ Mv fcTys w.heap.size w wr ∧
  Blk wr w.heap.size 26 2 (fun j=>#[Value.slice A1 t.fns.length c1,.slice A2 t.moms.length c2].getD j undef)) (fun i _=>t.fns.length - (intOf i).toNat)
 case atStart =>
  exact ⟨0,Nat.zero_le _,rfl,OwR.made HC.out Hc.out (by rfl) (by simp only [maxLen];omega) _ (fun i hi j hj=>by match j,hj with | 0,_=>rfl | 1,_=>rfl | 2,_=>rfl | 3,_=>rfl),HM.out.alloc HM.out.size _,HX.out.alloc _⟩
 case round =>
  obtain ⟨q,hq,rfl,hO,hM,hX⟩:=hrel
  clear HM HX
  have HO:=qhq hO
  have HM:=qhq hM
  have HX:=qhq hX
  clear hO hM hX
  by_cases hlt:q < t.fns.length
  ·have x1:=HO.out.cells hlt (j:=0) (by omega)
   have x2:=HO.out.free (q * 4)
   have hlt':(q:Int) < (t.fns.length:Int):=by omega
   simp only [Nat.add_zero] at x1
   go_wp2
   go_roundw
   case rel=>exact ⟨q + 1,by omega,by go_num,fcI_set HO.out hlt,HM.out.setO HO.out (Nat.le_of_lt hw1) (by decide) _ _,HX.out.far (by dsimp only;omega) _⟩
   case measure=>simp [intOf];omega
  ·obtain rfl:q=t.fns.length:=by omega
   have x1:=HO.out.cells nf0 (j:=1) (by omega)
   have x2:=HO.out.free 1
   simp only [Nat.zero_mul,Nat.zero_add] at x1
   go_wp2_with fail
   refine (l1begin_calls _).mono ?_;rintro e w2 ⟨g,T,f,rfl,hS,hb⟩
   have hM:=HM.out.setO HO.out (Nat.le_of_lt hw1) (by decide) 1 (.int .i64 1)
   have HO2:=qhq ((fcI_end HO.out nf0).later hb)
   have HX2:=qhq ((HX.out.far (p:=⟨w1.heap.size,1,none⟩) (by dsimp only;omega) (.int .i64 1)).later hb)
   have HS2:=qhq (hS.lower (lo':=w.heap.size) hM.size)
   have HM2:=qhq (hM.then hM.size hb)
   clear hM hS hb x1 x2 HO HX HM
   have x1:w2.cell? ⟨w.heap.size,1,none⟩=some (.slice A2 t.moms.length c2):=HX2.out.cell (j:=1) (by simp)
   go_wp2_with fail
   clear x1
   go_loopw [36] (fun i wr=>∃ (n:Nat) (f:Nat → Value),n ≤ t.moms.length ∧ i=.int .i64 n ∧ IsS wr w.heap.size g T (stN t.moms n) f ∧
    OwR wr w1.heap.size 106 4 t.fns.length (fcC (fcN t.moms n)) (.slice (some ⟨w1.heap.size,0,none⟩) t.fns.length t.fns.length) ∧ Mv fcTys w.heap.size w wr ∧
    Blk wr w.heap.size 26 2 (fun j=>#[Value.slice A1 t.fns.length c1,.slice A2 t.moms.length c2].getD j undef)) (fun i _=>t.moms.length - (intOf i).toNat)
   case atStart=>exact ⟨0,f,Nat.zero_le _,rfl,HS2.out,HO2.out,HM2.out,HX2.out⟩
   case round =>
    obtain ⟨n,f,hn,rfl,hS,hO,hM,hX⟩:=hrel
    clear HS2 HO2 HM2 HX2
    have HSS:=qhq hS
    have HO:=qhq hO
    have HM:=qhq hM
    have HX:=qhq hX
    clear hS hO hM hX
    by_cases h2:n < t.moms.length
    ·obtain ⟨b,o,vk,hA,d0,d1,d2,d3,d4,d5,hvk⟩:=rd_moment (HT.out.2.later HM.out.bl) h2
     obtain ⟨Av,cv,rfl,-⟩:=hvk
     subst hA
     have hlo:=HM.out.size
     have hbd:=fcN_bd t.moms n (elt t.moms n).fn.toNat
     obtain ⟨b1,b2,b3⟩:=hbd
     have hfn:=mom_fn (SO.out.moms n h2)
     go_upto_region 14 with fail
     have HMB:Hid (Blk (wr.alloc _) wr.heap.size 114 6 _):=qhq (Blk.made wr #[.int .i64 (elt t.moms n).kind,.int .i64 (elt t.moms n).task,.int .i64 (elt t.moms n).fn,.int .i64 (elt t.moms n).line,.string (elt t.moms n).text,.slice Av (elt t.moms n).vars.length cv] 114)
     generalize hW2:World.alloc wr _=W2 at HMB ⊢
     have hbl:Below wr.heap.size wr W2:=by rw [← hW2];exact qaq (qrq _ _) _
     have hmb:w.heap.size < wr.heap.size:=HX.out.lt
     clear hW2 d0 d1 d2 d3 d4 d5
     have y0:W2.cell? ⟨wr.heap.size,0,none⟩=some (.int .i64 (elt t.moms n).kind):=HMB.out.cell (j:=0) (by omega)
     have y1:W2.cell? ⟨wr.heap.size,1,none⟩=some (.int .i64 (elt t.moms n).task):=HMB.out.cell (j:=1) (by omega)
     have y2:W2.cell? ⟨wr.heap.size,2,none⟩=some (.int .i64 (elt t.moms n).fn):=HMB.out.cell (j:=2) (by omega)
     have y3:W2.cell? ⟨wr.heap.size,3,none⟩=some (.int .i64 (elt t.moms n).line):=HMB.out.cell (j:=3) (by omega)
     have y4:W2.cell? ⟨wr.heap.size,4,none⟩=some (.string (elt t.moms n).text):=HMB.out.cell (j:=4) (by omega)
     have y5:W2.cell? ⟨wr.heap.size,5,none⟩=some (.slice Av (elt t.moms n).vars.length cv):=HMB.out.cell (j:=5) (by omega)
     have HI:=qhq (SO.out.inv n hn)
     replace HM:=qhq (HM.out.then HM.out.size hbl)
     replace HX:=qhq (HX.out.later hbl)
     replace HO:=qhq (HO.out.later hbl)
     replace HSS:=qhq (HSS.out.later hbl)
     clear hbl
     go_wp2_with fail
     refine (move_calls _ g T _ _ (elt t.moms n) _ _ _ n n _ HSS.out HI.out).mono ?_
     rintro e w3 ⟨rfl,hmv,hst⟩
     obtain ⟨f',hS'⟩:=hst (SO.out.moves n h2)
     replace hS':IsS w3 w.heap.size g T (stN t.moms (n + 1)) f':=hS'
     clear HSS
     have HSS:=qhq hS'
     replace HMB:=qhq (HMB.out.mv hmv (by decide))
     replace HX:=qhq (HX.out.mv hmv (by decide))
     replace HO:=qhq (HO.out.mv hmv (by decide))
     replace HM:=qhq (HM.out.trans (hmv.mono (by decide)))
     clear hmv hst hS' y0 y1 y2 y3 y4 y5
     have y0:w3.cell? ⟨wr.heap.size,0,none⟩=some (.int .i64 (elt t.moms n).kind):=HMB.out.cell (j:=0) (by omega)
     have y2:w3.cell? ⟨wr.heap.size,2,none⟩=some (.int .i64 (elt t.moms n).fn):=HMB.out.cell (j:=2) (by omega)
     obtain ⟨fq,hfq⟩:∃ fq:Nat,(elt t.moms n).fn=(fq:Int):=⟨(elt t.moms n).fn.toNat,by omega⟩
     have HFQ:=qhq hfq
     have hfq1:(elt t.moms n).fn.toNat < t.fns.length:=by omega
     have hfq2:(elt t.moms n).fn < (t.fns.length:Int):=by omega
     by_cases k2:(elt t.moms n).kind=2
     ·have hd1:((elt t.moms n).kind == 2)=true:=by simp [k2]
      have hd2:((elt t.moms n).kind != 1)=true:=by simp [k2]
      have HK2:=qhq k2
      have z1:=HO.out.cells hfq1 (j:=1) (by omega)
      have z2:=HO.out.free ((elt t.moms n).fn.toNat * 4 + 1)
      have z3:w3.cell? ⟨w1.heap.size,(elt t.moms n).fn.toNat * 4 + 1,none⟩=some (.int .i64 ((fcN t.moms n).cal (elt t.moms n).fn.toNat)):=z1
      clear k2 hfq z1
      go_wp2
      go_roundw
      case rel =>
       refine ⟨n + 1,f',by omega,by go_num,?_,?_,HM.out.setO HO.out (Nat.le_of_lt hw1) (by decide) _ _,HX.out.far (by dsimp only;omega) _⟩
       ·exact HSS.out.mv ((Mv.refl [106] w.heap.size w3).setO HO.out (Nat.le_of_lt hw1) (by decide) _ _) (by decide) (by decide) (by decide)
       ·have:=fcC_cal HO.out hfq1 (fn:=(elt t.moms n).fn) (by omega)
        have e:fcN t.moms (n + 1)=⟨bump (fcN t.moms n).cal (elt t.moms n).fn,(fcN t.moms n).slf,(fcN t.moms n).tot⟩:=by
         show fcStep _ _ _=_
         unfold fcStep;rw [if_pos HK2.out]
        rw [e];exact this
      case measure=>simp [intOf];omega
     ·by_cases k1:(elt t.moms n).kind=1
      ·have hd1:((elt t.moms n).kind == 2)=false:=by simp [k1]
       have hd2:((elt t.moms n).kind != 1)=false:=by simp [k1]
       have HK1:=qhq k1
       have z3:w3.cell? ⟨w1.heap.size,(elt t.moms n).fn.toNat * 4 + 2,none⟩=some (.int .i64 ((fcN t.moms n).slf (elt t.moms n).fn.toNat)):=HO.out.cells hfq1 (j:=2) (by omega)
       have z2:=HO.out.free ((elt t.moms n).fn.toNat * 4 + 2)
       have x0:w3.cell? ⟨w.heap.size,0,none⟩=some (.slice A1 t.fns.length c1):=HX.out.cell (j:=0) (by simp)
       have hne:¬ w1.heap.size=w.heap.size:=by omega
       clear k1 k2 hfq
       have hw3:w1.heap.size < w3.heap.size:=HO.out.blt.2
       go_upto_region 20 with fail
       have hset:=(Mv.refl [106] w.heap.size w3).setO HO.out (Nat.le_of_lt hw1) (by decide) ((elt t.moms n).fn.toNat * 4 + 2) (.int .i64 ((fcN t.moms n).slf (elt t.moms n).fn.toNat + 1))
       have hO4:=(fcC_slf HO.out hfq1 (fn:=(elt t.moms n).fn) (by omega)).later (qaq (qrq _ _) (.cells D 4))
       have hS4:=(HSS.out.mv hset (by decide) (by decide) (by decide)).later (qaq (qrq _ _) (.cells D 4))
       have hX4:=(HX.out.far (p:=⟨w1.heap.size,(elt t.moms n).fn.toNat * 4 + 2,none⟩) (by dsimp only;omega) (.int .i64 ((fcN t.moms n).slf (elt t.moms n).fn.toNat + 1))).alloc (.cells D 4)
       have hM4:=(HM.out.setO HO.out (Nat.le_of_lt hw1) (by decide) ((elt t.moms n).fn.toNat * 4 + 2) (.int .i64 ((fcN t.moms n).slf (elt t.moms n).fn.toNat + 1))).alloc (by rw [World.size_setCell];exact HM.out.size) (.cells D 4)
       have hB4:=OwR.made (e:=4) (w:=w3.setCell ⟨w1.heap.size,(elt t.moms n).fn.toNat * 4 + 2,none⟩ (.int .i64 ((fcN t.moms n).slf (elt t.moms n).fn.toNat + 1))) HD.out Hd.out (by rfl) (by simp only [maxLen];omega) (fun i _=>.bool (openIn [] i)) (fun i hi j hj=>by
        obtain rfl:j=0:=by omega
        rfl)
       rw [World.size_setCell] at hB4
       generalize hW4:World.alloc _ _=W4 at hO4 hS4 hX4 hM4 hB4 ⊢
       clear hW4 hset z3 z2 x0 y0 y2 HO HSS HX HM HMB hd1 hd2
       have HI2:=SO.out.inv (n + 1) (by omega)
       have i0:=HI2.lo
       have i1:=HI2.hi
       have i2:=HI2.deep (stN t.moms (n + 1)).cur
       have hcx:(stN t.moms (n + 1)).cur < 101:=by omega
       have HFN:=qhq (SO.out.fnsIn (n + 1) (by omega))
       have HTOT:=qhq (fun j=>(fcN_bd t.moms n j).2.2)
       obtain ⟨Ah,ch,c0',c1',c2',-,-,hv,-⟩:=hS4.heads i0 i1
       have HV:=qhq hv
       have HSS:=qhq hS4
       have HO:=qhq hO4
       have HX:=qhq hX4
       have HM:=qhq hM4
       have HB:=qhq hB4
       clear hS4 hO4 hX4 hM4 hB4 hv HI2
       go_quiet (fail)
       go_wp2_with fail
       clear c0' c1' c2'
       go_loopw [84] (fun i wx=>∃ q:Nat,q ≤ (stN t.moms (n + 1)).top.length ∧ i=.int .i64 q ∧ IsS wx w.heap.size g T (stN t.moms (n + 1)) f' ∧
        OwR wx w1.heap.size 106 4 t.fns.length (fcC ⟨(fcN t.moms n).cal,bump (fcN t.moms n).slf (elt t.moms n).fn,bumpAll (fcN t.moms n).tot ((stN t.moms (n + 1)).top.reverse.take q)⟩) (.slice (some ⟨w1.heap.size,0,none⟩) t.fns.length t.fns.length) ∧
        OwR wx w3.heap.size 4 1 t.fns.length (fun i _=>.bool (openIn ((stN t.moms (n + 1)).top.reverse.take q) i)) (.slice (some ⟨w3.heap.size,0,none⟩) t.fns.length t.fns.length) ∧ Mv fcTys w.heap.size w wx ∧
        Blk wx w.heap.size 26 2 (fun j=>#[Value.slice A1 t.fns.length c1,.slice (some ⟨b,o,none⟩) t.moms.length c2].getD j undef)) (fun i _=>(stN t.moms (n + 1)).top.length - (intOf i).toNat)
       case atStart =>
        refine ⟨0,Nat.zero_le _,rfl,HSS.out.drewN _,?_,?_,HM.out.drewN _,HX.out⟩
        ·rw [List.take_zero]
         exact HO.out.congr fun i hi j hj=>by
          match j,hj with
          | 0,_=>rfl
          | 1,_=>rfl
          | 2,_=>rfl
          | 3,_=>simp only [fcC,bumpAll_nil]
        ·rw [List.take_zero];exact HB.out
       case round =>
        obtain ⟨q,hq,rfl,hS,hO,hB,hM,hX⟩:=hrel
        clear HSS HO HX HM HB
        have HSS:=qhq hS
        have HO:=qhq hO
        have HM:=qhq hM
        have HX:=qhq hX
        have HB:=qhq hB
        clear hS hO hM hX hB
        by_cases hql:q < (stN t.moms (n + 1)).top.length
        ·obtain ⟨Ah',ch',-,-,-,hcap,hcap2,hv',hrow⟩:=HSS.out.heads i0 i1
         have hvv:Value.slice Ah (stN t.moms (n + 1)).top.length ch=Value.slice Ah' (stN t.moms (n + 1)).top.length ch':=by rw [← HV.out,hv']
         obtain ⟨rfl,rfl⟩:Ah=Ah' ∧ ch=ch':=by simpa using hvv
         obtain ⟨b5,hb5⟩:∃ b5,Ah=some ⟨b5,0,none⟩:=by
          obtain ⟨A7,c7,e7,hop⟩:=hrow.open'
          obtain ⟨b7,e8,-⟩:=hop (by omega)
          cases e7
          exact ⟨b7,e8⟩
         subst hb5
         have hqt:(q:Int) < ((stN t.moms (n + 1)).top.length:Int):=by omega
         obtain ⟨fr,hfr⟩:∃ fr,elt (stN t.moms (n + 1)).top.reverse q=fr:=⟨_,rfl⟩
         have u0:wr.cell? ⟨b5,q * 3,none⟩=some (.int .i64 fr.fn):=by have:=hrow.cells hql (j:=0) (by omega);rw [← hfr];exact this
         have u1:wr.cell? ⟨b5,q * 3 + 1,none⟩=some (.int .i64 fr.line):=by have:=hrow.cells hql (j:=1) (by omega);rw [← hfr];exact this
         have u2:wr.cell? ⟨b5,q * 3 + 2,none⟩=some (.int .i64 fr.frm):=by have:=hrow.cells hql (j:=2) (by omega);rw [← hfr];exact this
         have hmem:fr ∈ (stN t.moms (n + 1)).stk (stN t.moms (n + 1)).cur:=by
          have:fr ∈ (stN t.moms (n + 1)).top.reverse:=by rw [← hfr,elt_eq (by simpa using hql)];exact List.getElem_mem _
          simpa [PS.top] using this
         obtain ⟨g0,g1⟩:=HFN.out _ fr hmem
         have HTK:=qhq (take_snoc (xs:=(stN t.moms (n + 1)).top.reverse) (i:=q) (by simpa using hql))
         have HFR:=qhq hfr
         obtain ⟨fg,hfg⟩:∃ fg:Nat,fr.fn=(fg:Int):=⟨fr.fn.toNat,by omega⟩
         have e1:fr.fn.toNat=fg:=by omega
         have hfg1:fg < t.fns.length:=by omega
         have hfg2:(fg:Int) < (t.fns.length:Int):=by omega
         have HFG:=qhq hfg
         rw [hfg] at u0
         have hxl:=HM.out.size
         have hxl':w.heap.size ≤ wr.heap.size:=hxl
         have hsx:=HB.out.blt.2
         have hox:=HO.out.blt.2
         have v0:wr.cell? ⟨w3.heap.size,fg,none⟩=some (.bool (openIn ((stN t.moms (n + 1)).top.reverse.take q) fg)):=by have:=HB.out.cells hfg1 (j:=0) (by omega);simpa only [Nat.mul_one,Nat.add_zero] using this
         have v1:=HB.out.free fg
         have v2:wr.cell? ⟨w1.heap.size,fg * 4 + 3,none⟩=some (.int .i64 (bumpAll (fcN t.moms n).tot ((stN t.moms (n + 1)).top.reverse.take q) fg)):=HO.out.cells hfg1 (j:=3) (by omega)
         have v3:=HO.out.free (fg * 4 + 3)
         obtain ⟨q0,q1⟩:=bumpAll_bd (l:=(stN t.moms (n + 1)).top.reverse.take q) (HTOT.out fg)
         generalize hzz:bumpAll (fcN t.moms n).tot ((stN t.moms (n + 1)).top.reverse.take q) fg=zz at v2 q0 q1
         generalize hop:openIn ((stN t.moms (n + 1)).top.reverse.take q) fg=ob at v0
         have HZZ:=qhq hzz
         have HOP:=qhq hop
         clear hzz hop hv' hrow hvv hfr hmem hfg e1 g0 g1
         cases ob with
         | true =>
          go_wp2
          go_roundw
          case rel =>
           refine ⟨q + 1,by omega,by go_num,HSS.out.later (qaq (qrq _ _) _),?_,?_,HM.out.alloc HM.out.size _,HX.out.alloc _⟩
           ·rw [HTK.out,HFR.out]
            exact (HO.out.later (qaq (qrq _ _) _)).congr fun i hi j hj=>by
             match j,hj with
             | 0,_=>rfl
             | 1,_=>rfl
             | 2,_=>rfl
             | 3,_=>simp only [fcC];rw [bumpAll_old HFG.out HOP.out]
           ·rw [HTK.out,HFR.out]
            exact (HB.out.later (qaq (qrq _ _) _)).congr fun i hi j hj=>by
             rw [openIn_snoc]
             by_cases hig:fr.fn=(i:Int)
             ·obtain rfl:fg=i:=by have:=HFG.out;omega
              rw [HOP.out];simp
             ·simp [hig]
          case measure=>simp [intOf];omega
         | false =>
          have hB1:=HB.out
          have hO1:=HO.out
          have hM1:=Mv.refl [4,106] w.heap.size wr
          have hB2:OwR _ _ _ _ _ (fun i _=>.bool (openIn ((stN t.moms (n + 1)).top.reverse.take q ++ [fr]) i)) _:=OwR.set (u:=.bool true) (i0:=fg) (j0:=0) hB1 hfg1 (by omega) (fun i j hi hj hne=>by
           rw [openIn_snoc]
           have:¬ fr.fn=(i:Int):=by have:=HFG.out;omega
           simp [this]) (by rw [openIn_snoc];simp [HFG.out])
          simp only [Nat.mul_one,Nat.add_zero] at hB2
          obtain ⟨Nb,Fb,hBk⟩:=hB1.block (b:=w3.heap.size) rfl
          have hO2:=OwR.other hO1 hBk (by decide) fg (.bool true)
          have hM2:=hM1.setO hB1 (by omega) (by decide) fg (.bool true)
          obtain ⟨No,Fo,hOk⟩:=hO2.block (b:=w1.heap.size) rfl
          have hO3:=fcC_tot (fn:=(fg:Int)) hO2 hfg1 rfl
          dsimp only at hO3
          rw [HZZ.out] at hO3
          have hB3:=OwR.other hB2 hOk (by decide) (fg * 4 + 3) (.int .i64 (zz + 1))
          have hM3:=hM2.setO hO2 (by omega) (by decide) (fg * 4 + 3) (.int .i64 (zz + 1))
          have RO:=qhq (hO3.later (qaq (qrq _ _) (.cells #[.int .i64 (fg:Int),.int .i64 fr.line,.int .i64 fr.frm] 42)))
          have RB:=qhq (hB3.later (qaq (qrq _ _) (.cells #[.int .i64 (fg:Int),.int .i64 fr.line,.int .i64 fr.frm] 42)))
          have RM:=qhq (hM3.alloc (by simp;exact hxl') (.cells #[.int .i64 (fg:Int),.int .i64 fr.line,.int .i64 fr.frm] 42))
          clear hB1 hO1 hM1 hB2 hBk hO2 hM2 hOk hO3 hB3 hM3
          go_wp2
          go_roundw
          case rel =>
           refine ⟨q + 1,by omega,by go_num,HSS.out.mv RM.out (by decide) (by decide) (by decide),?_,?_,HM.out.trans (RM.out.mono (by decide)),HX.out.mv RM.out (by decide)⟩
           ·rw [HTK.out,HFR.out]
            exact RO.out.congr fun i hi j hj=>by
             match j,hj with
             | 0,_=>rfl
             | 1,_=>rfl
             | 2,_=>rfl
             | 3,_=>simp only [fcC];rw [bumpAll_new HFG.out HOP.out]
           ·rw [HTK.out,HFR.out]
            exact RB.out
          case measure=>simp [intOf];omega
        ·obtain rfl:q=(stN t.moms (n + 1)).top.length:=by omega
         go_wp2
         go_roundw
         case rel =>
          refine ⟨n + 1,f',by omega,by go_num,HSS.out,?_,HM.out,HX.out⟩
          have e:fcN t.moms (n + 1)=⟨(fcN t.moms n).cal,bump (fcN t.moms n).slf (elt t.moms n).fn,bumpAll (fcN t.moms n).tot (stN t.moms (n + 1)).top⟩:=by
           show fcStep _ _ _=_
           unfold fcStep;rw [if_neg (by rw [HK1.out];decide),if_pos HK1.out]
          rw [e]
          exact HO.out.congr fun i hi j hj=>by
           match j,hj with
           | 0,_=>rfl
           | 1,_=>rfl
           | 2,_=>rfl
           | 3,_ =>
            simp only [fcC]
            rw [List.take_of_length_le (by simp),bumpAll_rev]
         case measure=>simp [intOf];omega
      ·have hd1:((elt t.moms n).kind == 2)=false:=by simp [k2]
       have hd2:((elt t.moms n).kind != 1)=true:=by simp [k1]
       have HK1:=qhq k1
       have HK2:=qhq k2
       clear k1 k2 hfq
       go_wp2
       go_roundw
       case rel =>
        refine ⟨n + 1,f',by omega,by go_num,HSS.out,?_,HM.out,HX.out⟩
        have e:fcN t.moms (n + 1)=fcN t.moms n:=by
         show fcStep _ _ _=_
         unfold fcStep;rw [if_neg HK2.out,if_neg HK1.out]
        rw [e];exact HO.out
       case measure=>simp [intOf];omega
    ·obtain rfl:n=t.moms.length:=by omega
     go_wp2
     go_ret
     refine ⟨_,rfl,?_,HM.out.bl⟩
     rw [HR.out,fcList_len]
     exact (HO.out.lower (Nat.le_of_lt hw1)).congr fun i hi j hj=>(fcList_row _ hi).symm
theorem spec_FnCounts_calls (v1 v2:Value) (t:PTr) (w:World) (h:RdTr w v1 v2 t) (hsm:smTr t) :
  Calls Tryz.prog 48 #[.agg #[v1,v2]] w (OwRet w 106 4 (fcP t).length (fcRow (fcP t))):=by
 cases hs:soundP t with
 | false=>exact spec_FnCounts_bad v1 v2 t w h hsm hs
 | true=>exact spec_FnCounts_good v1 v2 t w h hsm hs
end Go.Proofs.YtcklnjjbhngbcaaGreatDoor
namespace Go.Proofs.YtcklnjjbhngbcaaGreatDoor
open Go.RowKit Go.Proofs.Lens
theorem i_lc:(Tryz.prog.info? 111).map (fun i=>(i.zero,i.size,i.bytes))=some (some (.agg #[.int .i64 0,.int .i64 0,.int .i64 0]),3,24):=by kernel_rfl
def setC (C:Nat → Nat → Value) (i0 j0:Nat) (u:Value) (i j:Nat):Value:=if i=i0 ∧ j=j0 then u else C i j
theorem owr_setF {w:World} {lo n sz:Nat} {e:TypeId} {C:Nat → Nat → Value} {b cap i0 j0:Nat} (h:OwR w lo e sz n C (.slice (some ⟨b,0,none⟩) n cap)) (hi:i0 < n) (hj:j0 < sz) (u:Value) :
  OwR (w.setCell ⟨b,i0 * sz + j0,none⟩ u) lo e sz n (setC C i0 j0 u) (.slice (some ⟨b,0,none⟩) n cap) :=
 h.set hi hj (fun i j _ _ hne=>by unfold setC;rw [if_neg (by omega)]) (by unfold setC;rw [if_pos ⟨rfl,rfl⟩])
def upC (l:List PLc) (fn line:Int) (q i j:Nat):Value:=lcC [if i < q then lcUp1 fn line (elt l i) else elt l i] 0 j
theorem upC_0 (l:List PLc) (fn line:Int) {i:Nat} (j:Nat):upC l fn line 0 i j=lcC l i j:=by
 unfold upC lcC
 rw [if_neg (by omega)]
 rfl
theorem upC_step (l:List PLc) (fn line:Int) {q i j:Nat} (h:lcIs fn line (elt l q)=true) (hj:j < 3):setC (upC l fn line q) q 2 (.int .i64 ((elt l q).cnt + 1)) i j=upC l fn line (q + 1) i j:=by
 by_cases h1:i=q
 ·subst h1
  have e:lcUp1 fn line (elt l i)=⟨(elt l i).fn,(elt l i).line,(elt l i).cnt + 1⟩:=by unfold lcUp1;rw [if_pos h]
  have hR:upC l fn line (i + 1) i j=lcC [⟨(elt l i).fn,(elt l i).line,(elt l i).cnt + 1⟩] 0 j:=by unfold upC;rw [if_pos (by omega),e]
  have hQ:upC l fn line i i j=lcC [elt l i] 0 j:=by unfold upC;rw [if_neg (by omega)]
  unfold setC
  rw [hR,hQ]
  match j,hj with
  | 0,_=>rw [if_neg (by omega)];rfl
  | 1,_=>rw [if_neg (by omega)];rfl
  | 2,_=>rw [if_pos ⟨rfl,rfl⟩];rfl
 ·unfold setC
  rw [if_neg (fun hh=>h1 hh.1)]
  unfold upC
  by_cases h2:i < q
  ·rw [if_pos h2,if_pos (by omega)]
  ·rw [if_neg h2,if_neg (by omega)]
theorem upC_end (l:List PLc) (fn line:Int) {i:Nat} (hi:i < l.length) (j:Nat):upC l fn line l.length i j=lcC (lcUp l fn line) i j:=by
 have e:elt (lcUp l fn line) i=lcUp1 fn line (elt l i):=by
  unfold lcUp
  rw [elt_eq (by rw [List.length_map];exact hi),elt_eq hi,List.getElem_map]
 unfold upC lcC
 rw [if_pos hi,e]
 rfl
theorem lcMet_succ (l:List PLc) (fn line:Int) {q:Nat} (hq:q < l.length):lcMet (l.take (q + 1)) fn line=(lcMet (l.take q) fn line || lcIs fn line (elt l q)):=by
 unfold lcMet;rw [take_snoc hq];simp
def insAt (l:List PLc) (x:PLc) (q:Nat):List PLc:=l.take q ++ x :: l.drop q
theorem insAt_len (l:List PLc) (x:PLc) {q:Nat} (hq:q ≤ l.length):(insAt l x q).length=l.length + 1:=by simp [insAt];omega
theorem insAt_elt (l:List PLc) (x:PLc) {q i:Nat} (hq:q ≤ l.length) (hi:i < l.length + 1):elt (insAt l x q) i=if i < q then elt l i else if i=q then x else elt l (i - 1):=by
 have hl:=insAt_len l x hq
 rw [elt_eq (by omega)]
 unfold insAt
 by_cases h1:i < q
 ·rw [if_pos h1,List.getElem_append_left (by rw [List.length_take];omega),List.getElem_take,elt_eq (by omega)]
 ·rw [if_neg h1,List.getElem_append_right (by rw [List.length_take];omega)]
  have ht:(l.take q).length=q:=by rw [List.length_take];omega
  by_cases h2:i=q
  ·subst h2
   rw [if_pos rfl]
   simp [ht]
  ·rw [if_neg h2]
   obtain ⟨d,rfl⟩:∃ d,i=q + d + 1:=⟨i - q - 1,by omega⟩
   have e:q + d + 1 - (l.take q).length=d + 1:=by rw [ht];omega
   simp only [e,List.getElem_cons_succ,List.getElem_drop]
   rw [elt_eq (by omega)]
   congr 1
theorem swap_c (l:List PLc) (x:PLc) {p q i j:Nat} (hq:q=p + 1) (hl:q ≤ l.length) (hi:i < l.length + 1) (hj:j < 3) :
  setC (setC (setC (setC (setC (setC (lcC (insAt l x q)) p 0 (.int .i64 x.fn)) p 1 (.int .i64 x.line)) p 2 (.int .i64 x.cnt)) q 0 (.int .i64 (elt l p).fn)) q 1 (.int .i64 (elt l p).line)) q 2 (.int .i64 (elt l p).cnt) i j=lcC (insAt l x p) i j:=by
 subst hq
 have e2:=insAt_elt l x (q:=p) (i:=i) (by omega) hi
 have e1:=insAt_elt l x (q:=p + 1) (i:=i) (by omega) hi
 by_cases h1:i=p + 1
 ·subst h1
  rw [if_neg (by omega),if_neg (by omega),show p + 1 - 1=p by omega] at e2
  unfold setC lcC
  rw [e2]
  match j,hj with
  | 0,_=>simp
  | 1,_=>simp
  | 2,_=>simp
 ·by_cases h2:i=p
  ·subst h2
   rw [if_neg (by omega),if_pos rfl] at e2
   unfold setC lcC
   rw [e2]
   match j,hj with
   | 0,_=>simp
   | 1,_=>simp
   | 2,_=>simp
  ·have e3:elt (insAt l x (p + 1)) i=elt (insAt l x p) i:=by
    rw [e1,e2]
    by_cases h3:i < p
    ·rw [if_pos (by omega),if_pos h3]
    ·rw [if_neg (by omega),if_neg h1,if_neg h3,if_neg h2]
   unfold setC lcC
   rw [e3]
   simp [h1,h2]
theorem lcSorted_take {l:List PLc} (h:LcSorted l) {q:Nat} {x:PLc} (hq:q + 1 ≤ l.length) (hx:lcLt (elt l q) x=true):∀ y ∈ l.take (q + 1),lcLt y x=true:=by
 intro y hy
 rw [take_snoc (by omega)] at hy
 rcases List.mem_append.1 hy with hy | hy
 ·have h2:l=l.take q ++ elt l q :: l.drop (q + 1):=by rw [← drop_cons (by omega),List.take_append_drop]
  unfold LcSorted at h
  rw [h2,List.pairwise_append] at h
  exact lcLt_trans (h.2.2 y hy _ (List.mem_cons_self ..)) hx
 ·simp at hy;subst hy;exact hx
set_option maxRecDepth 100000 in
set_option maxHeartbeats 2000000 in
theorem spec_LineCounts_bad (v1 v2:Value) (t:PTr) (w:World) (h:RdTr w v1 v2 t) (hsm:smTr t) (hs:soundP t=false) :
  Calls Tryz.prog 50 #[.agg #[v1,v2]] w (OwRet w 111 3 (lcP t).length (lcC (lcP t))):=by
 have HT:=qhq h
 have HS:=qhq hsm
 obtain ⟨⟨A1,c1,rfl,hn1,-⟩,⟨vv,⟨A2,c2,rfl,hn2,-⟩,-⟩⟩:=h
 have HR:Hid (lcP t=[]):=qhq (by unfold lcP;rw [hs];rfl)
 have HQ:=qhq hs
 clear hs hsm
 go_enter Tryz.func50,Tryz.ntmps50
 go_wp2_with fail
 refine (l1ok_is _ _ t _ (HT.out.later (by repeat (with_reducible first | exact qrq _ _ | exact HL.out | refine qnq ?_ _ | refine bl_drew ?_ | refine qaq ?_ _ | refine bl_set ?_ (by dsimp only;omega) _))) HS.out HQ.out).mono ?_;rintro e w1 ⟨rfl,hb⟩
 have HB:=qhq (qtq (qaq (qrq _ w) _) hb)
 clear hb
 go_wp2
 go_ret
 rw [HR.out]
 exact ⟨_,rfl,OwR.nil,HB.out⟩
theorem swap_own {w:World} {lo ga L1 cap p q:Nat} {l:List PLc} {x:PLc} (hO:OwR w lo 111 3 L1 (lcC (insAt l x q)) (.slice (some ⟨ga,0,none⟩) L1 cap)) (o1 o2:Obj) (hp:p < L1) (hq:q < L1)
  (hsw:∀ i,i < L1 → ∀ j,j < 3 → setC (setC (setC (setC (setC (setC (lcC (insAt l x q)) p 0 (.int .i64 x.fn)) p 1 (.int .i64 x.line)) p 2 (.int .i64 x.cnt)) q 0 (.int .i64 (elt l p).fn)) q 1 (.int .i64 (elt l p).line)) q 2 (.int .i64 (elt l p).cnt) i j=lcC (insAt l x p) i j) :
  OwR ((((((((w.setCell ⟨ga,p * 3,none⟩ (.int .i64 x.fn)).setCell ⟨ga,p * 3 + 1,none⟩ (.int .i64 x.line)).setCell ⟨ga,p * 3 + 2,none⟩ (.int .i64 x.cnt)).setCell ⟨ga,q * 3,none⟩ (.int .i64 (elt l p).fn)).setCell ⟨ga,q * 3 + 1,none⟩ (.int .i64 (elt l p).line)).setCell ⟨ga,q * 3 + 2,none⟩ (.int .i64 (elt l p).cnt)).alloc o1).alloc o2) lo 111 3 L1 (lcC (insAt l x p)) (.slice (some ⟨ga,0,none⟩) L1 cap) :=
 ((owr_setF (owr_setF (owr_setF (owr_setF (owr_setF (owr_setF hO (i0:=p) (j0:=0) hp (by omega) (.int .i64 x.fn)) (i0:=p) (j0:=1) hp (by omega) (.int .i64 x.line)) (i0:=p) (j0:=2) hp (by omega) (.int .i64 x.cnt))
  (i0:=q) (j0:=0) hq (by omega) (.int .i64 (elt l p).fn)) (i0:=q) (j0:=1) hq (by omega) (.int .i64 (elt l p).line)) (i0:=q) (j0:=2) hq (by omega) (.int .i64 (elt l p).cnt)).congr hsw).later (qaq (qaq (qrq _ _) o1) o2)
set_option maxRecDepth 100000 in
set_option maxHeartbeats 20000000 in
theorem spec_LineCounts_good (v1 v2:Value) (t:PTr) (w:World) (h:RdTr w v1 v2 t) (hsm:smTr t) (hs:soundP t=true) :
  Calls Tryz.prog 50 #[.agg #[v1,v2]] w (OwRet w 111 3 (lcP t).length (lcC (lcP t))):=by
 have HT:=qhq h
 have HS:=qhq hsm
 obtain ⟨⟨A1,c1,rfl,hn1,-⟩,⟨vv,⟨A2,c2,rfl,hn2,-⟩,-⟩⟩:=h
 have HR:Hid (lcP t=lcN t.moms t.moms.length):=qhq (by unfold lcP;rw [hs];rfl)
 have HQ:=qhq hs
 have hso:=sound_iff hs
 obtain ⟨nf0,nf1,nm1⟩:=sound_fns hso
 have SO:=qhq hso
 clear hs hsm hso
 go_enter Tryz.func50,Tryz.ntmps50
 go_wp2_with fail
 refine (l1ok_is _ _ t _ (HT.out.later (by repeat (with_reducible first | exact qrq _ _ | exact HL.out | refine qnq ?_ _ | refine bl_drew ?_ | refine qaq ?_ _ | refine bl_set ?_ (by dsimp only;omega) _))) HS.out HQ.out).mono ?_;rintro e w1 ⟨rfl,hb⟩
 have HX:=qhq ((Blk.made w #[.slice A1 t.fns.length c1,.slice A2 t.moms.length c2] 26).later hb)
 have HM:=qhq (qtq (qaq (qrq _ w) _) hb)
 have hw1:w.heap.size < w1.heap.size:=HX.out.lt
 clear hb
 have x0:w1.cell? ⟨w.heap.size,1,none⟩=some (.slice A2 t.moms.length c2):=HX.out.cell (j:=1) (by simp)
 go_wp2_with fail
 clear x0
 go_loopw [3,17] (fun ov i wr=>∃ n:Nat,n ≤ t.moms.length ∧ i=.int .i64 n ∧ OwR wr w1.heap.size 111 3 (lcN t.moms n).length (lcC (lcN t.moms n)) ov ∧ Below w.heap.size w wr ∧ w1.heap.size ≤ wr.heap.size) (fun _ i _=>t.moms.length - (intOf i).toNat)
 case atStart=>exact ⟨0,Nat.zero_le _,rfl,OwR.nil,HM.out,Nat.le_refl _⟩
 case round =>
  obtain ⟨n,hn,rfl,hO,hM,hsr⟩:=hrel
  clear HM HX
  have HO:=qhq hO
  have HM:=qhq hM
  obtain ⟨A3,c3,rfl,hcc,hcd⟩:=hO.cap
  have hll:=lcN_len t.moms n
  have hst:=lcN_sorted t.moms n
  have hbnd:∀ x ∈ lcN t.moms n,0 ≤ x.cnt ∧ x.cnt ≤ n:=fun x hx=>by
   have h1:=(lcN_mem t.moms n x).1 hx
   have h2:=lcK_bd t.moms x.fn x.line n
   omega
  have hnx:lcN t.moms (n + 1)=lcStep (lcN t.moms n) (elt t.moms n):=rfl
  clear hO hM
  by_cases h2:n < t.moms.length
  ·obtain ⟨b,o,vk,hA,d0,d1,d2,d3,d4,d5,hvk⟩:=rd_moment (HT.out.2.later HM.out) h2
   obtain ⟨Av,cv,rfl,-⟩:=hvk
   subst hA
   obtain ⟨l,hl⟩:∃ l,lcN t.moms n=l:=⟨_,rfl⟩
   have hl0:=hl
   rw [hl] at HO hll hst hbnd hnx hcc
   obtain ⟨L,hL⟩:∃ L,l.length=L:=⟨_,rfl⟩
   have HST:=qhq hst
   have HBND:=qhq hbnd
   have HNX:=qhq hnx
   have HLL:=qhq hL
   clear hst hbnd hnx hl
   rw [hL] at HO hll hcc
   clear hL
   rw [show (lcN t.moms n).length=L from by rw [hl0];exact HLL.out]
   go_upto_region 7 with fail
   have HMB:Hid (Blk (wr.alloc _) wr.heap.size 114 6 _):=qhq (Blk.made wr #[.int .i64 (elt t.moms n).kind,.int .i64 (elt t.moms n).task,.int .i64 (elt t.moms n).fn,.int .i64 (elt t.moms n).line,.string (elt t.moms n).text,.slice Av (elt t.moms n).vars.length cv] 114)
   replace HO:=qhq (HO.out.later (qaq (qrq _ _) (.cells #[.int .i64 (elt t.moms n).kind,.int .i64 (elt t.moms n).task,.int .i64 (elt t.moms n).fn,.int .i64 (elt t.moms n).line,.string (elt t.moms n).text,.slice Av (elt t.moms n).vars.length cv] 114)))
   replace HM:=qhq (qaq HM.out (.cells #[.int .i64 (elt t.moms n).kind,.int .i64 (elt t.moms n).task,.int .i64 (elt t.moms n).fn,.int .i64 (elt t.moms n).line,.string (elt t.moms n).text,.slice Av (elt t.moms n).vars.length cv] 114))
   generalize hW2:World.alloc wr _=W2 at HMB HO HM ⊢
   have hs2:w1.heap.size ≤ W2.heap.size:=by rw [← hW2,World.size_alloc];omega
   have hmb0:wr.heap.size < W2.heap.size:=by rw [← hW2,World.size_alloc];omega
   clear hW2 d0 d1 d2 d3 d4 d5
   obtain ⟨mb,hmb⟩:∃ b,wr.heap.size=b:=⟨_,rfl⟩
   rw [hmb] at HMB hmb0 hsr ⊢
   clear hmb
   obtain ⟨m,hm⟩:∃ m,elt t.moms n=m:=⟨_,rfl⟩
   rw [hm] at HMB HNX
   have y0:W2.cell? ⟨mb,0,none⟩=some (.int .i64 m.kind):=HMB.out.cell (j:=0) (by omega)
   have y2:W2.cell? ⟨mb,2,none⟩=some (.int .i64 m.fn):=HMB.out.cell (j:=2) (by omega)
   have y3:W2.cell? ⟨mb,3,none⟩=some (.int .i64 m.line):=HMB.out.cell (j:=3) (by omega)
   clear hm
   by_cases k1:m.kind=1
   ·have hd1:(m.kind != 1)=false:=by simp [k1]
    have hstep:lcStep l m=if lcMet l m.fn m.line=true then lcUp l m.fn m.line else lcIns ⟨m.fn,m.line,1⟩ l:=by unfold lcStep;rw [if_neg (by rw [k1];simp)]
    have HSTEP:=qhq (HNX.out.trans hstep)
    clear hstep k1
    go_wp2_with fail
    go_loopw [6,26] (fun mv i wx=>∃ q:Nat,q ≤ L ∧ i=.int .i64 q ∧ mv=.bool (lcMet (l.take q) m.fn m.line) ∧ OwR wx w1.heap.size 111 3 L (upC l m.fn m.line q) (.slice A3 L c3) ∧ Blk wx mb 114 6 (fun j=>#[.int .i64 m.kind,.int .i64 m.task,.int .i64 m.fn,.int .i64 m.line,.string m.text,.slice Av m.vars.length cv].getD j undef) ∧ Below w.heap.size w wx ∧ w1.heap.size ≤ wx.heap.size) (fun _ i _=>L - (intOf i).toNat)
    case atStart=>exact ⟨0,Nat.zero_le _,rfl,rfl,HO.out.congr fun i _ j _=>(upC_0 l _ _ j).symm,HMB.out,HM.out,hs2⟩
    case round =>
     obtain ⟨q,hq,rfl,rfl,hO,hMB,hM,hsx⟩:=hrel
     clear HO HM HMB y0 y2 y3
     have HO:=qhq hO
     have HMB:=qhq hMB
     have HM:=qhq hM
     have y2:wr.cell? ⟨mb,2,none⟩=some (.int .i64 m.fn):=HMB.out.cell (j:=2) (by simp)
     have y3:wr.cell? ⟨mb,3,none⟩=some (.int .i64 m.line):=HMB.out.cell (j:=3) (by simp)
     by_cases hlq:q < L
     ·obtain ⟨A7,c7,e7,hop⟩:=hO.open'
      obtain ⟨b7,e8,hb7,hb8,hcw,hfz⟩:=hop (by omega)
      obtain ⟨rfl,rfl⟩:A3=A7 ∧ c3=c7:=by simpa using e7
      subst e8
      have hq7:upC l m.fn m.line q q 0=.int .i64 (elt l q).fn ∧ upC l m.fn m.line q q 1=.int .i64 (elt l q).line ∧ upC l m.fn m.line q q 2=.int .i64 (elt l q).cnt:=by
       unfold upC lcC
       rw [if_neg (by omega)]
       exact ⟨rfl,rfl,rfl⟩
      have x0:wr.cell? ⟨b7,q * 3,none⟩=some (.int .i64 (elt l q).fn):=by have:=hcw q hlq 0 (by omega);rw [hq7.1] at this;exact this
      have x1:wr.cell? ⟨b7,q * 3 + 1,none⟩=some (.int .i64 (elt l q).line):=by have:=hcw q hlq 1 (by omega);rw [hq7.2.1] at this;exact this
      have x2:wr.cell? ⟨b7,q * 3 + 2,none⟩=some (.int .i64 (elt l q).cnt):=by have:=hcw q hlq 2 (by omega);rw [hq7.2.2] at this;exact this
      have f2:=hfz (q * 3 + 2)
      have hcnt:0 ≤ (elt l q).cnt ∧ (elt l q).cnt ≤ n:=HBND.out _ (by rw [elt_eq (by rw [HLL.out];exact hlq)];exact List.getElem_mem _)
      have hlq':(q:Int) < (L:Int):=by omega
      have hms:=lcMet_succ l m.fn m.line (q:=q) (by rw [HLL.out];exact hlq)
      have HMS:=qhq hms
      have hse:∀ i,i < L → ∀ j,j < 3 → lcIs m.fn m.line (elt l q)=false → upC l m.fn m.line q i j=upC l m.fn m.line (q + 1) i j:=by
       intro i hi j hj hno
       unfold upC lcC
       by_cases h1:i < q
       ·rw [if_pos h1,if_pos (by omega)]
       ·rw [if_neg h1]
        by_cases h3:i=q
        ·subst h3
         rw [if_pos (by omega)]
         unfold lcUp1
         rw [if_neg (by rw [hno];simp)]
        ·rw [if_neg (by omega)]
      have HSE:=qhq hse
      have hc3':b7 ≠ mb:=fun hh=>by
       obtain ⟨N,F,hBk⟩:=hO.block (b:=b7) rfl
       exact hBk.ne hMB (by decide) hh
      clear hO hMB hM hop hcw hfz e7 hq7 hms hse
      by_cases hf:(elt l q).fn=m.fn
      ·have hd1:((elt l q).fn == m.fn)=true:=by simp [hf]
       by_cases hln:(elt l q).line=m.line
       ·have hd2:((elt l q).line == m.line)=true:=by simp [hln]
        have hI:lcIs m.fn m.line (elt l q)=true:=lcIs_iff.2 ⟨hf,hln⟩
        have HI:=qhq hI
        clear hf hln hI
        go_wp2_with fail
        go_quiet (fail)
        go_wp2
        go_roundw
        case rel =>
         have hO9:=fun nn=>owr_setF (HO.out.later (qnq (qrq _ _) nn)) (i0:=q) (j0:=2) hlq (by omega) (.int .i64 ((elt l q).cnt + 1))
         exact ⟨q + 1,by omega,by go_num,by rw [HMS.out,HI.out,Bool.or_true],(hO9 _).congr (fun i hi j hj=>upC_step l m.fn m.line HI.out hj),(HMB.out.later (qnq (qrq _ _) _)).far (fun hh=>hc3' hh.symm) _,bl_set (qnq HM.out _) (by dsimp only;omega) _,by rw [World.size_setCell];exact hsx⟩
        case measure=>simp [intOf];omega
       ·have hd2:((elt l q).line == m.line)=false:=by simp [hln]
        have hI:lcIs m.fn m.line (elt l q)=false:=by unfold lcIs;simp [hln]
        have HI:=qhq hI
        clear hf hln hI
        go_wp2_with fail
        go_quiet (fail)
        go_wp2
        go_roundw
        case rel=>exact ⟨q + 1,by omega,by go_num,by rw [HMS.out,HI.out,Bool.or_false],(HO.out.later (qnq (qrq _ _) _)).congr (fun i hi j hj=>HSE.out i hi j hj HI.out),HMB.out.later (qnq (qrq _ _) _),qnq HM.out _,hsx⟩
        case measure=>simp [intOf];omega
      ·have hd1:((elt l q).fn == m.fn)=false:=by simp [hf]
       have hI:lcIs m.fn m.line (elt l q)=false:=by unfold lcIs;simp [hf]
       have HI:=qhq hI
       clear hf hI
       go_wp2_with fail
       go_quiet (fail)
       go_wp2
       go_roundw
       case rel=>exact ⟨q + 1,by omega,by go_num,by rw [HMS.out,HI.out,Bool.or_false],(HO.out.later (qnq (qrq _ _) _)).congr (fun i hi j hj=>HSE.out i hi j hj HI.out),HMB.out.later (qnq (qrq _ _) _),qnq HM.out _,hsx⟩
       case measure=>simp [intOf];omega
     ·obtain rfl:L=q:=by omega
      have htk:l.take L=l:=List.take_of_length_le (by have:=HLL.out;omega)
      have hO9:=hO.congr (C':=lcC (lcUp l m.fn m.line)) (fun i hi j hj=>by
       have:=upC_end l m.fn m.line (i:=i) (by rw [HLL.out];exact hi) j
       rw [HLL.out] at this
       exact this)
      rw [htk]
      replace HO:=qhq hO9
      clear hO hMB hM htk hO9
      cases hmt:lcMet l m.fn m.line with
      | true =>
       have HS2:Hid (lcN t.moms (n + 1)=lcUp l m.fn m.line):=qhq (by rw [HSTEP.out,hmt];rfl)
       have hlu:(lcUp l m.fn m.line).length=L:=by unfold lcUp;rw [List.length_map];exact HLL.out
       have HLU:=qhq hlu
       clear hmt hlu y2 y3
       go_wp2
       go_roundw
       case rel=>exact ⟨n + 1,by omega,by go_num,by rw [HS2.out,HLU.out];exact HO.out,HM.out,hsx⟩
       case measure=>simp [intOf];omega
      | false =>
       have HS2:Hid (lcN t.moms (n + 1)=lcIns ⟨m.fn,m.line,1⟩ l):=qhq (by rw [HSTEP.out,hmt];rfl)
       have hno:=lcMet_false hmt
       have hlu:lcUp l m.fn m.line=l:=lcUp_none hno
       have HNO:=qhq hno
       rw [hlu] at HO
       obtain ⟨x,hx⟩:∃ x:PLc,(⟨m.fn,m.line,1⟩:PLc)=x:=⟨_,rfl⟩
       have hxf:x.fn=m.fn ∧ x.line=m.line ∧ x.cnt=1:=by rw [← hx];exact ⟨rfl,rfl,rfl⟩
       rw [hx] at HS2
       have HXF:=qhq hxf
       clear hmt hno hlu hx hxf
       obtain ⟨L1,hL1⟩:∃ L1,L + 1=L1:=⟨_,rfl⟩
       go_wp2_with (at_builtin;refine stopped ?_)
       unfold Stopped
       refine wpList_append1 _ (by rfl) _ _ 103 (by rfl) w1.heap.size 111 _ 3 24 Tryz.underlying103 i_lc rfl (by omega) _ L _ (lcC (insAt l x L)) (by rfl) HO.out [.int .i64 m.fn,.int .i64 m.line,.int .i64 1] rfl (by simp [Value.oneCell']) (by rfl) (fun i hi j _=>by
        unfold lcC
        rw [insAt_elt l x (by rw [HLL.out];omega) (by rw [HLL.out];omega),if_pos hi]) ?hNl hsx (by omega) (by omega) ?_
       case hNl =>
        intro j hj
        have e:elt (insAt l x L) L=x:=by rw [insAt_elt l x (by rw [HLL.out];omega) (by rw [HLL.out];omega),if_neg (by omega),if_pos rfl]
        unfold lcC
        rw [e]
        obtain ⟨a1,a2,a3⟩:=HXF.out
        match j,hj with
        | 0,_=>rw [a1];rfl
        | 1,_=>rw [a2];rfl
        | 2,_=>rw [a3];rfl
       intro ga capa w5 hO5 hG5 _ hga
       have hB5:=bl_own HM.out (by omega) (HO.out.lower (Nat.le_of_lt hw1)) hG5
       have hs5:w1.heap.size ≤ w5.heap.size:=Nat.le_trans hsx hG5.size
       rw [hL1] at hO5 ⊢
       have HO5:=qhq hO5
       have HB5:=qhq hB5
       have HL1:=qhq hL1
       have eL1:(L1:Int) - 1=(L:Int):=by omega
       clear hO5 hG5 hB5 y2 y3 HO HM HMB
       go_wp2_with fail
       go_loopw [8] (fun kv wx=>∃ q:Nat,q ≤ L ∧ kv=.int .i64 q ∧ OwR wx w1.heap.size 111 3 L1 (lcC (insAt l x q)) (.slice (some ⟨ga,0,none⟩) L1 capa) ∧ (∀ y ∈ (l.drop q).head?,lcLt y x=false) ∧ Below w.heap.size w wx ∧ w1.heap.size ≤ wx.heap.size) (fun kv _=>(intOf kv).toNat)
       case atStart=>exact ⟨L,Nat.le_refl _,rfl,HO5.out,fun y hy=>absurd hy (by rw [List.drop_eq_nil_of_le (by rw [HLL.out];omega)];simp),HB5.out,hs5⟩
       case round =>
        obtain ⟨q,hq,rfl,hO,hhd,hB,hsx⟩:=hrel
        clear HO5 HB5 hs5
        have HO:=qhq hO
        have HB:=qhq hB
        have HHD:=qhq hhd
        by_cases hq0:0 < q
        ·obtain ⟨p,hqp⟩:∃ p,q=p + 1:=⟨q - 1,by omega⟩
         have eqp:(q:Int) - 1=(p:Int):=by omega
         have HQP:=qhq hqp
         have hpL1:p < L1:=by have:=HL1.out;omega
         have hqL1:q < L1:=by have:=HL1.out;omega
         have hpI:(p:Int) < (L1:Int):=by omega
         have hqI:(q:Int) < (L1:Int):=by omega
         have hp0:(0:Int) ≤ (p:Int):=by omega
         have hlen1:q ≤ l.length:=by rw [HLL.out];exact hq
         have hlen2:p ≤ l.length:=by omega
         have hl1:l.length + 1=L1:=by rw [HLL.out];exact HL1.out
         have ep:elt (insAt l x q) p=elt l p:=by rw [insAt_elt l x hlen1 (by omega),if_pos (by omega)]
         have eq':elt (insAt l x q) q=x:=by rw [insAt_elt l x hlen1 (by omega),if_neg (by omega),if_pos rfl]
         obtain ⟨A7,c7,e7,hop⟩:=hO.open'
         obtain ⟨b7,e8,hb7,hb8,hcw,hfz⟩:=hop (by omega)
         cases e7
         cases e8
         have a0:wr.cell? ⟨ga,p * 3,none⟩=some (.int .i64 (elt l p).fn):=by have:=hcw p hpL1 0 (by omega);simp only [lcC,ep] at this;exact this
         have a1:wr.cell? ⟨ga,p * 3 + 1,none⟩=some (.int .i64 (elt l p).line):=by have:=hcw p hpL1 1 (by omega);simp only [lcC,ep] at this;exact this
         have a2:wr.cell? ⟨ga,p * 3 + 2,none⟩=some (.int .i64 (elt l p).cnt):=by have:=hcw p hpL1 2 (by omega);simp only [lcC,ep] at this;exact this
         have b0:wr.cell? ⟨ga,q * 3,none⟩=some (.int .i64 x.fn):=by have:=hcw q hqL1 0 (by omega);simp only [lcC,eq'] at this;exact this
         have b1:wr.cell? ⟨ga,q * 3 + 1,none⟩=some (.int .i64 x.line):=by have:=hcw q hqL1 1 (by omega);simp only [lcC,eq'] at this;exact this
         have b2:wr.cell? ⟨ga,q * 3 + 2,none⟩=some (.int .i64 x.cnt):=by have:=hcw q hqL1 2 (by omega);simp only [lcC,eq'] at this;exact this
         have z0:=hfz (p * 3)
         have z1:=hfz (p * 3 + 1)
         have z2:=hfz (p * 3 + 2)
         have z3:=hfz (q * 3)
         have z4:=hfz (q * 3 + 1)
         have z5:=hfz (q * 3 + 2)
         have hsw:∀ i,i < L1 → ∀ j,j < 3 → setC (setC (setC (setC (setC (setC (lcC (insAt l x q)) p 0 (.int .i64 x.fn)) p 1 (.int .i64 x.line)) p 2 (.int .i64 x.cnt)) q 0 (.int .i64 (elt l p).fn)) q 1 (.int .i64 (elt l p).line)) q 2 (.int .i64 (elt l p).cnt) i j=lcC (insAt l x p) i j:=fun i hi j hj=>swap_c l x hqp hlen1 (by omega) hj
         have HSW:=qhq hsw
         have HB7:=qhq hb7
         clear hcw hfz hop hqp ep eq' hsw hhd hB hb7 hq0 hlen1 hlen2 hl1
         by_cases hff:(elt l p).fn < x.fn
         ·have hd1:decide ((elt l p).fn < x.fn)=true:=by simp [hff]
          have HLT:=qhq (show lcLt (elt l p) x=true from lcLt_iff.2 (.inl hff))
          clear hff
          clear hO
          go_wp2
          go_roundw
          case rel =>
           have e:=lcIns_at (x:=x) (l:=l) (k:=q) (by rw [HLL.out];exact hq) (HQP.out ▸ lcSorted_take HST.out (by rw [HLL.out];omega) HLT.out) HHD.out
           have hle:(lcIns x l).length=L1:=by rw [lcIns_len,HLL.out];exact HL1.out
           refine ⟨n + 1,by omega,by go_num,?_,qaq (qaq HB.out _) _,by simp;omega⟩
           rw [HS2.out,hle]
           rw [e]
           exact (HO.out.later (qaq (qaq (qrq _ _) _) _))
          case measure=>simp [intOf];omega
         ·have hd1:decide ((elt l p).fn < x.fn)=false:=by simp;omega
          by_cases hfe:(elt l p).fn=x.fn
          ·have hd2:((elt l p).fn == x.fn)=true:=by simp [hfe]
           by_cases hll2:(elt l p).line < x.line
           ·have hd3:decide ((elt l p).line < x.line)=true:=by simp [hll2]
            have HLT:=qhq (show lcLt (elt l p) x=true from lcLt_iff.2 (.inr ⟨hfe,hll2⟩))
            clear hff hfe hll2
            clear hO
            go_wp2
            go_roundw
            case rel =>
             have e:=lcIns_at (x:=x) (l:=l) (k:=q) (by rw [HLL.out];exact hq) (HQP.out ▸ lcSorted_take HST.out (by rw [HLL.out];omega) HLT.out) HHD.out
             have hle:(lcIns x l).length=L1:=by rw [lcIns_len,HLL.out];exact HL1.out
             refine ⟨n + 1,by omega,by go_num,?_,qaq (qaq HB.out _) _,by simp;omega⟩
             rw [HS2.out,hle]
             rw [e]
             exact (HO.out.later (qaq (qaq (qrq _ _) _) _))
            case measure=>simp [intOf];omega
           ·have hd3:decide ((elt l p).line < x.line)=false:=by simp;omega
            have HLT:=qhq (show lcLt (elt l p) x=false from lcLt_not.2 (by omega))
            clear hff hfe hll2
            clear hO
            go_wp2
            go_roundw
            case rel =>
             refine ⟨p,by omega,rfl,?_,fun y hy=>?_,?_,?_⟩
             ·exact swap_own HO.out _ _ hpL1 hqL1 HSW.out
             ·rw [drop_cons (by rw [HLL.out];omega)] at hy
              simp at hy
              subst hy
              exact HLT.out
             ·have h7:=HB7.out
              refine qaq (qaq ?_ _) _
              repeat (with_reducible refine bl_set ?_ (by dsimp only;omega) _)
              exact HB.out
             ·simp;omega
            case measure=>simp [intOf];omega
          ·have hd2:((elt l p).fn == x.fn)=false:=by simp [hfe]
           have HLT:=qhq (show lcLt (elt l p) x=false from lcLt_not.2 (by omega))
           clear hff hfe
           clear hO
           go_wp2
           go_roundw
           case rel =>
            refine ⟨p,by omega,rfl,?_,fun y hy=>?_,?_,?_⟩
            ·exact swap_own HO.out _ _ hpL1 hqL1 HSW.out
            ·rw [drop_cons (by rw [HLL.out];omega)] at hy
             simp at hy
             subst hy
             exact HLT.out
            ·have h7:=HB7.out
             refine qaq (qaq ?_ _) _
             repeat (with_reducible refine bl_set ?_ (by dsimp only;omega) _)
             exact HB.out
            ·simp;omega
           case measure=>simp [intOf];omega
        ·obtain rfl:q=0:=by omega
         clear hO hhd hB
         go_wp2
         go_roundw
         case rel =>
          have e:=lcIns_at (x:=x) (l:=l) (k:=0) (Nat.zero_le _) (fun y hy=>absurd hy (by simp)) HHD.out
          have hle:(lcIns x l).length=L1:=by rw [lcIns_len,HLL.out];exact HL1.out
          refine ⟨n + 1,by omega,by go_num,?_,HB.out,hsx⟩
          rw [HS2.out,hle]
          rw [e]
          exact HO.out
         case measure=>simp [intOf];omega
   ·have hd1:(m.kind != 1)=true:=by simp [k1]
    have HS2:Hid (lcN t.moms (n + 1)=l):=qhq (by rw [HNX.out];unfold lcStep;rw [if_pos k1])
    clear k1
    go_wp2
    go_roundw
    case rel=>exact ⟨n + 1,by omega,by go_num,by rw [HS2.out,HLL.out];exact HO.out,HM.out,hs2⟩
    case measure=>simp [intOf];omega
  ·obtain rfl:n=t.moms.length:=by omega
   go_wp2
   go_ret
   rw [HR.out]
   exact ⟨_,rfl,HO.out.lower (Nat.le_of_lt hw1),HM.out⟩
theorem spec_LineCounts_calls (v1 v2:Value) (t:PTr) (w:World) (h:RdTr w v1 v2 t) (hsm:smTr t) :
  Calls Tryz.prog 50 #[.agg #[v1,v2]] w (OwRet w 111 3 (lcP t).length (lcC (lcP t))):=by
 cases hs:soundP t with
 | false=>exact spec_LineCounts_bad v1 v2 t w h hsm hs
 | true=>exact spec_LineCounts_good v1 v2 t w h hsm hs
end Go.Proofs.YtcklnjjbhngbcaaGreatDoor
