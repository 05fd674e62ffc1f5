/- Lemmas and contracts of functions that the theorem of this claim leans on (texts I7, F2). -/
import Derived.Test.YtcklnjjbhngbcaaGreatDoorRowTopz00
import Derived.Test.YtcklnjjbhngbcaaGreatDoorRowTopzB
import Derived.Test.YtcklnjjbhngbcaaGreatDoorRowTopz24
import Derived.Test.YtcklnjjbhngbcaaGreatDoorRowTopz15
import Derived.Test.YtcklnjjbhngbcaaGreatDoorRowTopz13
import Derived.DeepKeys4
namespace Go.Proofs.YtcklnjjbhngbcaaGreatDoor
open Go.RowKit Go.Proofs.Lens
def cntF (l:List PFr) (x:Int):Nat:=l.countP fun f=>decide (f.fn=x)
theorem cntF_snoc (l:List PFr) (f:PFr) (x:Int):cntF (l ++ [f]) x=cntF l x + if f.fn=x then 1 else 0:=by
 unfold cntF;rw [List.countP_append,List.countP_cons];simp
theorem cntF_le (l:List PFr) (x:Int):cntF l x ≤ l.length:=List.countP_le_length
theorem cntF_zero (l:List PFr) (i:Nat):(cntF l i=0) ↔ openIn l i=false:=by
 unfold cntF openIn
 rw [List.countP_eq_zero,List.any_eq_false]
def cntM (l:List PFr) (x:Int):Option Int:=if cntF l x=0 then none else some (cntF l x)
theorem cntM_getD (l:List PFr) (x:Int):(cntM l x).getD 0=cntF l x:=by unfold cntM;split <;> simp [*]
theorem cntM_set (l:List PFr) (f:PFr) (x:Int):setM (cntM l) f.fn (cntF l f.fn + 1) x=cntM (l ++ [f]) x:=by
 unfold setM cntM
 rw [cntF_snoc]
 by_cases h:x=f.fn
 ·rw [if_pos h,if_pos h.symm,h,if_neg (by omega)];simp
 ·rw [if_neg h,if_neg (Ne.symm h)];simp
set_option maxRecDepth 100000 in
set_option maxHeartbeats 2000000 in
theorem impl_FnCounts_bad (v1 v2:Value) (t:PTr) (w:World) (h:RdTr w v1 v2 t) (hsm:smTr t) (hs:soundP t=false) :
  Calls Tryz.prog 29 #[.agg #[v1,v2]] w (OwRet w 106 4 (fcP t).length (fcRow (fcP t))):=by
 have HT:=qhq h
 have HS:=qhq hsm
 obtain ⟨⟨A1,c1,rfl,hn1,-⟩,⟨vv,⟨A2,c2,rfl,hn2,-⟩,-⟩⟩:=h
 have HR:Hid (fcP t=[]):=qhq (by unfold fcP;rw [hs];rfl)
 have HQ:=qhq hs
 clear hs hsm
 go_enter Tryz.func29,Tryz.ntmps29
 go_wp2_with fail
 refine (sound_is _ _ t _ (HT.out.later (by repeat (with_reducible first | exact qrq _ _ | exact HL.out | refine qnq ?_ _ | refine bl_drew ?_ | refine qaq ?_ _ | refine bl_set ?_ (by dsimp only;omega) _))) HS.out HQ.out).mono ?_;rintro e w1 ⟨rfl,hb⟩
 have HB:=qhq (qtq (qaq (qrq _ w) _) hb)
 clear hb
 go_wp2
 go_ret
 rw [HR.out]
 exact ⟨_,rfl,OwR.nil,HB.out⟩
set_option maxRecDepth 100000 in
set_option maxHeartbeats 8000000 in
theorem impl_FnCounts_good (v1 v2:Value) (t:PTr) (w:World) (h:RdTr w v1 v2 t) (hsm:smTr t) (hs:soundP t=true) :
  Calls Tryz.prog 29 #[.agg #[v1,v2]] w (OwRet w 106 4 (fcP t).length (fcRow (fcP t))):=by
 have HT:=qhq h
 have HS:=qhq hsm
 obtain ⟨⟨A1,c1,rfl,hn1,-⟩,⟨vv,⟨A2,c2,rfl,hn2,-⟩,-⟩⟩:=h
 have HR:Hid (fcP t=fcList (fcN t.moms t.moms.length) t.fns.length):=qhq (by unfold fcP;rw [hs];rfl)
 have HQ:=qhq hs
 have hso:=sound_iff hs
 obtain ⟨nf0,nf1,nm1⟩:=sound_fns hso
 have SO:=qhq hso
 obtain ⟨C,hC,hc,hmk⟩:=make_law (P:=Tryz.prog) 64 106 Tryz.underlying64 i_fc t.fns.length (by omega) (by omega)
 have hmm:=@run_makeMap Tryz.prog
 have HC:=qhq hC
 have Hc:=qhq hc
 clear hs hsm hso hC hc
 go_enter Tryz.func29,Tryz.ntmps29
 go_wp2_with fail
 refine (sound_is _ _ t _ (HT.out.later (by repeat (with_reducible first | exact qrq _ _ | exact HL.out | refine qnq ?_ _ | refine bl_drew ?_ | refine qaq ?_ _ | refine bl_set ?_ (by dsimp only;omega) _))) HS.out HQ.out).mono ?_;rintro e w1 ⟨rfl,hb⟩
 have HX:=qhq ((Blk.made w #[.slice A1 t.fns.length c1,.slice A2 t.moms.length c2] 26).later hb)
 have HB:=qhq (qtq (qaq (qrq _ w) _) hb)
 have hw1:w.heap.size < w1.heap.size:=HX.out.lt
 clear hb
 have x0:w1.cell? ⟨w.heap.size,0,none⟩=some (.slice A1 t.fns.length c1):=HX.out.cell (j:=0) (by simp)
 go_wp2_with fail
 clear x0
 go_loopw [19] (fun i wr=>∃ q:Nat,q ≤ t.fns.length ∧ i=.int .i64 q ∧ OwR wr w1.heap.size 106 4 t.fns.length (fcI q) (.slice (some ⟨w1.heap.size,0,none⟩) t.fns.length t.fns.length) ∧ Below w.heap.size w wr ∧
  Blk wr w.heap.size 26 2 (fun j=>#[Value.slice A1 t.fns.length c1,.slice A2 t.moms.length c2].getD j undef)) (fun i _=>t.fns.length - (intOf i).toNat)
 case atStart =>
  exact ⟨0,Nat.zero_le _,rfl,OwR.made HC.out Hc.out (by rfl) (by simp only [maxLen];omega) _ (fun i hi j hj=>by match j,hj with | 0,_=>rfl | 1,_=>rfl | 2,_=>rfl | 3,_=>rfl),qaq HB.out _,HX.out.alloc _⟩
 case round =>
  obtain ⟨q,hq,rfl,hO,hB,hX⟩:=hrel
  clear HB HX
  have HO:=qhq hO
  have HB:=qhq hB
  have HX:=qhq hX
  clear hO hB hX
  by_cases hlt:q < t.fns.length
  ·have x1:=HO.out.cells hlt (j:=0) (by omega)
   have x2:=HO.out.free (q * 4)
   have hlt':(q:Int) < (t.fns.length:Int):=by omega
   simp only [Nat.add_zero] at x1
   go_wp2
   go_roundw
   case rel=>exact ⟨q + 1,by omega,by go_num,fcI_set HO.out hlt,bl_set HB.out (by dsimp only;omega) _,HX.out.far (by dsimp only;omega) _⟩
   case measure=>simp [intOf];omega
  ·obtain rfl:q=t.fns.length:=by omega
   have x1:=HO.out.cells nf0 (j:=1) (by omega)
   have x2:=HO.out.free 1
   simp only [Nat.zero_mul,Nat.zero_add] at x1
   have x3:=HX.out.cell (j:=0) (by omega)
   have x4:=HX.out.cell (j:=1) (by omega)
   have hne:¬ w1.heap.size=w.heap.size:=by omega
   go_wp2_with fail
   refine (newWalk_calls _ _ _).mono ?_;rintro e w2 ⟨g,f,rfl,hW,hgs,hb⟩
   have HO2:=qhq ((fcI_end HO.out nf0).later hb)
   have HX2:=qhq ((HX.out.far (p:=⟨w1.heap.size,1,none⟩) (by dsimp only;omega) (.int .i64 1)).later hb)
   have HW2:=qhq hW
   have HGS:Hid (w1.heap.size < g):=qhq (by have:=HO.out.blt;rw [World.size_setCell] at hgs;omega)
   have HB2:=qhq (qtq (bl_set HB.out (p:=⟨w1.heap.size,1,none⟩) (by dsimp only;omega) (.int .i64 1)) hb)
   clear hW hb x1 x2 x3 x4 HO HX HB hgs hne
   have x1:w2.cell? ⟨w.heap.size,1,none⟩=some (.slice A2 t.moms.length c2):=HX2.out.cell (j:=1) (by simp)
   go_wp2_with fail
   clear x1
   go_loopw [36] (fun i wr=>∃ (n:Nat) (cl:List PFr) (f:Nat → Value),n ≤ t.moms.length ∧ i=.int .i64 n ∧ IsW wr g (.slice A1 t.fns.length c1) (.slice A2 t.moms.length c2) (stN t.moms n) cl f ∧
    OwR wr w1.heap.size 106 4 t.fns.length (fcC (fcN t.moms n)) (.slice (some ⟨w1.heap.size,0,none⟩) t.fns.length t.fns.length) ∧ Below w.heap.size w wr ∧
    Blk wr w.heap.size 26 2 (fun j=>#[Value.slice A1 t.fns.length c1,.slice A2 t.moms.length c2].getD j undef)) (fun i _=>t.moms.length - (intOf i).toNat)
   case atStart=>exact ⟨0,[],f,Nat.zero_le _,rfl,HW2.out,HO2.out,HB2.out,HX2.out⟩
   case round =>
    obtain ⟨n,cl,f,hn,rfl,hW,hO,hB,hX⟩:=hrel
    clear HW2 HO2 HB2 HX2
    have HW:=qhq hW
    have HO:=qhq hO
    have HB:=qhq hB
    have HX:=qhq hX
    clear hW hO hB hX
    by_cases h2:n < t.moms.length
    ·obtain ⟨b,o,vk,hA,d0,d1,d2,d3,d4,d5,hvk⟩:=rd_moment (HT.out.2.later HB.out) h2
     obtain ⟨Av,cv,rfl,-⟩:=hvk
     subst hA
     obtain ⟨b1,b2,b3⟩:=fcN_bd t.moms n (elt t.moms n).fn.toNat
     have hfn:=mom_fn (SO.out.moms n h2)
     go_upto_region 14 with fail
     have HMB:Hid (Blk (wr.alloc _) wr.heap.size 114 6 _):=qhq (Blk.made wr #[.int .i64 (elt t.moms n).kind,.int .i64 (elt t.moms n).task,.int .i64 (elt t.moms n).fn,.int .i64 (elt t.moms n).line,.string (elt t.moms n).text,.slice Av (elt t.moms n).vars.length cv] 114)
     generalize hW2:World.alloc wr _=W2 at HMB ⊢
     have hbl:Below wr.heap.size wr W2:=by rw [← hW2];exact qaq (qrq _ _) _
     have hmb:w.heap.size < wr.heap.size:=HX.out.lt
     clear hW2 d0 d1 d2 d3 d4 d5
     have HI:=qhq (SO.out.inv n hn)
     replace HB:=qhq (qtq HB.out hbl);replace HX:=qhq (HX.out.later hbl);replace HO:=qhq (HO.out.later hbl);replace HW:=qhq (HW.out.later hbl);clear hbl
     go_wp2_with fail
     refine (step_calls g _ _ _ _ _ t.moms n t.fns.length _ HW.out (HT.out.2.later HB.out) h2 HI.out (SO.out.moms n h2) (SO.out.moves n h2)).mono ?_
     rintro e w3 ⟨rfl,⟨f',hW3⟩,hgb⟩
     have hmv:Mv [146] w.heap.size W2 w3:=(Mv.refl _ _ _).grown HB.out.size hgb (fun b hb=>by cases hb;exact ⟨by have:=HGS.out;omega,_,_,_,HW.out.blk,by decide⟩)
     replace HMB:=qhq (HMB.out.mv hmv (by decide))
     replace HX:=qhq (HX.out.mv hmv (by decide))
     replace HO:=qhq (HO.out.mv hmv (by decide))
     replace HB:=qhq (bl_grown HB.out hgb (by have:=HGS.out;omega))
     clear HW
     have HW:=qhq hW3
     clear hmv hW3 hgb
     have y0:w3.cell? ⟨wr.heap.size,0,none⟩=some (.int .i64 (elt t.moms n).kind):=HMB.out.cell (j:=0) (by omega)
     have y2:w3.cell? ⟨wr.heap.size,2,none⟩=some (.int .i64 (elt t.moms n).fn):=HMB.out.cell (j:=2) (by omega)
     have hfq1:(elt t.moms n).fn.toNat < t.fns.length:=by omega
     have hfq2:(elt t.moms n).fn < (t.fns.length:Int):=by omega
     by_cases k2:(elt t.moms n).kind=2
     ·have hd1:((elt t.moms n).kind == 2)=true:=by simp [k2]
      have HK2:=qhq k2
      have z3:w3.cell? ⟨w1.heap.size,(elt t.moms n).fn.toNat * 4 + 1,none⟩=some (.int .i64 ((fcN t.moms n).cal (elt t.moms n).fn.toNat)):=HO.out.cells hfq1 (j:=1) (by omega)
      have z2:=HO.out.free ((elt t.moms n).fn.toNat * 4 + 1)
      clear k2
      go_wp2
      go_roundw
      case rel =>
       refine ⟨n + 1,closedP (stN t.moms n) (elt t.moms n),f',by omega,by go_num,?_,?_,bl_set HB.out (by dsimp only;omega) _,HX.out.far (by dsimp only;omega) _⟩
       ·exact HW.out.mv ((Mv.refl [106] w.heap.size w3).setO HO.out (Nat.le_of_lt hw1) (by decide) _ _) (by decide) (by decide)
       ·have:=fcC_cal HO.out hfq1 (fn:=(elt t.moms n).fn) (by omega)
        have e:fcN t.moms (n + 1)=⟨bump (fcN t.moms n).cal (elt t.moms n).fn,(fcN t.moms n).slf,(fcN t.moms n).tot⟩:=by
         show fcStep _ _ _=_
         unfold fcStep;rw [if_pos HK2.out]
        rw [e];exact this
      case measure=>simp [intOf];omega
     ·by_cases k1:(elt t.moms n).kind=1
      ·have hd1:((elt t.moms n).kind == 2)=false:=by simp [k1]
       have hd2:((elt t.moms n).kind == 1)=true:=by simp [k1]
       have HK1:=qhq k1
       have z3:w3.cell? ⟨w1.heap.size,(elt t.moms n).fn.toNat * 4 + 2,none⟩=some (.int .i64 ((fcN t.moms n).slf (elt t.moms n).fn.toNat)):=HO.out.cells hfq1 (j:=2) (by omega)
       have z2:=HO.out.free ((elt t.moms n).fn.toNat * 4 + 2)
       clear k1 k2
       have hw3:w1.heap.size < w3.heap.size:=HO.out.blt.2
       go_upto_region 21 with fail
       have hO4:=(fcC_slf HO.out hfq1 (fn:=(elt t.moms n).fn) (by omega)).later (qaq (qrq _ _) (.map #[] 0))
       have hS4:=(HW.out.mv ((Mv.refl [106] w.heap.size w3).setO HO.out (Nat.le_of_lt hw1) (by decide) ((elt t.moms n).fn.toNat * 4 + 2) (.int .i64 ((fcN t.moms n).slf (elt t.moms n).fn.toNat + 1))) (by decide) (by decide)).later (qaq (qrq _ _) (.map #[] 0))
       have hX4:=(HX.out.far (p:=⟨w1.heap.size,(elt t.moms n).fn.toNat * 4 + 2,none⟩) (by dsimp only;omega) (.int .i64 ((fcN t.moms n).slf (elt t.moms n).fn.toNat + 1))).alloc (.map #[] 0)
       have hB4:=qaq (bl_set HB.out (p:=⟨w1.heap.size,(elt t.moms n).fn.toNat * 4 + 2,none⟩) (by dsimp only;omega) (.int .i64 ((fcN t.moms n).slf (elt t.moms n).fn.toNat + 1))) (.map #[] 0)
       have hM4:OwMi _ _ _ _:=OwM.made (w3.setCell ⟨w1.heap.size,(elt t.moms n).fn.toNat * 4 + 2,none⟩ (.int .i64 ((fcN t.moms n).slf (elt t.moms n).fn.toNat + 1)))
       rw [World.size_setCell] at hM4
       generalize hW4:World.alloc _ _=W4 at hO4 hS4 hX4 hM4 hB4 ⊢
       clear hW4 z3 z2 y0 y2 HO HW HX HB HMB hd1 hd2
       have HI2:=SO.out.inv (n + 1) (by omega)
       have i0:=HI2.lo
       have i1:=HI2.hi
       have i2:=HI2.deep (stN t.moms (n + 1)).cur
       have hcx:(stN t.moms (n + 1)).cur < 101:=by omega
       have HFN:=qhq (SO.out.fnsIn (n + 1) (by omega))
       have HTOT:=qhq (fun j=>(fcN_bd t.moms n j).2.2)
       replace hS4:IsW W4 g _ _ (stN t.moms (n + 1)) _ f':=hS4
       obtain ⟨pp,cp,hl⟩:=hS4.at i0 i1
       have cc:W4.cell? ⟨g,2,none⟩=some (.int .i64 (stN t.moms (n + 1)).cur):=(hS4.blk.cell (by omega)).trans (by rw [hS4.cur])
       have HW:=qhq hS4
       have HO:=qhq hO4
       have HX:=qhq hX4
       have HM:=qhq hM4
       have HB:=qhq hB4
       have HL:=qhq hl
       clear hS4 hO4 hX4 hM4 hB4 hl HI2
       go_quiet (fail)
       go_wp2_with fail
       clear cp cc
       generalize hLL:(stN t.moms (n + 1)).stk (stN t.moms (n + 1)).cur=L at HL i2 HFN
       have HLL:=qhq hLL
       clear hLL
       go_loopg [9] L.length (fun gk a wx=>∃ (q:Nat) (p:Option Addr),q + gk=L.length ∧ a=.pointer p ∧ FrL wx p (L.drop q) ∧ IsW wx g (.slice A1 t.fns.length c1) (.slice (some ⟨b,o,none⟩) t.moms.length c2) (stN t.moms (n + 1)) (closedP (stN t.moms n) (elt t.moms n)) f' ∧
        OwR wx w1.heap.size 106 4 t.fns.length (fcC ⟨(fcN t.moms n).cal,bump (fcN t.moms n).slf (elt t.moms n).fn,bumpAll (fcN t.moms n).tot (L.take q)⟩) (.slice (some ⟨w1.heap.size,0,none⟩) t.fns.length t.fns.length) ∧
        OwMi wx w3.heap.size q (cntM (L.take q)) ∧ Below w.heap.size w wx ∧ Blk wx w.heap.size 26 2 (fun j=>#[Value.slice A1 t.fns.length c1,.slice (some ⟨b,o,none⟩) t.moms.length c2].getD j undef))
       case atStart =>
        refine ⟨0,pp,by omega,rfl,by rw [List.drop_zero];exact HL.out.later (qnq (qrq _ _) _),HW.out.drewN _,?_,?_,qnq HB.out _,HX.out⟩
        ·rw [List.take_zero]
         exact HO.out.congr fun i hi j hj=>by
          match j,hj with
          | 0,_=>rfl
          | 1,_=>rfl
          | 2,_=>rfl
          | 3,_=>simp only [fcC,bumpAll_nil]
        ·rw [List.take_zero];exact HM.out.later (qnq (qrq _ _) _)
       case round =>
        obtain ⟨q,p,hq,rfl,hl,hW,hO,hM,hB,hX⟩:=hrel
        clear HW HO HX HB HM HL
        have HW:=qhq hW
        have HO:=qhq hO
        have HB:=qhq hB
        have HX:=qhq hX
        have HM:=qhq hM
        clear hW hO hB hX hM
        by_cases hql:q < L.length
        ·rw [drop_cons hql] at hl
         obtain ⟨bf,nx,rfl,hBf,hl2⟩:=hl
         obtain ⟨fr,hfr⟩:∃ fr,elt L q=fr:=⟨_,rfl⟩
         rw [hfr] at hBf
         have hmem:fr ∈ L:=by rw [← hfr,elt_eq hql];exact List.getElem_mem _
         obtain ⟨g0,g1⟩:=HFN.out _ fr (by rw [HLL.out];exact hmem)
         have HTK:=qhq (take_snoc (xs:=L) (i:=q) hql)
         have HFR:=qhq hfr
         obtain ⟨fg,hfg⟩:∃ fg:Nat,fr.fn=(fg:Int):=⟨fr.fn.toNat,by omega⟩
         have HFG:=qhq hfg
         have hfg1:fg < t.fns.length:=by omega
         have hfg2:(fg:Int) < (t.fns.length:Int):=by omega
         have okf:ok64 (fg:Int):=by unfold ok64;omega
         have hc0:=cntF_le (L.take q) fg
         rw [List.length_take] at hc0
         obtain ⟨c,hc⟩:∃ c,cntF (L.take q) fg=c:=⟨_,rfl⟩
         rw [hc] at hc0
         have hlk:(Instr.lookup 142 (.map (some w3.heap.size)) (.int .i64 fg) false).run Tryz.prog wr=.ok (.int .i64 c) wr:=by
          have:=HM.out.look m_int okf
          rw [cntM_getD,hc] at this;exact this
         obtain ⟨wm,hup,hM2,hgm⟩:=OwM.update m_int HM.out okf (y:=(c:Int) + 1) (by unfold ok64;omega) (by simp only [maxLen];omega)
         replace hup:(Instr.mapUpdate 142 (.map (some w3.heap.size)) (.int .i64 fg) (.int .i64 ((c:Int) + 1))).run Tryz.prog wr=.ok () wm:=hup
         have hlk2:(Instr.lookup 142 (.map (some w3.heap.size)) (.int .i64 fg) false).run Tryz.prog wm=.ok (.int .i64 ((c:Int) + 1)) wm:=by
          have:=hM2.look m_int okf
          rw [this];simp [setM]
         have hnem:=fun b' e N f' (hB:Blk wr b' e N f')=>HM.out.ne hB
         have hBf2:=hBf.gm hgm (hnem _ _ _ _ hBf)
         have hO2:=HO.out.grown hgm (fun b' hb' hh=>by obtain ⟨N,F,hBk⟩:=HO.out.block hb';exact hnem _ _ _ _ hBk (Option.some.inj hh).symm)
         have hW2:=HW.out.gm hgm hnem
         have hX2:=HX.out.gm hgm (hnem _ _ _ _ HX.out)
         have hl3:=hl2.gm hgm hnem
         have hB2:=bl_grown HB.out hgm (by omega)
         have hM3:OwMi wm w3.heap.size (q + 1) (cntM (L.take (q + 1))):=hM2.congr fun x hx=>by
          rw [HTK.out,hfr,← cntM_set,hfg,hc]
         have u0:wr.cell? ⟨bf,0,none⟩=some (.int .i64 fg):=by have:=hBf.cell (j:=0) (by omega);rw [this];simp only [frNode,hfg]
         have u1:wm.cell? ⟨bf,0,none⟩=some (.int .i64 fg):=by have:=hBf2.cell (j:=0) (by omega);rw [this];simp only [frNode,hfg]
         have u2:wm.cell? ⟨bf,3,none⟩=some (.pointer nx):=hBf2.cell (j:=3) (by omega)
         have v2:wm.cell? ⟨w1.heap.size,fg * 4 + 3,none⟩=some (.int .i64 (bumpAll (fcN t.moms n).tot (L.take q) fg)):=hO2.cells hfg1 (j:=3) (by omega)
         have v3:=hO2.free (fg * 4 + 3)
         obtain ⟨No,Fo,hOk⟩:=hO2.block (b:=w1.heap.size) rfl
         have hbo:¬ bf=w1.heap.size:=fun hh=>hBf2.ne hOk (by decide) hh
         obtain ⟨q0,q1⟩:=bumpAll_bd (l:=L.take q) (HTOT.out fg)
         generalize hzz:bumpAll (fcN t.moms n).tot (L.take q) fg=zz at v2 q0 q1
         have hop:=cntF_zero (L.take q) fg
         rw [hc] at hop
         have HZZ:=qhq hzz
         have HOP:=qhq hop
         have RO:=qhq hO2
         have RW:=qhq hW2
         have RX:=qhq hX2
         have RL:=qhq hl3
         have RB:=qhq hB2
         have RM:=qhq hM3
         have hsm':w3.heap.size < wm.heap.size:=hM2.lt
         clear hzz hop hfr hmem hfg g0 g1 hc hM2 hgm hnem hBf hBf2 hO2 hW2 hX2 hl2 hl3 hB2 hM3 hOk HW HO HB HX HM
         by_cases hcz:c=0
         ·have hd:((c:Int) + 1 == 1)=true:=by simp [hcz]
          have HCZ:=qhq hcz
          clear hcz
          have hO3:=fcC_tot (fn:=(fg:Int)) RO.out hfg1 rfl
          dsimp only at hO3
          rw [HZZ.out] at hO3
          have RO2:=qhq hO3
          have RM2:=qhq ((Mv.refl [106] w.heap.size wm).setO RO.out (by omega) (by decide) (fg * 4 + 3) (.int .i64 (zz + 1)))
          clear hO3
          go_wp2
          go_roundg (gk - 1)
          case measure=>omega
          case rel =>
           refine ⟨q + 1,nx,by omega,rfl,RL.out.mv RM2.out (by decide),RW.out.mv RM2.out (by decide) (by decide),?_,RM.out.mv RM2.out,RM2.out.bl |> bl_trans3 RB.out,RX.out.mv RM2.out (by decide)⟩
           rw [HTK.out,HFR.out]
           exact RO2.out.congr fun i hi j hj=>by
            match j,hj with
            | 0,_=>rfl
            | 1,_=>rfl
            | 2,_=>rfl
            | 3,_=>simp only [fcC];rw [bumpAll_new HFG.out (HOP.out.1 HCZ.out)]
         ·have hd:((c:Int) + 1 == 1)=false:=by rw [beq_eq_false_iff_ne];omega
          have HCZ:=qhq hcz
          clear hcz
          go_wp2
          go_roundg (gk - 1)
          case measure=>omega
          case rel =>
           refine ⟨q + 1,nx,by omega,rfl,RL.out,RW.out,?_,RM.out,RB.out,RX.out⟩
           rw [HTK.out,HFR.out]
           exact RO.out.congr fun i hi j hj=>by
            match j,hj with
            | 0,_=>rfl
            | 1,_=>rfl
            | 2,_=>rfl
            | 3,_ =>
             simp only [fcC]
             rw [bumpAll_old HFG.out (by
              cases ho:openIn (L.take q) fg with
              | true=>rfl
              | false=>exact absurd (HOP.out.2 ho) HCZ.out)]
        ·obtain rfl:q=L.length:=by omega
         rw [List.drop_length] at hl
         obtain rfl:p=none:=hl
         go_wp2
         go_roundw
         case rel =>
          refine ⟨n + 1,closedP (stN t.moms n) (elt t.moms n),f',by omega,by go_num,HW.out,?_,HB.out,HX.out⟩
          have e:fcN t.moms (n + 1)=⟨(fcN t.moms n).cal,bump (fcN t.moms n).slf (elt t.moms n).fn,bumpAll (fcN t.moms n).tot L⟩:=by
           show fcStep _ _ _=_
           unfold fcStep;rw [if_neg (by rw [HK1.out];decide),if_pos HK1.out]
           show FC.mk _ _ (bumpAll _ ((stN t.moms (n + 1)).stk (stN t.moms (n + 1)).cur))=_
           rw [HLL.out]
          rw [e]
          exact HO.out.congr fun i hi j hj=>by
           match j,hj with
           | 0,_=>rfl
           | 1,_=>rfl
           | 2,_=>rfl
           | 3,_ =>
            simp only [fcC]
            rw [List.take_length]
         case measure=>simp [intOf];omega
      ·have hd1:((elt t.moms n).kind == 2)=false:=by simp [k2]
       have hd2:((elt t.moms n).kind == 1)=false:=by simp [k1]
       have HK1:=qhq k1
       have HK2:=qhq k2
       clear k1 k2
       go_wp2
       go_roundw
       case rel =>
        refine ⟨n + 1,closedP (stN t.moms n) (elt t.moms n),f',by omega,by go_num,HW.out,?_,HB.out,HX.out⟩
        have e:fcN t.moms (n + 1)=fcN t.moms n:=by
         show fcStep _ _ _=_
         unfold fcStep;rw [if_neg HK2.out,if_neg HK1.out]
        rw [e];exact HO.out
       case measure=>simp [intOf];omega
    ·obtain rfl:n=t.moms.length:=by omega
     go_wp2
     go_ret
     refine ⟨_,rfl,?_,HB.out⟩
     rw [HR.out,fcList_len]
     exact (HO.out.lower (Nat.le_of_lt hw1)).congr fun i hi j hj=>(fcList_row _ hi).symm
theorem impl_FnCounts_calls (v1 v2:Value) (t:PTr) (w:World) (h:RdTr w v1 v2 t) (hsm:smTr t) :
  Calls Tryz.prog 29 #[.agg #[v1,v2]] w (OwRet w 106 4 (fcP t).length (fcRow (fcP t))):=by
 cases hs:soundP t with
 | false=>exact impl_FnCounts_bad v1 v2 t w h hsm hs
 | true=>exact impl_FnCounts_good v1 v2 t w h hsm hs
set_option maxRecDepth 100000 in
theorem lits2 {k : TypeId} {f0 f1 : Field} (hu : Tryz.prog.underlying k = some (.struct #[f0, f1])) (hc : Tryz.prog.cellsOf k = 2) (n0 : (f0.name != "_") = true) (n1 : (f1.name != "_") = true)
  (t0:f0.type=3) (t1:f1.type=3) (o0:f0.offset=0) (o1:f1.offset=1) (d:Nat) {a b:Int} (ha:ok64 a) (hb:ok64 b) :
  Tryz.prog.keyLits (d + 2) k [.int .i64 a,.int .i64 b]=some [.int .i64 a,.int .i64 b]:=by
 have e:∀ x:Int,ok64 x → Tryz.prog.keyLits (d + 1) 3 [.int .i64 x]=some [.int .i64 x]:=fun x hx=>by
  simp [Program.keyLits,Tryz.underlying3,wf64 hx]
 rw [show d + 2=(d + 1) + 1 from rfl]
 unfold Program.keyLits
 rw [hu]
 dsimp only
 rw [if_pos ⟨by rw [hc];rfl,by simp at n0 n1;simp [n0,n1]⟩]
 simp [t0,t1,o0,o1,c_int,e a ha,e b hb]
set_option maxRecDepth 100000 in
theorem keyOf2 {k : TypeId} {f0 f1 : Field} (hu : Tryz.prog.underlying k = some (.struct #[f0, f1])) (hc : Tryz.prog.cellsOf k = 2) (n0 : (f0.name != "_") = true) (n1 : (f1.name != "_") = true)
  (t0:f0.type=3) (t1:f1.type=3) (o0:f0.offset=0) (o1:f1.offset=1) (hk:Tryz.prog.keyType k=true) {a b:Int} (ha:ok64 a) (hb:ok64 b) :
  ∃ l,keyOf Tryz.prog k (.agg #[.int .i64 a,.int .i64 b])=some l:=by
 obtain ⟨d,hd⟩:∃ d,Tryz.prog.types.size + 1=d + 2:=⟨Tryz.prog.types.size - 1,by
  have:0 < Tryz.prog.types.size:=of_decide_eq_true (by kernel_rfl)
  omega⟩
 have hformed:(Value.agg #[.int .i64 a,.int .i64 b]).formed Tryz.prog k=true:=by simp [Value.formed,hu,hc]
 refine ⟨.string (keyBytes [.int .i64 a,.int .i64 b]),?_⟩
 unfold keyOf
 rw [hu]
 dsimp only
 rw [if_pos (by rw [hk,hformed];rfl),hd]
 show Option.map _ (Tryz.prog.keyLits (d + 2) k [.int .i64 a,.int .i64 b])=_
 rw [lits2 hu hc n0 n1 t0 t1 o0 o1 d ha hb]
 rfl
def pairV (p:Int × Int):Value:=.agg #[.int .i64 p.1,.int .i64 p.2]
def okP (p:Int × Int):Prop:=ok64 p.1 ∧ ok64 p.2
end Go.Proofs.YtcklnjjbhngbcaaGreatDoor
