/- Lemmas and contracts of functions that the theorem of this claim leans on (texts KTop). -/
import Derived.Test.YtcklnjjbhngbcaaGreatDoorRowTopz00
import Derived.Test.YtcklnjjbhngbcaaGreatDoorRowTopzB
import Derived.Deep.RegionHeld3
import Derived.Test.YtcklnjjbhngbcaaGreatDoorRowUnz29
import Derived.Test.YtcklnjjbhngbcaaGreatDoorRowTopz04
import Derived.Test.YtcklnjjbhngbcaaGreatDoorRowTopz05
import Derived.Test.YtcklnjjbhngbcaaGreatDoorRowTopz06
import Derived.Test.YtcklnjjbhngbcaaGreatDoorRowTopz10
import Derived.Test.YtcklnjjbhngbcaaGreatDoorRowTopz11
import Derived.Test.YtcklnjjbhngbcaaGreatDoorRowTopz32
import Derived.Test.YtcklnjjbhngbcaaGreatDoorRowTopz36
import Derived.Test.YtcklnjjbhngbcaaGreatDoorRowTopz37
namespace Go.Proofs.YtcklnjjbhngbcaaGreatDoor
open Go.RowKit Go.Proofs.Lens Go.ChangeShapes Go.WideShapes
set_option maxRecDepth 100000 in
set_option maxHeartbeats 60000000 in
theorem top_law (u1 u2 : Value) (code more : List Nat) (w : World) (hr : RdBytes w u1 code) (hr2 : RdBytes w u2 more) (hlaid : ErrLaid w) (htab : Lib.TabBelow Tryz.prog w.heap.size w "internal/strconv.uint64pow10" .u64 Lib.pow10Tab) :
  Calls Tryz.prog 3 #[u1,u2] w fun e w'=>e=.returned (.bool true) ∧ Below w.heap.size w w':=by
 have HR:=qhq hr
 have HR2:=qhq hr2
 have HER:=qhq hlaid
 have HTB:=qhq htab
 obtain ⟨A0,c0,rfl,hn0,-⟩:=hr.open'
 obtain ⟨A9,c9,rfl,hn9,-⟩:=hr2.open'
 clear hr hr2 hlaid htab
 by_cases hbig:1048576 < code.length
 ·have hd:decide ((code.length:Int) > 1048576)=true:=by simp;omega
  go_enter Tryz.func3,Tryz.ntmps3
  go_wp2
  go_ret
  exact ⟨rfl,qrq _ _⟩
 have hd:decide ((code.length:Int) > 1048576)=false:=by simp;omega
 by_cases hbig2:1048576 < more.length
 ·have hd2:decide ((more.length:Int) > 1048576)=true:=by simp;omega
  go_enter Tryz.func3,Tryz.ntmps3
  go_wp2
  go_ret
  exact ⟨rfl,qrq _ _⟩
 have hd2:decide ((more.length:Int) > 1048576)=false:=by simp;omega
 have hcode:code.length ≤ 1048576:=by omega
 have hso:=drawnT_sound hcode
 have hn:=drawnT_len hcode
 have hsm:=sm_sound hso
 have hrd:∀ (W:World) (gs lo:Nat) (v2:Value),Blk W gs 9 4 strsF → BMoms W lo v2 (drawnT code).moms → RdTr W (.slice (some ⟨gs,0,none⟩) 4 4) v2 (drawnT code):=fun W gs lo v2 a b=>drawn_rd a b
 have HDC:=qhq (fun (W:World) (h:RdBytes W (.slice A0 code.length c0) code)=>drawn_calls _ code W h hcode)
 obtain ⟨t,ht⟩:∃ t,drawnT code=t:=⟨_,rfl⟩
 rw [ht] at hso hn hsm hrd HDC
 have HRD:=qhq hrd
 have HSM:=qhq hsm
 have HSO:=qhq hso.is
 obtain ⟨n,hnn⟩:∃ n,t.moms.length=n:=⟨_,rfl⟩
 rw [hnn] at hn
 have HNN:=qhq hnn
 have HIR := qhq (fun (v1 v2 : Value) (W : World) (h : RdTr W v1 v2 t) (ht : Lib.TabBelow Tryz.prog W.heap.size W "internal/strconv.uint64pow10" .u64 Lib.pow10Tab) => impl_Report_calls v1 v2 t W h HSM.out ht)
 have HSR:=qhq (fun (v1 v2:Value) (W:World) (h:RdTr W v1 v2 t)=>spec_Report_calls v1 v2 t W h HSM.out)
 generalize (⟨(repP t).toArray⟩:ByteArray)=RS at HIR HSR
 have HTT := qhq (fun (W' : World) (h' : Below w.heap.size w W') => (show Lib.TabBelow Tryz.prog W'.heap.size W' "internal/strconv.uint64pow10" .u64 Lib.pow10Tab from fun W'' h'' => HTB.out W'' (qtq h' h'')))
 clear hso hsm hrd ht hnn hbig hbig2 HTB
 go_enter Tryz.func3,Tryz.ntmps3
 go_wp2_with fail
 refine (HDC.out _ HR.out).mono ?_;rintro e w1 ⟨gs,v2,rfl,hgs,hS,hM,hb⟩
 obtain ⟨A2,c2,rfl,-⟩:=hM.cap
 rw [HNN.out] at hM ⊢
 have HRT:=qhq (HRD.out _ _ _ _ hS hM)
 have HB:=qhq hb
 clear hS hM hb
 go_upto_region 4 with fail
 have HX:=qhq (BoxAt.new w1 [.slice (some ⟨gs,0,none⟩) 4 4,.slice A2 n c2] 26)
 have HQ:=qhq (qaq (qrq _ w1) (.cells #[.slice (some ⟨gs,0,none⟩) 4 4,.slice A2 n c2] 26))
 obtain ⟨xb,hxb⟩:∃ x,w1.heap.size=x:=⟨_,rfl⟩
 generalize World.alloc w1 _=W at HX HQ ⊢
 have hlr:Below w1.heap.size w1 W:=HQ.out
 clear HQ
 replace HB:=qhq (qtq HB.out hlr);replace HRT:=qhq (HRT.out.later hlr);clear hlr
 rw [hxb] at HX ⊢
 clear hxb
 go_wp2_with fail
 refine (HDC.out _ (HR.out.later HB.out)).mono ?_;rintro e w2 ⟨gs2,v3,rfl,hgs2,hS,hM,hb⟩
 obtain ⟨A3,c3,rfl,-⟩:=hM.cap
 rw [HNN.out] at hM ⊢
 have HRS:=qhq (HRD.out _ _ _ _ hS hM)
 clear hS hM HDC HRD HR
 replace HB:=qhq (qtq HB.out hb);replace HRT:=qhq (HRT.out.later hb);replace HX:=qhq (HX.out.later hb);clear hb
 go_upto_region 5 with fail
 have HY:=qhq (BoxAt.new w2 [.slice (some ⟨gs2,0,none⟩) 4 4,.slice A3 n c3] 26)
 have HQ:=qhq (qaq (qrq _ w2) (.cells #[.slice (some ⟨gs2,0,none⟩) 4 4,.slice A3 n c3] 26))
 obtain ⟨yb,hyb⟩:∃ x,w2.heap.size=x:=⟨_,rfl⟩
 generalize World.alloc w2 _=W2 at HY HQ ⊢
 have hlr:Below w2.heap.size w2 W2:=HQ.out
 clear HQ
 replace HB:=qhq (qtq HB.out hlr);replace HRT:=qhq (HRT.out.later hlr);replace HX:=qhq (HX.out.later hlr);replace HRS:=qhq (HRS.out.later hlr);clear hlr
 rw [hyb] at HY ⊢
 clear hyb
 obtain ⟨x0,x1⟩:=HX.out.open2
 go_wp2_with fail
 clear x0 x1
 refine (spec_Asks_calls _ A2 n c2 _ more W2 (HR2.out.later HB.out) (by omega)).mono ?_;rintro e w3 ⟨xs,ov,rfl,hO,hxl,hsa,hb⟩
 obtain ⟨A4,c4,rfl,-⟩:=hO.cap
 have HA:=qhq (show RdAsks w3 (.slice A4 xs.length c4) xs from hO.rd)
 have HSA:=qhq (fun i (hi:i < xs.length)=>Nat.le_trans (hsa i hi).1 (by decide:1 ≤ 9223372036854775807))
 have HLL:=qhq (show (lookP t xs).length=xs.length by rw [lookP_eq HSO.out (by omega),lkN_len])
 obtain ⟨L,hL⟩:∃ L,xs.length=L:=⟨_,rfl⟩
 rw [hL] at HA hxl HLL ⊢
 clear hO hsa HR2 hL
 replace HB:=qhq (qtq HB.out hb);replace HRT:=qhq (HRT.out.later hb);replace HX:=qhq (HX.out.later hb);replace HRS:=qhq (HRS.out.later hb);replace HY:=qhq (HY.out.later hb);clear hb
 obtain ⟨y0,y1⟩:=HY.out.open2
 go_wp2_with fail
 clear y0 y1
 refine (spec_Look_calls _ _ _ t xs _ HRS.out HSM.out HA.out HSA.out).mono ?_;rintro e w4 ⟨u0,sv0,vv0,rfl,hT0,hb⟩
 have HW:=qhq hT0.rd
 obtain ⟨A5,c5,rfl,-⟩:=hT0.row.cap
 rw [HLL.out] at HW ⊢
 clear hT0
 replace HB:=qhq (qtq HB.out hb);replace HRT:=qhq (HRT.out.later hb);replace HX:=qhq (HX.out.later hb);replace HRS:=qhq (HRS.out.later hb);replace HY:=qhq (HY.out.later hb);replace HA:=qhq (HA.out.later hb);clear hb
 obtain ⟨x0,x1⟩:=HX.out.open2
 go_wp2_with fail
 clear x0 x1
 have HER4:=qhq (HER.out.later HB.out)
 refine (impl_Look_calls _ _ _ t xs _ HRT.out HSM.out HA.out HSA.out HER4.out).mono ?_;rintro e w5 ⟨u5,sv,vv,rfl,hT5,hb⟩
 have HG5:=qhq hT5.rd
 have hcap:=(hT5.got HLL.out).cap
 have HGO:=qhq (hT5.got HLL.out)
 obtain ⟨A6,c6,rfl,-⟩:=hT5.row.cap
 rw [HLL.out] at HG5 hcap HGO ⊢
 obtain ⟨ns,hns⟩:∃ f:Nat → Nat,(fun i=>(elt (lookP t xs) i).stack.length)=f:=⟨_,rfl⟩
 obtain ⟨nv,hnv⟩:∃ f:Nat → Nat,(fun i=>(elt (lookP t xs) i).vars.length)=f:=⟨_,rfl⟩
 rw [hns,hnv] at HGO
 have HW5:=qhq (HW.out.later hb)
 have HRT5:=qhq (HRT.out.later hb)
 have HRS5:=qhq (HRS.out.later hb)
 have HX5:=qhq (HX.out.later hb)
 have HY5:=qhq (HY.out.later hb)
 have HB5:=qhq (qtq HB.out hb)
 have HB4:=qhq hb
 clear hT5 hb hns hnv HER
 obtain ⟨x0,x1⟩:=HX5.out.open2
 obtain ⟨y0,y1⟩:=HY5.out.open2
 go_upto_region 8 with fail
 go_region_held3 (fun w':World=>Below w5.heap.size w5 w' ∧ w'.cell? ⟨xb,0,none⟩=some (.slice (some ⟨gs,0,none⟩) 4 4) ∧ w'.cell? ⟨xb,1,none⟩=some (.slice A2 n c2) ∧ w'.cell? ⟨yb,0,none⟩=some (.slice (some ⟨gs2,0,none⟩) 4 4) ∧ w'.cell? ⟨yb,1,none⟩=some (.slice A3 n c3))
  (first | exact ⟨bl_drew (qrq _ _),x0,x1,y0,y1⟩ | exact held4 ‹_› hb8)
  (first | (go_at_call 11;refine (wTold_calls _ _ _ _ (HG5.out.later (held4_bl ‹_›)) (HW5.out.later (held4_bl ‹_›))).mono ?_;rintro e w6 ⟨rfl,hb8⟩) | (go_at_call 12;refine (HIR.out _ _ _ (HRT5.out.later (held4_bl ‹_›)) (HTT.out _ (qtq HB5.out (held4_bl ‹_›)))).mono ?_;rintro e w6 ⟨rfl,hb8⟩) | (go_at_call 13;refine (HSR.out _ _ _ (HRS5.out.later (held4_bl ‹_›))).mono ?_;rintro e w6 ⟨rfl,hb8⟩) | (go_at_call 14;refine (wTrace_calls _ _ _ _ t _ (HRT5.out.later (held4_bl ‹_›)) (HRS5.out.later (held4_bl ‹_›))).mono ?_;rintro e w6 ⟨rfl,hb8⟩))
 have hb:Below w5.heap.size w5 _:=held4_bl ‹_›
 have hgo:=HGO.out.later hb
 have hb4:=qtq HB4.out hb
 clear x0 x1 y0 y1 hb8 hb HG5 HW5 HRT5 HRS5 HX5 HY5 HB5 HB4 HGO HIR HSR HTT
 have HGO:=qhq hgo
 have HB4:=qhq hb4
 clear hgo hb4
 go_wp2_with fail
 go_loopw [53] (fun i wr=>∃ q:Nat,q ≤ L ∧ i=.int .i64 q ∧ GotS w4.heap.size (.slice A6 L c6) L ns nv sv vv wr ∧ Below w4.heap.size w4 wr) (fun i _=>L - (intOf i).toNat)
 case atStart=>exact ⟨0,Nat.zero_le _,rfl,HGO.out,HB4.out⟩
 case round =>
  obtain ⟨q,hq,rfl,hG,hb⟩:=hrel
  clear HGO HB4
  have HG:=qhq hG
  have HB4:=qhq hb
  clear hG hb
  by_cases hlt:q < L
  ·have hqI:(q:Int) < (L:Int):=by omega
   obtain ⟨b6,rfl⟩:∃ b6,A6=some ⟨b6,0,none⟩:=by
    rcases hcap with ⟨h0,-⟩ | ⟨b,cap,e⟩
    ·omega
    ·exact ⟨b,by simpa using (congrArg (fun v=>match v with | Value.slice A _ _=>A | _=>none) e)⟩
   obtain ⟨⟨As,cs,hsv⟩,⟨Av,cv,hvv⟩⟩:=HG.out.shapes hlt
   have HSV:=qhq hsv
   have HVV:=qhq hvv
   obtain ⟨z4,z5⟩:=HG.out.cells hlt
   rw [hvv] at z5
   clear z4 hsv hvv
   obtain ⟨kv,hkv⟩:∃ k,nv q=k:=⟨_,rfl⟩
   obtain ⟨kf,hkf⟩:∃ k,ns q=k:=⟨_,rfl⟩
   rw [hkv] at z5
   obtain ⟨hkf9,hkv9⟩:=HG.out.small hlt
   rw [hkv] at hkv9
   rw [hkf] at hkf9
   have HKV:=qhq hkv
   have HKF:=qhq hkf
   clear hkv hkf
   go_wp2_with fail
   clear z5
   go_loopw [62] (fun i wy=>∃ k:Nat,k ≤ kv ∧ i=.int .i64 k ∧ GotS w4.heap.size (.slice (some ⟨b6,0,none⟩) L c6) L ns nv sv vv wy ∧ Below w4.heap.size w4 wy) (fun i _=>kv - (intOf i).toNat)
   case atStart=>exact ⟨0,Nat.zero_le _,rfl,HG.out,HB4.out⟩
   case round =>
    obtain ⟨k,hk,rfl,hG,hb⟩:=hrel
    clear HG HB4
    have HG:=qhq hG
    have HB4:=qhq hb
    clear hG hb
    by_cases hkk:k < kv
    ·have hkI:(k:Int) < (kv:Int):=by omega
     obtain ⟨bv,cap,hvb,-,hc,hf⟩:=HG.out.vars hlt (by rw [HKV.out];omega)
     rw [HKV.out] at hc hvb
     obtain ⟨-,z5⟩:=HG.out.cells hlt
     rw [hvb] at z5
     obtain ⟨o0,x0⟩:=hc k hkk 0 (by omega)
     obtain ⟨o1,x1⟩:=hc k hkk 1 (by omega)
     have f0:=hf (k * 2)
     have f1:=hf (k * 2 + 1)
     simp only [Nat.add_zero] at x0
     have HVB:=qhq hvb
     clear hc hf hvb
     go_wp2
     clear x0 x1 f0 f1 z5
     obtain ⟨g1,hlb⟩:=HG.out.setV (j:=0) hlt (by rw [HKV.out];exact HVB.out) (by rw [HKV.out];exact hkk) (by omega) (.string ⟨#[111,118,101,114]⟩)
     obtain ⟨g2,-⟩:=g1.setV (j:=1) hlt (by rw [HKV.out];exact HVB.out) (by rw [HKV.out];exact hkk) (by omega) (.string ⟨#[]⟩)
     have HG2:=qhq g2
     have HB2:=qhq (bl_set (bl_set HB4.out (p:=⟨bv,k * 2 + 0,none⟩) hlb (.string ⟨#[111,118,101,114]⟩)) (p:=⟨bv,k * 2 + 1,none⟩) hlb (.string ⟨#[]⟩))
     clear g1 g2 HG HB4
     go_roundw
     case rel=>exact ⟨k + 1,by omega,by go_num,HG2.out,HB2.out⟩
     case measure=>simp [intOf];omega
    ·obtain rfl:k=kv:=by omega
     obtain ⟨z4,-⟩:=HG.out.cells hlt
     rw [HSV.out,HKF.out] at z4
     go_wp2_with fail
     clear z4
     go_loopw [80] (fun i wy=>∃ k:Nat,k ≤ kf ∧ i=.int .i64 k ∧ GotS w4.heap.size (.slice (some ⟨b6,0,none⟩) L c6) L ns nv sv vv wy ∧ Below w4.heap.size w4 wy) (fun i _=>kf - (intOf i).toNat)
     case atStart=>exact ⟨0,Nat.zero_le _,rfl,HG.out,HB4.out⟩
     case round =>
      obtain ⟨p,hp,rfl,hG,hb⟩:=hrel
      clear HG HB4
      have HG:=qhq hG
      have HB4:=qhq hb
      clear hG hb
      by_cases hpp:p < kf
      ·have hpI:(p:Int) < (kf:Int):=by omega
       obtain ⟨bv,cap,hvb,-,hc,hf⟩:=HG.out.frames hlt (by rw [HKF.out];omega)
       rw [HKF.out] at hc hvb
       obtain ⟨z4,-⟩:=HG.out.cells hlt
       rw [hvb] at z4
       obtain ⟨o0,x0⟩:=hc p hpp 0 (by omega)
       obtain ⟨o1,x1⟩:=hc p hpp 1 (by omega)
       obtain ⟨o2,x2⟩:=hc p hpp 2 (by omega)
       have f0:=hf (p * 3)
       have f1:=hf (p * 3 + 1)
       have f2:=hf (p * 3 + 2)
       simp only [Nat.add_zero] at x0
       have HVB:=qhq hvb
       clear hc hf hvb
       go_wp2
       clear x0 x1 x2 f0 f1 f2 z4
       obtain ⟨g1,hlb⟩:=HG.out.setF (j:=0) hlt (by rw [HKF.out];exact HVB.out) (by rw [HKF.out];exact hpp) (by omega) (.int .i64 77)
       obtain ⟨g2,-⟩:=g1.setF (j:=1) hlt (by rw [HKF.out];exact HVB.out) (by rw [HKF.out];exact hpp) (by omega) (.int .i64 0)
       obtain ⟨g3,-⟩:=g2.setF (j:=2) hlt (by rw [HKF.out];exact HVB.out) (by rw [HKF.out];exact hpp) (by omega) (.int .i64 0)
       have HG2:=qhq g3
       have HB2:=qhq (bl_set (bl_set (bl_set HB4.out (p:=⟨bv,p * 3 + 0,none⟩) hlb (.int .i64 77)) (p:=⟨bv,p * 3 + 1,none⟩) hlb (.int .i64 0)) (p:=⟨bv,p * 3 + 2,none⟩) hlb (.int .i64 0))
       clear g1 g2 g3 HG HB4
       go_roundw
       case rel=>exact ⟨p + 1,by omega,by go_num,HG2.out,HB2.out⟩
       case measure=>simp [intOf];omega
      ·obtain rfl:p=kf:=by omega
       go_wp2
       go_roundw
       case rel=>exact ⟨q + 1,by omega,by go_num,HG.out,HB4.out⟩
       case measure=>simp [intOf];omega
  ·obtain rfl:q=L:=by omega
   replace HRT:=qhq (HRT.out.later HB4.out)
   replace HRS:=qhq (HRS.out.later HB4.out)
   replace HX:=qhq (HX.out.later HB4.out)
   replace HY:=qhq (HY.out.later HB4.out)
   replace HA:=qhq (HA.out.later HB4.out)
   replace HW:=qhq (HW.out.later HB4.out)
   replace HER4:=qhq (HER4.out.later HB4.out)
   replace HB:=qhq (qtq HB.out HB4.out)
   clear HG HB4 hcap
   obtain ⟨x0,x1⟩:=HX.out.open2
   go_wp2_with fail
   clear x0 x1
   refine (impl_Look_calls _ _ _ t xs _ HRT.out HSM.out HA.out HSA.out HER4.out).mono ?_;rintro e w7 ⟨u7,sv7,vv7,rfl,hT7,hb⟩
   have HG7:=qhq hT7.rd
   obtain ⟨A7,c7,rfl,-⟩:=hT7.row.cap
   clear hT7
   replace HB:=qhq (qtq HB.out hb);replace HRT:=qhq (HRT.out.later hb);replace HRS:=qhq (HRS.out.later hb);replace HX:=qhq (HX.out.later hb);replace HY:=qhq (HY.out.later hb);replace HW:=qhq (HW.out.later hb);clear hb
   go_wp2_with fail
   refine (wTold_calls _ _ _ _ HG7.out HW.out).mono ?_;rintro e w8 ⟨rfl,hb⟩
   replace HB:=qhq (qtq HB.out hb);replace HRT:=qhq (HRT.out.later hb);replace HRS:=qhq (HRS.out.later hb);replace HX:=qhq (HX.out.later hb);replace HY:=qhq (HY.out.later hb);clear hb
   obtain ⟨x0,x1⟩:=HX.out.open2
   obtain ⟨y0,y1⟩:=HY.out.open2
   go_wp2_with fail
   clear x0 x1 y0 y1
   refine (wTrace_calls _ _ _ _ t _ HRT.out HRS.out).mono ?_;rintro e w9 ⟨rfl,hb⟩
   replace HB:=qhq (qtq HB.out hb);clear hb
   go_wp2
   go_ret
   exact ⟨rfl,HB.out⟩
set_option maxRecDepth 100000 in
theorem top_walk (H:Type) (enc:TypeId × Value → H) (W:World) (base:Nat) (args:Array Value) (ds:List (DataW H)) (ps:List MemPlace)
  (hval:∀ (j:Nat) t v,Tryz.f3.params[j]?=some t → args[j]?=some v → Value.okWide Tryz.prog W .any base t v)
  (h : DataW.TrodAll enc Tryz.prog W 0 (fun _ => true) true Tryz.f3.params.toList args.toList ds ps) (hlaid : ErrLaid W) (htab : Lib.TabBelow Tryz.prog W.heap.size W "internal/strconv.uint64pow10" .u64 Lib.pow10Tab) :
  Calls Tryz.prog 3 args W fun e W'=>e=.returned (.bool true) ∧ Below W.heap.size W W':=by
 rw [Tryz.params3] at h hval
 obtain ⟨v0,u0,d0,d1,p0,p1,ha,_,_,h0,h1⟩:=trodAll_two h
 have ha':args=#[v0,u0]:=by simpa using ha
 subst ha'
 obtain ⟨code,hr⟩:=rd_bytes (hval 0 _ _ rfl rfl) h0
 obtain ⟨more,hr2⟩:=rd_bytes (hval 1 _ _ rfl rfl) h1
 exact top_law v0 u0 code more W hr hr2 hlaid htab
end Go.Proofs.YtcklnjjbhngbcaaGreatDoor
