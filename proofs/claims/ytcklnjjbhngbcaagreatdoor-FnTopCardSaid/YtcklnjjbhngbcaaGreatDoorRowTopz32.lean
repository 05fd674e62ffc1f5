/- Lemmas and contracts of functions that the theorem of this claim leans on (texts Q11). -/
import Derived.Test.YtcklnjjbhngbcaaGreatDoorRowTopz00
import Derived.Test.YtcklnjjbhngbcaaGreatDoorRowTopz23
import Derived.Test.YtcklnjjbhngbcaaGreatDoorRowTopz31
namespace Go.Proofs.YtcklnjjbhngbcaaGreatDoor
open Go.RowKit Go.Proofs.Lens
set_option linter.unusedSimpArgs false
theorem tdF_box (w:World) (p:PTold) (Asx Avx:Option Addr) (csx cvx:Nat):Blk (w.alloc (.cells #[.int .i64 p.place,.int .i64 p.code,.int .i64 p.num,.string p.text,.slice Asx p.stack.length csx,.slice Avx p.vars.length cvx] 38)) w.heap.size 38 6 (tdF p (.slice Asx p.stack.length csx) (.slice Avx p.vars.length cvx)) :=
 (Blk.made w #[.int .i64 p.place,.int .i64 p.code,.int .i64 p.num,.string p.text,.slice Asx p.stack.length csx,.slice Avx p.vars.length cvx] 38).congr fun j hj=>by
  have hj:j < 6:=hj
  match j,hj with
  | 0,_=>rfl
  | 1,_=>rfl
  | 2,_=>rfl
  | 3,_=>rfl
  | 4,_=>rfl
  | 5,_=>rfl
set_option maxRecDepth 100000 in
set_option maxHeartbeats 8000000 in
theorem spec_Look_calls (v1 v2 va:Value) (t:PTr) (asks:List PAsk) (w:World) (h:RdTr w v1 v2 t) (hsm:smTr t) (ha:RdAsks w va asks) (hz:∀ i,i < asks.length → (elt asks i).nm.size ≤ 9223372036854775807) :
  Calls Tryz.prog 9 #[.agg #[v1,v2],va] w (TdRet w (lookP t asks)):=by
 have HT:=qhq h
 have HSM:=qhq hsm
 have HA:=qhq ha
 have HZ:=qhq hz
 obtain ⟨⟨A1,c1,rfl,hn1,-⟩,⟨vv,⟨A2,c2,rfl,hn2,-⟩,-⟩⟩:=h
 obtain ⟨A3,c3,rfl,hn3,-⟩:=ha
 clear hsm hz
 obtain ⟨b,hb⟩:∃ b,soundP t=b:=⟨_,rfl⟩
 have HSO:=qhq hb
 go_enter Tryz.func9,Tryz.ntmps9
 go_wp2_with fail
 refine (l1ok_is _ _ t _ (HT.out.later (by repeat (with_reducible first | exact qrq _ _ | exact HL.out | refine qnq ?_ _ | refine bl_drew ?_ | refine qaq ?_ _ | refine bl_set ?_ (by dsimp only;omega) _))) HSM.out hb).mono ?_;rintro e w1 ⟨rfl,hbl⟩
 have HB:=qhq (qtq (qaq (qrq _ w) _) hbl)
 have HX:=qhq ((BoxAt.new w [.slice A1 t.fns.length c1,.slice A2 t.moms.length c2] 26).later hbl)
 clear hbl hb
 cases b with
 | false =>
  go_wp2_with fail
  go_ret
  rw [lookP_no (.inl HSO.out)]
  exact ⟨_,_,_,rfl,BTold.nil,HB.out⟩
 | true =>
  by_cases hl:500 < asks.length
  ·have hl':(500:Int) < (asks.length:Int):=by omega
   go_wp2_with fail
   go_ret
   rw [lookP_no (.inr hl)]
   exact ⟨_,_,_,rfl,BTold.nil,HB.out⟩
  ·have hl':¬ (500:Int) < (asks.length:Int):=by omega
   obtain ⟨x0,x1⟩:=HX.out.open2
   go_upto_region 4 with fail
   clear x0 x1
   have HW0:=HB.out.size
   have hblk:Blk (w1.alloc (.cells #[.slice A1 t.fns.length c1,.slice A2 t.moms.length c2,.int .i64 (-1),.slice none 0 0,.slice none 0 0] 81)) w1.heap.size 81 5 (slF (.slice A1 t.fns.length c1) (.slice A2 t.moms.length c2) lk0.place (.slice none 0 0) (.slice none 0 0)) :=
    (Blk.made w1 #[.slice A1 t.fns.length c1,.slice A2 t.moms.length c2,.int .i64 (-1),.slice none 0 0,.slice none 0 0] 81).congr fun j hj=>by
     have hj:j < 5:=hj
     match j,hj with
     | 0,_=>rfl
     | 1,_=>rfl
     | 2,_=>rfl
     | 3,_=>rfl
     | 4,_=>rfl
   have HS:Hid (SpL (w1.alloc (.cells #[.slice A1 t.fns.length c1,.slice A2 t.moms.length c2,.int .i64 (-1),.slice none 0 0,.slice none 0 0] 81)) w.heap.size w1.heap.size t.moms.length t.moms (.slice A1 t.fns.length c1) (.slice A2 t.moms.length c2) lk0 (.slice none 0 0) (.slice none 0 0)):=qhq
    ⟨hblk,⟨fun _=>undef,OwR.nil,fun i hi=>absurd hi (by simp [lk0])⟩,OwR.nil⟩
   have HB2:=qhq (qaq HB.out (.cells #[.slice A1 t.fns.length c1,.slice A2 t.moms.length c2,.int .i64 (-1),.slice none 0 0,.slice none 0 0] 81))
   clear hblk HX HB
   obtain ⟨l,hle⟩:∃ l,w1.heap.size=l:=⟨_,rfl⟩
   generalize World.alloc w1 _=w2 at HS HB2 ⊢
   rw [hle] at HS HW0 ⊢
   clear hle
   go_wp2_with fail
   go_loopw [6,23] (fun o i wr=>∃ k:Nat,k ≤ asks.length ∧ i=.int .i64 k ∧ (∃ sv vv,BTold wr w.heap.size o (lkN t asks k).1 sv vv) ∧ (∃ hv pv,SpL wr w.heap.size l t.moms.length t.moms (.slice A1 t.fns.length c1) (.slice A2 t.moms.length c2) (lkN t asks k).2 hv pv) ∧ Below w.heap.size w wr) (fun _ i _=>asks.length - (intOf i).toNat)
   case atStart=>exact ⟨0,Nat.zero_le _,rfl,⟨_,_,BTold.nil⟩,⟨_,_,HS.out⟩,HB2.out⟩
   case round =>
    obtain ⟨k,hk,rfl,⟨sv,vv9,hT⟩,⟨hv,pv,hS⟩,hB⟩:=hrel
    clear HS HB2
    have HTD:=qhq hT
    have HS:=qhq hS
    have HB:=qhq hB
    obtain ⟨A6,c6,rfl,-⟩:=hT.row.cap
    clear hT hS
    by_cases hlt:k < asks.length
    ·have hlt':(k:Int) < (asks.length:Int):=by omega
     obtain ⟨A',c',he,-,hrow⟩:=HA.out.later hB
     obtain ⟨rfl,rfl⟩:A3=A' ∧ c3=c':=by simpa using he
     obtain ⟨ba,oa,rfl,hca⟩:=hrow (by omega)
     obtain ⟨a,hae⟩:∃ a,elt asks k=a:=⟨_,rfl⟩
     obtain ⟨L,hLe⟩:∃ L,(lkN t asks k).2=L:=⟨_,rfl⟩
     have hok:LkOk t L:=by rw [← hLe];exact lkN_ok asks HSO.out k
     have hpl:L.past.length ≤ 1000000:=by have:=lkN_past t asks k;rw [hLe] at this;omega
     have hza:a.nm.size ≤ 9223372036854775807:=by rw [← hae];exact HZ.out k hlt
     rw [hLe] at HS
     have HAE:=qhq hae
     have HLE:=qhq hLe
     have HOK:=qhq hok
     have d0:wr.cell? ⟨ba,oa + k * 7,none⟩=some (.int .i64 a.op):=(hca k hlt 0 (by omega)).trans (by rw [← hae];rfl)
     have d1:wr.cell? ⟨ba,oa + k * 7 + 1,none⟩=some (.int .i64 a.n):=(hca k hlt 1 (by omega)).trans (by rw [← hae];rfl)
     have d2:wr.cell? ⟨ba,oa + k * 7 + 2,none⟩=some (.string a.nm):=(hca k hlt 2 (by omega)).trans (by rw [← hae];rfl)
     have d3:wr.cell? ⟨ba,oa + k * 7 + 3,none⟩=some (.int .i64 a.stop.kind):=(hca k hlt 3 (by omega)).trans (by rw [← hae];rfl)
     have d4:wr.cell? ⟨ba,oa + k * 7 + 4,none⟩=some (.int .i64 a.stop.fn):=(hca k hlt 4 (by omega)).trans (by rw [← hae];rfl)
     have d5:wr.cell? ⟨ba,oa + k * 7 + 5,none⟩=some (.int .i64 a.stop.line):=(hca k hlt 5 (by omega)).trans (by rw [← hae];rfl)
     have d6:wr.cell? ⟨ba,oa + k * 7 + 6,none⟩=some (.string a.stop.nm):=(hca k hlt 6 (by omega)).trans (by rw [← hae];rfl)
     have hlow:w.heap.size ≤ wr.heap.size:=hB.size
     clear hca he hrow hae hLe hok hB
     go_wp2_with fail
     clear d0 d1 d2 d3 d4 d5 d6
     have hba:=qaq (qrq _ wr) (.cells #[.int .i64 a.op,.int .i64 a.n,.string a.nm,.int .i64 a.stop.kind,.int .i64 a.stop.fn,.int .i64 a.stop.line,.string a.stop.nm] 47)
     refine (ask_calls w.heap.size l _ _ t L _ _ a _ (HS.out.later hba) w HT.out (qtq HB.out hba) (Nat.le_refl _) HSM.out HSO.out HOK.out HW0 hpl hza).mono ?_;rintro e w3 ⟨sx,vx,hv3,pv3,rfl,t2,t3,hS3,hm3⟩
     obtain ⟨r,hr⟩:∃ r,askRs t L a=r:=⟨_,rfl⟩
     rw [hr] at t2 t3 hS3 ⊢
     obtain ⟨p,hp⟩:∃ p,askQs r=p:=⟨_,rfl⟩
     rw [hp] at t2 t3 ⊢
     have HRE:=qhq hr
     have HQ9:=qhq hp
     obtain ⟨Asx,csx,rfl,-⟩:=t2.cap
     obtain ⟨Avx,cvx,rfl⟩:=t3.shape
     have hmw:Mv qTys w.heap.size wr w3:=(Mv.of_below hba hlow).trans hm3
     have hszb:wr.heap.size ≤ (wr.alloc (.cells #[.int .i64 a.op,.int .i64 a.n,.string a.nm,.int .i64 a.stop.kind,.int .i64 a.stop.fn,.int .i64 a.stop.line,.string a.stop.nm] 47)).heap.size:=by rw [World.size_alloc];omega
     have HM:=qhq hmw
     have HS3:=qhq hS3
     have HSX:=qhq (t2.lower hszb)
     have HVX:=qhq (t3.lower hszb)
     clear hr hp t2 t3 hS3 hm3 hmw hba hszb
     have HX:=qhq (tdF_box w3 p Asx Avx csx cvx)
     have hbx:=qaq (qrq _ w3) (.cells #[.int .i64 p.place,.int .i64 p.code,.int .i64 p.num,.string p.text,.slice Asx p.stack.length csx,.slice Avx p.vars.length cvx] 38)
     go_upto_region 9 with fail
     have hlw3:w.heap.size ≤ w3.heap.size:=Nat.le_trans hlow HM.out.bl.size
     have hww3:wr.heap.size ≤ w3.heap.size:=HM.out.bl.size
     replace HM:=qhq (HM.out.trans (Mv.of_below hbx hlw3))
     replace HS3:=qhq (HS3.out.later hbx);replace HSX:=qhq (HSX.out.later hbx);replace HVX:=qhq (HVX.out.later hbx);clear hbx
     obtain ⟨X,hXe⟩:∃ X,w3.heap.size=X:=⟨_,rfl⟩
     generalize World.alloc w3 _=W5 at HX HM HS3 HSX HVX ⊢
     rw [hXe] at HX hlw3 hww3 ⊢
     clear hXe
     have z2:W5.cell? ⟨l,2,none⟩=some (.int .i64 r.2.1.place):=HS3.out.blk.cell (j:=2) (by omega)
     have y0:W5.cell? ⟨X,0,none⟩=some (.int .i64 p.place):=HX.out.cell (j:=0) (by omega)
     have y1:W5.cell? ⟨X,1,none⟩=some (.int .i64 p.code):=HX.out.cell (j:=1) (by omega)
     have y2:W5.cell? ⟨X,2,none⟩=some (.int .i64 p.num):=HX.out.cell (j:=2) (by omega)
     have y3:W5.cell? ⟨X,3,none⟩=some (.string p.text):=HX.out.cell (j:=3) (by omega)
     have y4:W5.cell? ⟨X,4,none⟩=some (.slice Asx p.stack.length csx):=HX.out.cell (j:=4) (by omega)
     have y5:W5.cell? ⟨X,5,none⟩=some (.slice Avx p.vars.length cvx):=HX.out.cell (j:=5) (by omega)
     have yf:=HX.out.free 0
     go_wp2_with (at_builtin;refine stopped ?_)
     unfold Stopped
     have hmX:Mv [38] X W5 (W5.setCell ⟨X,0,none⟩ (.int .i64 r.2.1.place)):=(Mv.refl _ _ _).set (p:=⟨X,0,none⟩) (Nat.le_refl _) HX.out (by simp) _
     have HS6:=qhq (HS3.out.farT HX.out 0 (.int .i64 r.2.1.place))
     have HSX6:=qhq (HSX.out.mv hmX (by decide))
     have HVX6:=qhq (HVX.out.mv hmX (by decide))
     have HM6:=qhq (HM.out.setNew (p:=⟨X,0,none⟩) hlw3 hww3 (.int .i64 r.2.1.place))
     have hsz9:(W5.setCell ⟨X,0,none⟩ (.int .i64 r.2.1.place)).heap.size=W5.heap.size:=World.size_setCell _ _ _
     clear HX HS3 HSX HVX HM z2 y0 y1 y2 y3 y4 y5 yf hmX
     generalize World.setCell W5 _ _=W6 at HS6 HSX6 HVX6 HM6 hsz9 ⊢
     have HT6:=qhq (HTD.out.mv HM6.out (by decide) (by decide) (by decide))
     have hsz6:wr.heap.size ≤ W6.heap.size:=HM6.out.bl.size
     have hbA:=qaq (qrq _ W6) (.cells #[.int .i64 r.2.1.place,.int .i64 p.code,.int .i64 p.num,.string p.text,.slice Asx p.stack.length csx,.slice Avx p.vars.length cvx] 38)
     have hqs:(lkN t asks k).1.length ≤ 1048576:=by rw [lkN_len];omega
     refine wpList_plain rfl fun K hK=>wp_appendT _ _ _ (by rfl) w.heap.size wr.heap.size _ (lkN t asks k).1 { p with place:=r.2.1.place } sv vv9 (.slice Asx p.stack.length csx) (.slice Avx p.vars.length cvx) (by rfl) (HT6.out.later hbA) (HSX6.out.later hbA) (HVX6.out.later hbA) hlow (fun i hi c hc=>((HTD.out.fr i hi).lt c hc).2) (fun i hi c hc=>((HTD.out.vr i hi).bk_lt c hc).2) W5.heap.size 1
      (fun j u hj=>by rw [← hsz9];exact new_at W6 (tdV { p with place:=r.2.1.place } (.slice Asx p.stack.length csx) (.slice Avx p.vars.length cvx)) 38 j u hj) (by rfl) (by rw [World.size_alloc];omega) hqs ?_
     intro g9 cap9 w8 hT8 hg8 hs8
     have hmT:Mv [38] w.heap.size (W6.alloc (.cells #[.int .i64 r.2.1.place,.int .i64 p.code,.int .i64 p.num,.string p.text,.slice Asx p.stack.length csx,.slice Avx p.vars.length cvx] 38)) w8 :=
      (Mv.refl _ _ _).grown (by rw [World.size_alloc];omega) hg8 (fun b hb=>by
       have hrow:=(HT6.out.later hbA).row
       obtain ⟨N,F,hB⟩:=hrow.block hb
       exact ⟨(hrow.lt b hb).1,_,N,F,hB,by simp⟩)
     have HT8:=qhq hT8
     have HS8:=qhq ((HS6.out.later hbA).mv hmT (by decide) (by decide) (by decide) (by decide))
     have HB8:=qhq (bl_trans9 HB.out (bl_trans9 HM6.out.bl (bl_trans9 (bl_low9 hbA (by omega)) hmT.bl)))
     refine hK _ _ ?_
     clear hK K hT8 hg8 hs8 hmT hbA HS6 HSX6 HVX6 HM6 HT6
     go_wp2
     go_roundw
     case rel =>
      have e8:lkN t asks (k + 1)=((lkN t asks k).1 ++ [{ p with place:=r.2.1.place }],r.2.1):=by
       rw [lkN_succ,HLE.out,HAE.out,askP_Rs,HRE.out,HQ9.out]
      refine ⟨k + 1,by omega,by go_num,?_,?_,HB8.out⟩
      ·rw [e8]
       have h:=HT8.out
       simp only [List.length_append,List.length_cons,List.length_nil,Nat.zero_add] at h
       exact ⟨_,_,h⟩
      ·rw [e8];exact ⟨_,_,HS8.out⟩
     case measure=>simp [intOf];omega
    ·obtain rfl:k=asks.length:=by omega
     go_wp2_with fail
     go_ret
     rw [lookP_eq HSO.out (by omega)]
     exact ⟨_,_,_,rfl,HTD.out,HB.out⟩
end Go.Proofs.YtcklnjjbhngbcaaGreatDoor
