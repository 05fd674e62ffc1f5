/- Lemmas and contracts of functions that the theorem of this claim leans on (texts E13). -/
import Derived.Test.YtcklnjjbhngbcaaGreatDoorRowTopz00
import Derived.Test.YtcklnjjbhngbcaaGreatDoorRowTopz30
namespace Go.Proofs.YtcklnjjbhngbcaaGreatDoor
open Go.RowKit Go.Proofs.Lens
set_option linter.unusedSimpArgs false
def ErrLaid (w:World):Prop:=w.cell? ⟨0,0,none⟩=some (.iface 220 (.agg #[.pointer (some ⟨4,86,none⟩)]))
theorem ErrLaid.later {w w':World} (h:ErrLaid w) (hb:Below w.heap.size w w'):ErrLaid w':=qcq hb h
def askR (t:PTr) (L:Lk) (a:PAsk):PTold × Lk × Int:=if askOk a=true then doP t L a else (td0,L,1)
def askQ (r:PTold × Lk × Int):PTold:=if r.2.2=0 then r.1 else { td0 with code:=r.2.2 }
theorem askP_R (t:PTr) (L:Lk) (a:PAsk):askP t L a=({ askQ (askR t L a) with place:=(askR t L a).2.1.place },(askR t L a).2.1):=by
 unfold askP askR
 by_cases ha:askOk a=true
 ·rw [if_pos ha,if_pos ha]
  unfold askQ
  split
  ·rfl
  ·rfl
 ·rw [if_neg ha,if_neg ha]
  unfold askQ
  rw [if_neg (show ¬ (1:Int)=0 by decide)]
def MidSt (lo s x B:Nat) (v1 v2:Value) (D:Nat → Value) (r:PTold × Lk × Int) (W2:World) (s10:Value) (wx:World):Prop :=
 s10=errV r.2.2 ∧ (∃ vs vu,SeS wx lo s v1 v2 D r.2.1 vs vu) ∧ TdAt wx B x r.1 ∧ Mx eTys x lo W2 wx
def TdRet (w:World) (qs:List PTold) (e:Ending) (w':World):Prop:=∃ v sv vv,e=.returned v ∧ BTold w' w.heap.size v qs sv vv ∧ Below w.heap.size w w'
theorem BTold.mv {ts:List TypeId} {w w':World} {lo lo2:Nat} {v:Value} {qs:List PTold} {sv vv:Nat → Value} (h:BTold w lo v qs sv vv) (hm:Mv ts lo2 w w') (h1:38 ∉ ts) (h2:42 ∉ ts) (h3:40 ∉ ts):BTold w' lo v qs sv vv :=
 ⟨h.row.mv hm h1,fun i hi=>(h.fr i hi).mv hm h2,fun i hi=>(h.vr i hi).mv hm h3,h.dfr,h.dvr⟩
theorem SeS.mvT {ts:List TypeId} {w w':World} {lo lo2 s:Nat} {v1 v2 vs vu:Value} {D:Nat → Value} {L:Lk} (h:SeS w lo s v1 v2 D L vs vu) (hm:Mv ts lo2 w w') (h1:94 ∉ ts) (h2:45 ∉ ts) (h3:1 ∉ ts) (h4:3 ∉ ts) (h5:83 ∉ ts):SeS w' lo s v1 v2 D L vs vu:=by
 obtain ⟨a,b,fb,sm,c,d⟩:=h
 exact ⟨a.mv hm h1,b.mv hm h2,fb,sm,c.mv hm h3,fun i hi=>⟨(d i hi).1.mv hm h4,(d i hi).2.mv hm h5⟩⟩
theorem SeE.mvT {ts:List TypeId} {w w':World} {lo2 s sb tb:Nat} {v1 v2:Value} (h:SeE w s sb tb v1 v2) (hm:Mv ts lo2 w w') (h1:83 ∉ ts) (h2:26 ∉ ts):SeE w' s sb tb v1 v2:=⟨h.sbx.mv hm h1,h.tbx.mv hm h2⟩
theorem SeE.mx {w w':World} {lo x s sb tb:Nat} {v1 v2:Value} {F:Nat → Value} (h:SeE w s sb tb v1 v2) (hX:Blk w x 38 6 F) (hm:Mx eTys x lo w w'):SeE w' s sb tb v1 v2:=⟨blk_mx h.sbx hm (by decide) (h.sbx.ne hX (by decide)),blk_mx h.tbx hm (by decide) (h.tbx.ne hX (by decide))⟩
theorem lkN_succ (t:PTr) (asks:List PAsk) (k:Nat):lkN t asks (k + 1)=((lkN t asks k).1 ++ [(askP t (lkN t asks k).2 (elt asks k)).1],(askP t (lkN t asks k).2 (elt asks k)).2):=rfl
theorem td0_box (w:World):Td0 (w.alloc (.cells #[.int .i64 0,.int .i64 0,.int .i64 0,.string ⟨#[]⟩,.slice none 0 0,.slice none 0 0] 38)) w.heap.size :=
 (Blk.made w #[.int .i64 0,.int .i64 0,.int .i64 0,.string ⟨#[]⟩,.slice none 0 0,.slice none 0 0] 38).congr fun j hj=>by
  have hj:j < 6:=hj
  match j,hj with
  | 0,_=>rfl
  | 1,_=>rfl
  | 2,_=>rfl
  | 3,_=>rfl
  | 4,_=>rfl
  | 5,_=>rfl
theorem lookP_no {t:PTr} {asks:List PAsk} (h:soundP t=false ∨ 500 < asks.length):lookP t asks=[]:=by
 unfold lookP
 rcases h with h | h
 ·rw [h];rfl
 ·rw [decide_eq_false (by omega)];simp
set_option maxRecDepth 100000 in
set_option maxHeartbeats 8000000 in
theorem impl_Look_calls (v1 v2 va:Value) (t:PTr) (asks:List PAsk) (w:World) (h:RdTr w v1 v2 t) (hsm:smTr t) (ha:RdAsks w va asks) (hz:∀ i,i < asks.length → (elt asks i).nm.size ≤ 9223372036854775807) (hlaid:ErrLaid w) :
  Calls Tryz.prog 10 #[.agg #[v1,v2],va] w (TdRet w (lookP t asks)):=by
 have HT:=qhq h
 have HSM:=qhq hsm
 have HA:=qhq ha
 have HZ:=qhq hz
 have HER:=qhq hlaid
 obtain ⟨⟨A1,c1,rfl,hn1,-⟩,⟨vv,⟨A2,c2,rfl,hn2,-⟩,-⟩⟩:=h
 obtain ⟨A3,c3,rfl,hn3,-⟩:=ha
 clear hsm hz hlaid
 obtain ⟨b,hb⟩:∃ b,soundP t=b:=⟨_,rfl⟩
 have HSO:=qhq hb
 go_enter Tryz.func10,Tryz.ntmps10
 go_wp2_with fail
 refine (sound_is _ _ t _ (HT.out.later (by repeat (with_reducible first | exact qrq _ _ | exact HL.out | refine qnq ?_ _ | refine bl_drew ?_ | refine qaq ?_ _ | refine bl_set ?_ (by dsimp only;omega) _))) HSM.out hb).mono ?_;rintro e w1 ⟨rfl,hbl⟩
 have HB:=qhq (qtq (qaq (qrq _ w) _) hbl)
 have HX:=qhq ((BoxAt.new w [.slice A1 t.fns.length c1,.slice A2 t.moms.length c2] 26).later hbl)
 clear hbl hb
 cases b with
 | false =>
  go_wp2_with fail
  go_ret
  rw [lookP_no (.inl HSO.out)]
  exact ⟨_,_,_,rfl,BTold.nil,HB.out⟩
 | true =>
  by_cases hl:500 < asks.length
  ·have hl':(500:Int) < (asks.length:Int):=by omega
   go_wp2_with fail
   go_ret
   rw [lookP_no (.inr hl)]
   exact ⟨_,_,_,rfl,BTold.nil,HB.out⟩
  ·have hl':¬ (500:Int) < (asks.length:Int):=by omega
   obtain ⟨x0,x1⟩:=HX.out.open2
   go_wp2_with fail
   clear x0 x1
   refine (newSession_calls A1 A2 _ _ c1 c2 _).mono ?_;rintro e w2 ⟨s,sb,tb,sb2,tb2,rfl,hS,hE,hE2,hs,hbl⟩
   have HW0:=HB.out.size
   have hlos:w.heap.size ≤ s:=Nat.le_trans HW0 hs
   have HS:=qhq (show SeS w2 w.heap.size s _ _ _ lk0 _ _ from ⟨hS.blk,hS.st.lower HW0,by obtain ⟨fb,sm,h1,h2⟩:=hS.un;exact ⟨fb,sm,h1.lower HW0,h2⟩⟩)
   have HE:=qhq hE
   have HE2:=qhq hE2
   have HB2:=qhq (qtq HB.out hbl)
   clear hS hE hE2 hs hbl HX HB
   have hD:∀ j,1 ≤ j → j ≤ 13 → doV sb tb sb2 tb2 j=.func (.func (doF j)) #[] (doC sb tb sb2 tb2 j):=fun j=>doV_eq sb tb sb2 tb2 j
   have HD:=qhq hD
   generalize doV sb tb sb2 tb2=D at HS HD
   clear hD
   go_wp2_with fail
   go_loopw [6,24] (fun o i wr=>∃ k:Nat,k ≤ asks.length ∧ i=.int .i64 k ∧ (∃ sv vv,BTold wr w.heap.size o (lkN t asks k).1 sv vv) ∧ (∃ vs vu,SeS wr w.heap.size s (.slice A1 t.fns.length c1) (.slice A2 t.moms.length c2) D (lkN t asks k).2 vs vu) ∧
    SeE wr s sb tb (.slice A1 t.fns.length c1) (.slice A2 t.moms.length c2) ∧ SeE wr s sb2 tb2 (.slice A1 t.fns.length c1) (.slice A2 t.moms.length c2) ∧ Below w.heap.size w wr) (fun _ i _=>asks.length - (intOf i).toNat)
   case atStart=>exact ⟨0,Nat.zero_le _,rfl,⟨_,_,BTold.nil⟩,⟨_,_,HS.out⟩,HE.out,HE2.out,HB2.out⟩
   case round =>
    obtain ⟨k,hk,rfl,⟨sv,vv9,hT⟩,⟨vs,vu,hS⟩,hE,hE2,hB⟩:=hrel
    clear HS HE HE2 HB2
    have HTD:=qhq hT
    have HS:=qhq hS
    have HE:=qhq hE
    have HE2:=qhq hE2
    have HB:=qhq hB
    obtain ⟨A6,c6,rfl,-⟩:=hT.row.cap
    clear hT hS hE hE2
    by_cases hlt:k < asks.length
    ·have hlt':(k:Int) < (asks.length:Int):=by omega
     obtain ⟨A',c',he,-,hrow⟩:=HA.out.later hB
     obtain ⟨rfl,rfl⟩:A3=A' ∧ c3=c':=by simpa using he
     obtain ⟨ba,oa,rfl,hca⟩:=hrow (by omega)
     obtain ⟨a,hae⟩:∃ a,elt asks k=a:=⟨_,rfl⟩
     obtain ⟨L,hLe⟩:∃ L,(lkN t asks k).2=L:=⟨_,rfl⟩
     have hok:LkOk t L:=by rw [← hLe];exact lkN_ok asks HSO.out k
     have hpl:L.past.length ≤ 1000000:=by have:=lkN_past t asks k;rw [hLe] at this;omega
     have hza:a.nm.size ≤ 9223372036854775807:=by rw [← hae];exact HZ.out k hlt
     rw [hLe] at HS
     have HAE:=qhq hae
     have HLE:=qhq hLe
     have HOK:=qhq hok
     have d0:wr.cell? ⟨ba,oa + k * 7,none⟩=some (.int .i64 a.op):=(hca k hlt 0 (by omega)).trans (by rw [← hae];rfl)
     have d1:wr.cell? ⟨ba,oa + k * 7 + 1,none⟩=some (.int .i64 a.n):=(hca k hlt 1 (by omega)).trans (by rw [← hae];rfl)
     have d2:wr.cell? ⟨ba,oa + k * 7 + 2,none⟩=some (.string a.nm):=(hca k hlt 2 (by omega)).trans (by rw [← hae];rfl)
     have d3:wr.cell? ⟨ba,oa + k * 7 + 3,none⟩=some (.int .i64 a.stop.kind):=(hca k hlt 3 (by omega)).trans (by rw [← hae];rfl)
     have d4:wr.cell? ⟨ba,oa + k * 7 + 4,none⟩=some (.int .i64 a.stop.fn):=(hca k hlt 4 (by omega)).trans (by rw [← hae];rfl)
     have d5:wr.cell? ⟨ba,oa + k * 7 + 5,none⟩=some (.int .i64 a.stop.line):=(hca k hlt 5 (by omega)).trans (by rw [← hae];rfl)
     have d6:wr.cell? ⟨ba,oa + k * 7 + 6,none⟩=some (.string a.stop.nm):=(hca k hlt 6 (by omega)).trans (by rw [← hae];rfl)
     have hlow:w.heap.size ≤ wr.heap.size:=hB.size
     clear hca he hrow hae hLe hok hB
     go_upto_region 10 with fail
     have HAB:=qhq ((askBox wr a).alloc (.cells #[.int .i64 0,.int .i64 0,.int .i64 0,.string ⟨#[]⟩,.slice none 0 0,.slice none 0 0] 38))
     have hX0:=td0_box (wr.alloc (.cells #[.int .i64 a.op,.int .i64 a.n,.string a.nm,.int .i64 a.stop.kind,.int .i64 a.stop.fn,.int .i64 a.stop.line,.string a.stop.nm] 47))
     rw [World.size_alloc] at hX0
     have HX:=qhq hX0
     have hbl:=qaq (qaq (qrq _ wr) (.cells #[.int .i64 a.op,.int .i64 a.n,.string a.nm,.int .i64 a.stop.kind,.int .i64 a.stop.fn,.int .i64 a.stop.line,.string a.stop.nm] 47)) (.cells #[.int .i64 0,.int .i64 0,.int .i64 0,.string ⟨#[]⟩,.slice none 0 0,.slice none 0 0] 38)
     clear hX0 d0 d1 d2 d3 d4 d5 d6
     generalize World.alloc (World.alloc wr _) _=W2 at HAB HX hbl ⊢
     have HMV:=qhq (Mv.of_below (ts:=eTys) hbl hlow)
     have HBW:=qhq (qtq HB.out hbl)
     replace HS:=qhq (HS.out.later hbl);replace HE:=qhq (HE.out.later hbl);replace HE2:=qhq (HE2.out.later hbl);clear hbl
     obtain ⟨q,hq⟩:∃ q,wr.heap.size=q:=⟨_,rfl⟩
     rw [hq] at HAB HX ⊢
     have hlq:w.heap.size ≤ q:=by omega
     have HQE:=qhq hq
     have hq3:q < W2.heap.size:=HAB.out.lt
     clear hq
     have d0:W2.cell? ⟨q,0,none⟩=some (.int .i64 a.op):=HAB.out.cell (j:=0) (by omega)
     have d1:W2.cell? ⟨q,1,none⟩=some (.int .i64 a.n):=HAB.out.cell (j:=1) (by omega)
     have d2:W2.cell? ⟨q,2,none⟩=some (.string a.nm):=HAB.out.cell (j:=2) (by omega)
     have d3:W2.cell? ⟨q,3,none⟩=some (.int .i64 a.stop.kind):=HAB.out.cell (j:=3) (by omega)
     have d4:W2.cell? ⟨q,4,none⟩=some (.int .i64 a.stop.fn):=HAB.out.cell (j:=4) (by omega)
     have d5:W2.cell? ⟨q,5,none⟩=some (.int .i64 a.stop.line):=HAB.out.cell (j:=5) (by omega)
     have d6:W2.cell? ⟨q,6,none⟩=some (.string a.stop.nm):=HAB.out.cell (j:=6) (by omega)
     go_wp2_with fail
     clear d0 d1 d2 d3 d4 d5 d6
     refine (askOk_calls a _ hza).mono ?_;rintro e w3 ⟨rfl,hbl⟩
     replace HMV:=qhq (HMV.out.trans (Mv.of_below hbl (by have:=HMV.out.bl.size;omega)))
     replace HBW:=qhq (qtq HBW.out hbl)
     have hq3':q < w3.heap.size:=Nat.lt_of_lt_of_le hq3 hbl.size
     replace HS:=qhq (HS.out.later hbl);replace HE:=qhq (HE.out.later hbl);replace HE2:=qhq (HE2.out.later hbl);replace HAB:=qhq (HAB.out.later hbl);replace HX:=qhq (HX.out.later hbl);clear hbl
     have HR0:Hid (RdTr w (.slice A1 t.fns.length c1) (.slice A2 t.moms.length c2) t):=HT
     go_upto_if 31 with fail
     go_cut [10] (fun s10 wx=>MidSt w.heap.size s (q + 1) q (.slice A1 t.fns.length c1) (.slice A2 t.moms.length c2) D (askR t L a) w3 s10 wx)
     case first =>
      cases hk:askOk a with
      | false =>
       go_wp2_with fail
       go_meet
       have e:askR t L a=(td0,L,1):=by unfold askR;rw [if_neg (by rw [hk];simp)]
       rw [e]
       exact ⟨rfl,⟨_,_,HS.out⟩,⟨_,_,HX.out,OwR.nil,owr_z OwR.nil⟩,Mx.ofMv (Mv.refl _ _ _)⟩
      | true =>
       have HK:=qhq hk
       have hop:=askOk_op hk
       obtain ⟨j,hj⟩:∃ j:Nat,a.op=(j:Int):=⟨a.op.toNat,by omega⟩
       have hj1:1 ≤ j:=by omega
       have hj2:j ≤ 13:=by omega
       have HJ:=qhq hj
       have zd:w3.cell? ⟨s,5 + j,none⟩=some (.func (.func (doF j)) #[] (doC sb tb sb2 tb2 j)):=(HS.out.blk.cell (j:=5 + j) (by omega)).trans (by
        rw [← HD.out j hj1 hj2,Nat.add_comm 5 j]
        rfl)
       obtain ⟨F9,hF9⟩:∃ F9,doF j=F9:=⟨_,rfl⟩
       obtain ⟨C9,hC9⟩:∃ C9,doC sb tb sb2 tb2 j=C9:=⟨_,rfl⟩
       rw [hF9,hC9] at zd
       have HFC:=qhq (And.intro hF9 hC9)
       clear hF9 hC9 hk hop
       go_upto_region 11 with fail
       have hbd:Below w3.heap.size w3 w3.drew:=bl_drew (qrq _ _)
       have HMD:Hid (Mv eTys w.heap.size w3 w3.drew):=qhq ((Mv.refl _ _ _).drew)
       replace HBW:=qhq (qtq HBW.out hbd)
       replace zd:=qcq hbd zd
       replace HS:=qhq (HS.out.later hbd);replace HE:=qhq (HE.out.later hbd);replace HE2:=qhq (HE2.out.later hbd);replace HAB:=qhq (HAB.out.later hbd);replace HX:=qhq (HX.out.later hbd);clear hbd
       refine wp_region_F 9 (fun w':World=>w'.cell? ⟨s,5 + j,none⟩=some (.func (.func F9) #[] C9) ∧ w'.cell? ⟨q,0,none⟩=some (.int .i64 (j:Int)) ∧ w'.cell? ⟨q,1,none⟩=some (.int .i64 a.n) ∧ w'.cell? ⟨q,2,none⟩=some (.string a.nm) ∧ w'.cell? ⟨q,3,none⟩=some (.int .i64 a.stop.kind) ∧ w'.cell? ⟨q,4,none⟩=some (.int .i64 a.stop.fn) ∧ w'.cell? ⟨q,5,none⟩=some (.int .i64 a.stop.line) ∧ w'.cell? ⟨q,6,none⟩=some (.string a.stop.nm)) (by kernel_rfl) ?_
       generalize w3.drew=W4 at HMD HBW zd HS HE HE2 HAB HX ⊢
       have HS0:Hid (W4.cell? ⟨s,5 + j,none⟩=some (.func (.func F9) #[] C9) ∧ W4.cell? ⟨q,0,none⟩=some (.int .i64 (j:Int)) ∧ W4.cell? ⟨q,1,none⟩=some (.int .i64 a.n) ∧ W4.cell? ⟨q,2,none⟩=some (.string a.nm) ∧ W4.cell? ⟨q,3,none⟩=some (.int .i64 a.stop.kind) ∧ W4.cell? ⟨q,4,none⟩=some (.int .i64 a.stop.fn) ∧ W4.cell? ⟨q,5,none⟩=some (.int .i64 a.stop.line) ∧ W4.cell? ⟨q,6,none⟩=some (.string a.stop.nm)):=qhq ⟨zd,(HAB.out.cell (j:=0) (by omega)).trans (by rw [← HJ.out];rfl),HAB.out.cell (j:=1) (by omega),HAB.out.cell (j:=2) (by omega),HAB.out.cell (j:=3) (by omega),HAB.out.cell (j:=4) (by omega),HAB.out.cell (j:=5) (by omega),HAB.out.cell (j:=6) (by omega)⟩
       have hji:(j:Int) < 14:=by omega
       refine wpAnyF_takeC 0 [] (v:=?v0k) (by rfl) (by kernel_rfl) (by intro _ _ _ h;exact h) HS0.out (by rfl) ?hy0k ?rest0k
       case hy0k =>
        intro w' hSw
        obtain ⟨s0,s1,s2,s3,s4,s5,s6,s7⟩:=hSw
        go_simp
        try with_reducible rfl
       simp only [Act.put,q1q,q2q,q3q]
       refine wpAnyF_takeC 1 [] (v:=?v1k) (by rfl) (by kernel_rfl) (by intro _ _ _ h;exact h) HS0.out (by rfl) ?hy1k ?rest1k
       case hy1k =>
        intro w' hSw
        obtain ⟨s0,s1,s2,s3,s4,s5,s6,s7⟩:=hSw
        go_simp
        try with_reducible rfl
       simp only [Act.put,q1q,q2q,q3q]
       refine wpAnyF_takeC 2 [] (v:=?v2k) (by rfl) (by kernel_rfl) (by intro _ _ _ h;exact h) HS0.out (by rfl) ?hy2k ?rest2k
       case hy2k =>
        intro w' hSw
        obtain ⟨s0,s1,s2,s3,s4,s5,s6,s7⟩:=hSw
        go_simp
        try with_reducible rfl
       simp only [Act.put,q1q,q2q,q3q]
       refine wpAnyF_takeC 3 [] (v:=?v3k) (by rfl) (by kernel_rfl) (by intro _ _ _ h;exact h) HS0.out (by rfl) ?hy3k ?rest3k
       case hy3k =>
        intro w' hSw
        obtain ⟨s0,s1,s2,s3,s4,s5,s6,s7⟩:=hSw
        go_simp
        try with_reducible rfl
       simp only [Act.put,q1q,q2q,q3q]
       refine wpAnyF_takeC 4 [] (v:=?v4k) (by rfl) (by kernel_rfl) (by intro _ _ _ h;exact h) HS0.out (by rfl) ?hy4k ?rest4k
       case hy4k =>
        intro w' hSw
        obtain ⟨s0,s1,s2,s3,s4,s5,s6,s7⟩:=hSw
        go_simp
        try with_reducible rfl
       simp only [Act.put,q1q,q2q,q3q]
       refine wpAnyF_takeC 5 [] (v:=?v5k) (by rfl) (by kernel_rfl) (by intro _ _ _ h;exact h) HS0.out (by rfl) ?hy5k ?rest5k
       case hy5k =>
        intro w' hSw
        obtain ⟨s0,s1,s2,s3,s4,s5,s6,s7⟩:=hSw
        go_simp
        rfl
       simp only [Act.put,q1q,q2q,q3q]
       refine wpAnyF_takeC 6 [] (v:=?v6k) (by rfl) (by kernel_rfl) (by intro _ _ _ h;exact h) HS0.out (by rfl) ?hy6k ?rest6k
       case hy6k =>
        intro w' hSw
        obtain ⟨s0,s1,s2,s3,s4,s5,s6,s7⟩:=hSw
        go_simp
        try with_reducible rfl
       simp only [Act.put,q1q,q2q,q3q]
       refine wpAnyF_takeC 7 [] (v:=?v7k) (by rfl) (by kernel_rfl) (by intro _ _ _ h;exact h) HS0.out (by rfl) ?hy7k ?rest7k
       case hy7k =>
        intro w' hSw
        obtain ⟨s0,s1,s2,s3,s4,s5,s6,s7⟩:=hSw
        go_simp
        try with_reducible rfl
       simp only [Act.put,q1q,q2q,q3q]
       refine wpAnyF_one 8 (by rfl) (by kernel_rfl) rfl ?_
       intro K hK
       go_simp
       have hdo:=do_calls w.heap.size s sb tb sb2 tb2 (q + 1) _ _ t D L _ _ a W4 HS.out HE.out HE2.out HX.out w HT.out HBW.out (Nat.le_refl _) HSM.out HSO.out HOK.out hlos (by omega) hpl HK.out j HJ.out
       rw [HJ.out] at hdo
       have HDO:=qhq hdo
       clear hdo
       have hjc:j=1 ∨ j=2 ∨ j=3 ∨ j=4 ∨ j=5 ∨ j=6 ∨ j=7 ∨ j=8 ∨ j=9 ∨ j=10 ∨ j=11 ∨ j=12 ∨ j=13:=by omega
       obtain ⟨rfl,rfl⟩:=HFC.out
       rcases hjc with rfl | rfl | rfl | rfl | rfl | rfl | rfl | rfl | rfl | rfl | rfl | rfl | rfl
       ·dsimp only [doF,doC,ptrB]
        go_simp
        have hdo:=HDO.out
        simp only [doF,doC,ptrB,List.append_toArray,List.cons_append,List.nil_append,Int.cast_ofNat_Int,Int.ofNat_one] at hdo
        refine Calls.mono hdo ?_;rintro e w5 ⟨rfl,⟨vs',vu',hS'⟩,hTd,hMx⟩
        clear hdo HDO
        have HAB5:=qhq (blk_mx HAB.out hMx (by decide) (by omega))
        have k0:w5.cell? ⟨s,5 + 1,none⟩=some (.func (.func (doF 1)) #[] (doC sb tb sb2 tb2 1)):=(hS'.blk.cell (j:=5 + 1) (by omega)).trans (by show some (D 1)=_;rw [HD.out 1 (by omega) (by omega)])
        have k1:w5.cell? ⟨q,0,none⟩=some (.int .i64 ((1:Nat):Int)):=(HAB5.out.cell (j:=0) (by omega)).trans (by rw [← HJ.out];rfl)
        have hC5:=And.intro k0 (And.intro k1 (And.intro (HAB5.out.cell (j:=1) (by omega)) (And.intro (HAB5.out.cell (j:=2) (by omega)) (And.intro (HAB5.out.cell (j:=3) (by omega)) (And.intro (HAB5.out.cell (j:=4) (by omega)) (And.intro (HAB5.out.cell (j:=5) (by omega)) (HAB5.out.cell (j:=6) (by omega))))))))
        clear k0 k1
        dsimp only
        refine hK.out _ _ (fun _=>hC5) ?_
        clear hK K hC5 HS0
        refine wpAnyF_one 9 (by rfl) (by kernel_rfl) rfl ?_
        intro K hK
        go_simp
        refine hK.out _ _ (fun h=>absurd rfl h) ?_
        clear hK K
        refine wpAnyF_done (by kernel_rfl) ?_ _
        go_wp2_with fail
        go_meet
        have e:askR t L a=doP t L a:=by unfold askR;rw [if_pos HK.out]
        rw [e]
        obtain ⟨sv5,vv5,t1,t2,t3⟩:=hTd
        exact ⟨rfl,⟨_,_,hS'⟩,⟨sv5,vv5,t1,t2.lower (by have:=HMD.out.bl.size;omega),t3.lower (by have:=HMD.out.bl.size;omega)⟩,(Mx.ofMv HMD.out).trans hMx⟩
       ·dsimp only [doF,doC,ptrB]
        go_simp
        have hdo:=HDO.out
        simp only [doF,doC,ptrB,List.append_toArray,List.cons_append,List.nil_append,Int.cast_ofNat_Int,Int.ofNat_one] at hdo
        refine Calls.mono hdo ?_;rintro e w5 ⟨rfl,⟨vs',vu',hS'⟩,hTd,hMx⟩
        clear hdo HDO
        have HAB5:=qhq (blk_mx HAB.out hMx (by decide) (by omega))
        have k0:w5.cell? ⟨s,5 + 2,none⟩=some (.func (.func (doF 2)) #[] (doC sb tb sb2 tb2 2)):=(hS'.blk.cell (j:=5 + 2) (by omega)).trans (by show some (D 2)=_;rw [HD.out 2 (by omega) (by omega)])
        have k1:w5.cell? ⟨q,0,none⟩=some (.int .i64 ((2:Nat):Int)):=(HAB5.out.cell (j:=0) (by omega)).trans (by rw [← HJ.out];rfl)
        have hC5:=And.intro k0 (And.intro k1 (And.intro (HAB5.out.cell (j:=1) (by omega)) (And.intro (HAB5.out.cell (j:=2) (by omega)) (And.intro (HAB5.out.cell (j:=3) (by omega)) (And.intro (HAB5.out.cell (j:=4) (by omega)) (And.intro (HAB5.out.cell (j:=5) (by omega)) (HAB5.out.cell (j:=6) (by omega))))))))
        clear k0 k1
        dsimp only
        refine hK.out _ _ (fun _=>hC5) ?_
        clear hK K hC5 HS0
        refine wpAnyF_one 9 (by rfl) (by kernel_rfl) rfl ?_
        intro K hK
        go_simp
        refine hK.out _ _ (fun h=>absurd rfl h) ?_
        clear hK K
        refine wpAnyF_done (by kernel_rfl) ?_ _
        go_wp2_with fail
        go_meet
        have e:askR t L a=doP t L a:=by unfold askR;rw [if_pos HK.out]
        rw [e]
        obtain ⟨sv5,vv5,t1,t2,t3⟩:=hTd
        exact ⟨rfl,⟨_,_,hS'⟩,⟨sv5,vv5,t1,t2.lower (by have:=HMD.out.bl.size;omega),t3.lower (by have:=HMD.out.bl.size;omega)⟩,(Mx.ofMv HMD.out).trans hMx⟩
       ·dsimp only [doF,doC,ptrB]
        go_simp
        have hdo:=HDO.out
        simp only [doF,doC,ptrB,List.append_toArray,List.cons_append,List.nil_append,Int.cast_ofNat_Int,Int.ofNat_one] at hdo
        refine Calls.mono hdo ?_;rintro e w5 ⟨rfl,⟨vs',vu',hS'⟩,hTd,hMx⟩
        clear hdo HDO
        have HAB5:=qhq (blk_mx HAB.out hMx (by decide) (by omega))
        have k0:w5.cell? ⟨s,5 + 3,none⟩=some (.func (.func (doF 3)) #[] (doC sb tb sb2 tb2 3)):=(hS'.blk.cell (j:=5 + 3) (by omega)).trans (by show some (D 3)=_;rw [HD.out 3 (by omega) (by omega)])
        have k1:w5.cell? ⟨q,0,none⟩=some (.int .i64 ((3:Nat):Int)):=(HAB5.out.cell (j:=0) (by omega)).trans (by rw [← HJ.out];rfl)
        have hC5:=And.intro k0 (And.intro k1 (And.intro (HAB5.out.cell (j:=1) (by omega)) (And.intro (HAB5.out.cell (j:=2) (by omega)) (And.intro (HAB5.out.cell (j:=3) (by omega)) (And.intro (HAB5.out.cell (j:=4) (by omega)) (And.intro (HAB5.out.cell (j:=5) (by omega)) (HAB5.out.cell (j:=6) (by omega))))))))
        clear k0 k1
        dsimp only
        refine hK.out _ _ (fun _=>hC5) ?_
        clear hK K hC5 HS0
        refine wpAnyF_one 9 (by rfl) (by kernel_rfl) rfl ?_
        intro K hK
        go_simp
        refine hK.out _ _ (fun h=>absurd rfl h) ?_
        clear hK K
        refine wpAnyF_done (by kernel_rfl) ?_ _
        go_wp2_with fail
        go_meet
        have e:askR t L a=doP t L a:=by unfold askR;rw [if_pos HK.out]
        rw [e]
        obtain ⟨sv5,vv5,t1,t2,t3⟩:=hTd
        exact ⟨rfl,⟨_,_,hS'⟩,⟨sv5,vv5,t1,t2.lower (by have:=HMD.out.bl.size;omega),t3.lower (by have:=HMD.out.bl.size;omega)⟩,(Mx.ofMv HMD.out).trans hMx⟩
       ·dsimp only [doF,doC,ptrB]
        go_simp
        have hdo:=HDO.out
        simp only [doF,doC,ptrB,List.append_toArray,List.cons_append,List.nil_append,Int.cast_ofNat_Int,Int.ofNat_one] at hdo
        refine Calls.mono hdo ?_;rintro e w5 ⟨rfl,⟨vs',vu',hS'⟩,hTd,hMx⟩
        clear hdo HDO
        have HAB5:=qhq (blk_mx HAB.out hMx (by decide) (by omega))
        have k0:w5.cell? ⟨s,5 + 4,none⟩=some (.func (.func (doF 4)) #[] (doC sb tb sb2 tb2 4)):=(hS'.blk.cell (j:=5 + 4) (by omega)).trans (by show some (D 4)=_;rw [HD.out 4 (by omega) (by omega)])
        have k1:w5.cell? ⟨q,0,none⟩=some (.int .i64 ((4:Nat):Int)):=(HAB5.out.cell (j:=0) (by omega)).trans (by rw [← HJ.out];rfl)
        have hC5:=And.intro k0 (And.intro k1 (And.intro (HAB5.out.cell (j:=1) (by omega)) (And.intro (HAB5.out.cell (j:=2) (by omega)) (And.intro (HAB5.out.cell (j:=3) (by omega)) (And.intro (HAB5.out.cell (j:=4) (by omega)) (And.intro (HAB5.out.cell (j:=5) (by omega)) (HAB5.out.cell (j:=6) (by omega))))))))
        clear k0 k1
        dsimp only
        refine hK.out _ _ (fun _=>hC5) ?_
        clear hK K hC5 HS0
        refine wpAnyF_one 9 (by rfl) (by kernel_rfl) rfl ?_
        intro K hK
        go_simp
        refine hK.out _ _ (fun h=>absurd rfl h) ?_
        clear hK K
        refine wpAnyF_done (by kernel_rfl) ?_ _
        go_wp2_with fail
        go_meet
        have e:askR t L a=doP t L a:=by unfold askR;rw [if_pos HK.out]
        rw [e]
        obtain ⟨sv5,vv5,t1,t2,t3⟩:=hTd
        exact ⟨rfl,⟨_,_,hS'⟩,⟨sv5,vv5,t1,t2.lower (by have:=HMD.out.bl.size;omega),t3.lower (by have:=HMD.out.bl.size;omega)⟩,(Mx.ofMv HMD.out).trans hMx⟩
       ·dsimp only [doF,doC,ptrB]
        go_simp
        have hdo:=HDO.out
        simp only [doF,doC,ptrB,List.append_toArray,List.cons_append,List.nil_append,Int.cast_ofNat_Int,Int.ofNat_one] at hdo
        refine Calls.mono hdo ?_;rintro e w5 ⟨rfl,⟨vs',vu',hS'⟩,hTd,hMx⟩
        clear hdo HDO
        have HAB5:=qhq (blk_mx HAB.out hMx (by decide) (by omega))
        have k0:w5.cell? ⟨s,5 + 5,none⟩=some (.func (.func (doF 5)) #[] (doC sb tb sb2 tb2 5)):=(hS'.blk.cell (j:=5 + 5) (by omega)).trans (by show some (D 5)=_;rw [HD.out 5 (by omega) (by omega)])
        have k1:w5.cell? ⟨q,0,none⟩=some (.int .i64 ((5:Nat):Int)):=(HAB5.out.cell (j:=0) (by omega)).trans (by rw [← HJ.out];rfl)
        have hC5:=And.intro k0 (And.intro k1 (And.intro (HAB5.out.cell (j:=1) (by omega)) (And.intro (HAB5.out.cell (j:=2) (by omega)) (And.intro (HAB5.out.cell (j:=3) (by omega)) (And.intro (HAB5.out.cell (j:=4) (by omega)) (And.intro (HAB5.out.cell (j:=5) (by omega)) (HAB5.out.cell (j:=6) (by omega))))))))
        clear k0 k1
        dsimp only
        refine hK.out _ _ (fun _=>hC5) ?_
        clear hK K hC5 HS0
        refine wpAnyF_one 9 (by rfl) (by kernel_rfl) rfl ?_
        intro K hK
        go_simp
        refine hK.out _ _ (fun h=>absurd rfl h) ?_
        clear hK K
        refine wpAnyF_done (by kernel_rfl) ?_ _
        go_wp2_with fail
        go_meet
        have e:askR t L a=doP t L a:=by unfold askR;rw [if_pos HK.out]
        rw [e]
        obtain ⟨sv5,vv5,t1,t2,t3⟩:=hTd
        exact ⟨rfl,⟨_,_,hS'⟩,⟨sv5,vv5,t1,t2.lower (by have:=HMD.out.bl.size;omega),t3.lower (by have:=HMD.out.bl.size;omega)⟩,(Mx.ofMv HMD.out).trans hMx⟩
       ·dsimp only [doF,doC,ptrB]
        go_simp
        have hdo:=HDO.out
        simp only [doF,doC,ptrB,List.append_toArray,List.cons_append,List.nil_append,Int.cast_ofNat_Int,Int.ofNat_one] at hdo
        refine Calls.mono hdo ?_;rintro e w5 ⟨rfl,⟨vs',vu',hS'⟩,hTd,hMx⟩
        clear hdo HDO
        have HAB5:=qhq (blk_mx HAB.out hMx (by decide) (by omega))
        have k0:w5.cell? ⟨s,5 + 6,none⟩=some (.func (.func (doF 6)) #[] (doC sb tb sb2 tb2 6)):=(hS'.blk.cell (j:=5 + 6) (by omega)).trans (by show some (D 6)=_;rw [HD.out 6 (by omega) (by omega)])
        have k1:w5.cell? ⟨q,0,none⟩=some (.int .i64 ((6:Nat):Int)):=(HAB5.out.cell (j:=0) (by omega)).trans (by rw [← HJ.out];rfl)
        have hC5:=And.intro k0 (And.intro k1 (And.intro (HAB5.out.cell (j:=1) (by omega)) (And.intro (HAB5.out.cell (j:=2) (by omega)) (And.intro (HAB5.out.cell (j:=3) (by omega)) (And.intro (HAB5.out.cell (j:=4) (by omega)) (And.intro (HAB5.out.cell (j:=5) (by omega)) (HAB5.out.cell (j:=6) (by omega))))))))
        clear k0 k1
        dsimp only
        refine hK.out _ _ (fun _=>hC5) ?_
        clear hK K hC5 HS0
        refine wpAnyF_one 9 (by rfl) (by kernel_rfl) rfl ?_
        intro K hK
        go_simp
        refine hK.out _ _ (fun h=>absurd rfl h) ?_
        clear hK K
        refine wpAnyF_done (by kernel_rfl) ?_ _
        go_wp2_with fail
        go_meet
        have e:askR t L a=doP t L a:=by unfold askR;rw [if_pos HK.out]
        rw [e]
        obtain ⟨sv5,vv5,t1,t2,t3⟩:=hTd
        exact ⟨rfl,⟨_,_,hS'⟩,⟨sv5,vv5,t1,t2.lower (by have:=HMD.out.bl.size;omega),t3.lower (by have:=HMD.out.bl.size;omega)⟩,(Mx.ofMv HMD.out).trans hMx⟩
       ·dsimp only [doF,doC,ptrB]
        go_simp
        have hdo:=HDO.out
        simp only [doF,doC,ptrB,List.append_toArray,List.cons_append,List.nil_append,Int.cast_ofNat_Int,Int.ofNat_one] at hdo
        refine Calls.mono hdo ?_;rintro e w5 ⟨rfl,⟨vs',vu',hS'⟩,hTd,hMx⟩
        clear hdo HDO
        have HAB5:=qhq (blk_mx HAB.out hMx (by decide) (by omega))
        have k0:w5.cell? ⟨s,5 + 7,none⟩=some (.func (.func (doF 7)) #[] (doC sb tb sb2 tb2 7)):=(hS'.blk.cell (j:=5 + 7) (by omega)).trans (by show some (D 7)=_;rw [HD.out 7 (by omega) (by omega)])
        have k1:w5.cell? ⟨q,0,none⟩=some (.int .i64 ((7:Nat):Int)):=(HAB5.out.cell (j:=0) (by omega)).trans (by rw [← HJ.out];rfl)
        have hC5:=And.intro k0 (And.intro k1 (And.intro (HAB5.out.cell (j:=1) (by omega)) (And.intro (HAB5.out.cell (j:=2) (by omega)) (And.intro (HAB5.out.cell (j:=3) (by omega)) (And.intro (HAB5.out.cell (j:=4) (by omega)) (And.intro (HAB5.out.cell (j:=5) (by omega)) (HAB5.out.cell (j:=6) (by omega))))))))
        clear k0 k1
        dsimp only
        refine hK.out _ _ (fun _=>hC5) ?_
        clear hK K hC5 HS0
        refine wpAnyF_one 9 (by rfl) (by kernel_rfl) rfl ?_
        intro K hK
        go_simp
        refine hK.out _ _ (fun h=>absurd rfl h) ?_
        clear hK K
        refine wpAnyF_done (by kernel_rfl) ?_ _
        go_wp2_with fail
        go_meet
        have e:askR t L a=doP t L a:=by unfold askR;rw [if_pos HK.out]
        rw [e]
        obtain ⟨sv5,vv5,t1,t2,t3⟩:=hTd
        exact ⟨rfl,⟨_,_,hS'⟩,⟨sv5,vv5,t1,t2.lower (by have:=HMD.out.bl.size;omega),t3.lower (by have:=HMD.out.bl.size;omega)⟩,(Mx.ofMv HMD.out).trans hMx⟩
       ·dsimp only [doF,doC,ptrB]
        go_simp
        have hdo:=HDO.out
        simp only [doF,doC,ptrB,List.append_toArray,List.cons_append,List.nil_append,Int.cast_ofNat_Int,Int.ofNat_one] at hdo
        refine Calls.mono hdo ?_;rintro e w5 ⟨rfl,⟨vs',vu',hS'⟩,hTd,hMx⟩
        clear hdo HDO
        have HAB5:=qhq (blk_mx HAB.out hMx (by decide) (by omega))
        have k0:w5.cell? ⟨s,5 + 8,none⟩=some (.func (.func (doF 8)) #[] (doC sb tb sb2 tb2 8)):=(hS'.blk.cell (j:=5 + 8) (by omega)).trans (by show some (D 8)=_;rw [HD.out 8 (by omega) (by omega)])
        have k1:w5.cell? ⟨q,0,none⟩=some (.int .i64 ((8:Nat):Int)):=(HAB5.out.cell (j:=0) (by omega)).trans (by rw [← HJ.out];rfl)
        have hC5:=And.intro k0 (And.intro k1 (And.intro (HAB5.out.cell (j:=1) (by omega)) (And.intro (HAB5.out.cell (j:=2) (by omega)) (And.intro (HAB5.out.cell (j:=3) (by omega)) (And.intro (HAB5.out.cell (j:=4) (by omega)) (And.intro (HAB5.out.cell (j:=5) (by omega)) (HAB5.out.cell (j:=6) (by omega))))))))
        clear k0 k1
        dsimp only
        refine hK.out _ _ (fun _=>hC5) ?_
        clear hK K hC5 HS0
        refine wpAnyF_one 9 (by rfl) (by kernel_rfl) rfl ?_
        intro K hK
        go_simp
        refine hK.out _ _ (fun h=>absurd rfl h) ?_
        clear hK K
        refine wpAnyF_done (by kernel_rfl) ?_ _
        go_wp2_with fail
        go_meet
        have e:askR t L a=doP t L a:=by unfold askR;rw [if_pos HK.out]
        rw [e]
        obtain ⟨sv5,vv5,t1,t2,t3⟩:=hTd
        exact ⟨rfl,⟨_,_,hS'⟩,⟨sv5,vv5,t1,t2.lower (by have:=HMD.out.bl.size;omega),t3.lower (by have:=HMD.out.bl.size;omega)⟩,(Mx.ofMv HMD.out).trans hMx⟩
       ·dsimp only [doF,doC,ptrB]
        go_simp
        have hdo:=HDO.out
        simp only [doF,doC,ptrB,List.append_toArray,List.cons_append,List.nil_append,Int.cast_ofNat_Int,Int.ofNat_one] at hdo
        refine Calls.mono hdo ?_;rintro e w5 ⟨rfl,⟨vs',vu',hS'⟩,hTd,hMx⟩
        clear hdo HDO
        have HAB5:=qhq (blk_mx HAB.out hMx (by decide) (by omega))
        have k0:w5.cell? ⟨s,5 + 9,none⟩=some (.func (.func (doF 9)) #[] (doC sb tb sb2 tb2 9)):=(hS'.blk.cell (j:=5 + 9) (by omega)).trans (by show some (D 9)=_;rw [HD.out 9 (by omega) (by omega)])
        have k1:w5.cell? ⟨q,0,none⟩=some (.int .i64 ((9:Nat):Int)):=(HAB5.out.cell (j:=0) (by omega)).trans (by rw [← HJ.out];rfl)
        have hC5:=And.intro k0 (And.intro k1 (And.intro (HAB5.out.cell (j:=1) (by omega)) (And.intro (HAB5.out.cell (j:=2) (by omega)) (And.intro (HAB5.out.cell (j:=3) (by omega)) (And.intro (HAB5.out.cell (j:=4) (by omega)) (And.intro (HAB5.out.cell (j:=5) (by omega)) (HAB5.out.cell (j:=6) (by omega))))))))
        clear k0 k1
        dsimp only
        refine hK.out _ _ (fun _=>hC5) ?_
        clear hK K hC5 HS0
        refine wpAnyF_one 9 (by rfl) (by kernel_rfl) rfl ?_
        intro K hK
        go_simp
        refine hK.out _ _ (fun h=>absurd rfl h) ?_
        clear hK K
        refine wpAnyF_done (by kernel_rfl) ?_ _
        go_wp2_with fail
        go_meet
        have e:askR t L a=doP t L a:=by unfold askR;rw [if_pos HK.out]
        rw [e]
        obtain ⟨sv5,vv5,t1,t2,t3⟩:=hTd
        exact ⟨rfl,⟨_,_,hS'⟩,⟨sv5,vv5,t1,t2.lower (by have:=HMD.out.bl.size;omega),t3.lower (by have:=HMD.out.bl.size;omega)⟩,(Mx.ofMv HMD.out).trans hMx⟩
       ·dsimp only [doF,doC,ptrB]
        go_simp
        have hdo:=HDO.out
        simp only [doF,doC,ptrB,List.append_toArray,List.cons_append,List.nil_append,Int.cast_ofNat_Int,Int.ofNat_one] at hdo
        refine Calls.mono hdo ?_;rintro e w5 ⟨rfl,⟨vs',vu',hS'⟩,hTd,hMx⟩
        clear hdo HDO
        have HAB5:=qhq (blk_mx HAB.out hMx (by decide) (by omega))
        have k0:w5.cell? ⟨s,5 + 10,none⟩=some (.func (.func (doF 10)) #[] (doC sb tb sb2 tb2 10)):=(hS'.blk.cell (j:=5 + 10) (by omega)).trans (by show some (D 10)=_;rw [HD.out 10 (by omega) (by omega)])
        have k1:w5.cell? ⟨q,0,none⟩=some (.int .i64 ((10:Nat):Int)):=(HAB5.out.cell (j:=0) (by omega)).trans (by rw [← HJ.out];rfl)
        have hC5:=And.intro k0 (And.intro k1 (And.intro (HAB5.out.cell (j:=1) (by omega)) (And.intro (HAB5.out.cell (j:=2) (by omega)) (And.intro (HAB5.out.cell (j:=3) (by omega)) (And.intro (HAB5.out.cell (j:=4) (by omega)) (And.intro (HAB5.out.cell (j:=5) (by omega)) (HAB5.out.cell (j:=6) (by omega))))))))
        clear k0 k1
        dsimp only
        refine hK.out _ _ (fun _=>hC5) ?_
        clear hK K hC5 HS0
        refine wpAnyF_one 9 (by rfl) (by kernel_rfl) rfl ?_
        intro K hK
        go_simp
        refine hK.out _ _ (fun h=>absurd rfl h) ?_
        clear hK K
        refine wpAnyF_done (by kernel_rfl) ?_ _
        go_wp2_with fail
        go_meet
        have e:askR t L a=doP t L a:=by unfold askR;rw [if_pos HK.out]
        rw [e]
        obtain ⟨sv5,vv5,t1,t2,t3⟩:=hTd
        exact ⟨rfl,⟨_,_,hS'⟩,⟨sv5,vv5,t1,t2.lower (by have:=HMD.out.bl.size;omega),t3.lower (by have:=HMD.out.bl.size;omega)⟩,(Mx.ofMv HMD.out).trans hMx⟩
       ·dsimp only [doF,doC,ptrB]
        go_simp
        have hdo:=HDO.out
        simp only [doF,doC,ptrB,List.append_toArray,List.cons_append,List.nil_append,Int.cast_ofNat_Int,Int.ofNat_one] at hdo
        refine Calls.mono hdo ?_;rintro e w5 ⟨rfl,⟨vs',vu',hS'⟩,hTd,hMx⟩
        clear hdo HDO
        have HAB5:=qhq (blk_mx HAB.out hMx (by decide) (by omega))
        have k0:w5.cell? ⟨s,5 + 11,none⟩=some (.func (.func (doF 11)) #[] (doC sb tb sb2 tb2 11)):=(hS'.blk.cell (j:=5 + 11) (by omega)).trans (by show some (D 11)=_;rw [HD.out 11 (by omega) (by omega)])
        have k1:w5.cell? ⟨q,0,none⟩=some (.int .i64 ((11:Nat):Int)):=(HAB5.out.cell (j:=0) (by omega)).trans (by rw [← HJ.out];rfl)
        have hC5:=And.intro k0 (And.intro k1 (And.intro (HAB5.out.cell (j:=1) (by omega)) (And.intro (HAB5.out.cell (j:=2) (by omega)) (And.intro (HAB5.out.cell (j:=3) (by omega)) (And.intro (HAB5.out.cell (j:=4) (by omega)) (And.intro (HAB5.out.cell (j:=5) (by omega)) (HAB5.out.cell (j:=6) (by omega))))))))
        clear k0 k1
        dsimp only
        refine hK.out _ _ (fun _=>hC5) ?_
        clear hK K hC5 HS0
        refine wpAnyF_one 9 (by rfl) (by kernel_rfl) rfl ?_
        intro K hK
        go_simp
        refine hK.out _ _ (fun h=>absurd rfl h) ?_
        clear hK K
        refine wpAnyF_done (by kernel_rfl) ?_ _
        go_wp2_with fail
        go_meet
        have e:askR t L a=doP t L a:=by unfold askR;rw [if_pos HK.out]
        rw [e]
        obtain ⟨sv5,vv5,t1,t2,t3⟩:=hTd
        exact ⟨rfl,⟨_,_,hS'⟩,⟨sv5,vv5,t1,t2.lower (by have:=HMD.out.bl.size;omega),t3.lower (by have:=HMD.out.bl.size;omega)⟩,(Mx.ofMv HMD.out).trans hMx⟩
       ·dsimp only [doF,doC,ptrB]
        go_simp
        have hdo:=HDO.out
        simp only [doF,doC,ptrB,List.append_toArray,List.cons_append,List.nil_append,Int.cast_ofNat_Int,Int.ofNat_one] at hdo
        refine Calls.mono hdo ?_;rintro e w5 ⟨rfl,⟨vs',vu',hS'⟩,hTd,hMx⟩
        clear hdo HDO
        have HAB5:=qhq (blk_mx HAB.out hMx (by decide) (by omega))
        have k0:w5.cell? ⟨s,5 + 12,none⟩=some (.func (.func (doF 12)) #[] (doC sb tb sb2 tb2 12)):=(hS'.blk.cell (j:=5 + 12) (by omega)).trans (by show some (D 12)=_;rw [HD.out 12 (by omega) (by omega)])
        have k1:w5.cell? ⟨q,0,none⟩=some (.int .i64 ((12:Nat):Int)):=(HAB5.out.cell (j:=0) (by omega)).trans (by rw [← HJ.out];rfl)
        have hC5:=And.intro k0 (And.intro k1 (And.intro (HAB5.out.cell (j:=1) (by omega)) (And.intro (HAB5.out.cell (j:=2) (by omega)) (And.intro (HAB5.out.cell (j:=3) (by omega)) (And.intro (HAB5.out.cell (j:=4) (by omega)) (And.intro (HAB5.out.cell (j:=5) (by omega)) (HAB5.out.cell (j:=6) (by omega))))))))
        clear k0 k1
        dsimp only
        refine hK.out _ _ (fun _=>hC5) ?_
        clear hK K hC5 HS0
        refine wpAnyF_one 9 (by rfl) (by kernel_rfl) rfl ?_
        intro K hK
        go_simp
        refine hK.out _ _ (fun h=>absurd rfl h) ?_
        clear hK K
        refine wpAnyF_done (by kernel_rfl) ?_ _
        go_wp2_with fail
        go_meet
        have e:askR t L a=doP t L a:=by unfold askR;rw [if_pos HK.out]
        rw [e]
        obtain ⟨sv5,vv5,t1,t2,t3⟩:=hTd
        exact ⟨rfl,⟨_,_,hS'⟩,⟨sv5,vv5,t1,t2.lower (by have:=HMD.out.bl.size;omega),t3.lower (by have:=HMD.out.bl.size;omega)⟩,(Mx.ofMv HMD.out).trans hMx⟩
       ·dsimp only [doF,doC,ptrB]
        go_simp
        have hdo:=HDO.out
        simp only [doF,doC,ptrB,List.append_toArray,List.cons_append,List.nil_append,Int.cast_ofNat_Int,Int.ofNat_one] at hdo
        refine Calls.mono hdo ?_;rintro e w5 ⟨rfl,⟨vs',vu',hS'⟩,hTd,hMx⟩
        clear hdo HDO
        have HAB5:=qhq (blk_mx HAB.out hMx (by decide) (by omega))
        have k0:w5.cell? ⟨s,5 + 13,none⟩=some (.func (.func (doF 13)) #[] (doC sb tb sb2 tb2 13)):=(hS'.blk.cell (j:=5 + 13) (by omega)).trans (by show some (D 13)=_;rw [HD.out 13 (by omega) (by omega)])
        have k1:w5.cell? ⟨q,0,none⟩=some (.int .i64 ((13:Nat):Int)):=(HAB5.out.cell (j:=0) (by omega)).trans (by rw [← HJ.out];rfl)
        have hC5:=And.intro k0 (And.intro k1 (And.intro (HAB5.out.cell (j:=1) (by omega)) (And.intro (HAB5.out.cell (j:=2) (by omega)) (And.intro (HAB5.out.cell (j:=3) (by omega)) (And.intro (HAB5.out.cell (j:=4) (by omega)) (And.intro (HAB5.out.cell (j:=5) (by omega)) (HAB5.out.cell (j:=6) (by omega))))))))
        clear k0 k1
        dsimp only
        refine hK.out _ _ (fun _=>hC5) ?_
        clear hK K hC5 HS0
        refine wpAnyF_one 9 (by rfl) (by kernel_rfl) rfl ?_
        intro K hK
        go_simp
        refine hK.out _ _ (fun h=>absurd rfl h) ?_
        clear hK K
        refine wpAnyF_done (by kernel_rfl) ?_ _
        go_wp2_with fail
        go_meet
        have e:askR t L a=doP t L a:=by unfold askR;rw [if_pos HK.out]
        rw [e]
        obtain ⟨sv5,vv5,t1,t2,t3⟩:=hTd
        exact ⟨rfl,⟨_,_,hS'⟩,⟨sv5,vv5,t1,t2.lower (by have:=HMD.out.bl.size;omega),t3.lower (by have:=HMD.out.bl.size;omega)⟩,(Mx.ofMv HMD.out).trans hMx⟩
     case rest =>
      obtain ⟨rfl,⟨vs1,vu1,hS1⟩,⟨sx,vx,t1,t2,t3⟩,hMx⟩:=hcut
      have hE1:=HE.out.mx HX.out hMx
      have hE2:=HE2.out.mx HX.out hMx
      clear HS HX HAB HE HE2
      have hm0:Mv eTys w.heap.size wr wc:=hMx.base HMV.out (by have:=HQE.out;omega)
      clear hMx HMV HBW
      obtain ⟨Asx,csx,rfl,-⟩:=t2.cap
      obtain ⟨Avx,cvx,rfl⟩:=t3.shape
      obtain ⟨r,hr⟩:∃ r,askR t L a=r:=⟨_,rfl⟩
      rw [hr] at hS1 t1 t2 t3 ⊢
      have HRE:=qhq hr
      clear hr
      have hba:=qaq (qrq _ wc) (.cells #[.int .i64 0] 87)
      have HCB:Hid (Blk (wc.alloc (.cells #[.int .i64 0] 87)) wc.heap.size 87 1 (fun _=>.int .i64 0)):=qhq ((Blk.made wc #[.int .i64 0] 87).congr (f':=fun _=>.int .i64 0) fun j hj=>by
       obtain rfl:j=0:=by simp at hj;omega
       rfl)
      by_cases hc:r.2.2=0
      ·have HQ9:Hid (askQ r=r.1):=qhq (by unfold askQ;rw [if_pos hc])
       rw [show errV r.2.2=.nilIface from if_pos hc]
       clear hc
       have HS:=qhq (hS1.later hba)
       have HE:=qhq (hE1.later hba)
       have HE2:=qhq (hE2.later hba)
       have HX:=qhq (t1.later hba)
       have HSX:=qhq (t2.later hba)
       have HVX:=qhq (t3.later hba)
       have HM:=qhq (hm0.trans (Mv.of_below hba (by have:=hm0.bl.size;omega)))
       clear hS1 hE1 hE2 t1 t2 t3 hm0
       go_upto_region 13 with fail
       clear HCB
       generalize World.alloc wc _=W5 at HS HE HE2 HX HSX HVX HM ⊢
       go_wp2_with fail
       refine (as_nil _ _).mono ?_;rintro e w9 ⟨rfl,rfl⟩
       have z2:w9.cell? ⟨s,2,none⟩=some (.int .i64 r.2.1.place):=HS.out.blk.cell (j:=2) (by omega)
       have y0:w9.cell? ⟨q + 1,0,none⟩=some (.int .i64 r.1.place):=HX.out.cell (j:=0) (by omega)
       have y1:w9.cell? ⟨q + 1,1,none⟩=some (.int .i64 r.1.code):=HX.out.cell (j:=1) (by omega)
       have y2:w9.cell? ⟨q + 1,2,none⟩=some (.int .i64 r.1.num):=HX.out.cell (j:=2) (by omega)
       have y3:w9.cell? ⟨q + 1,3,none⟩=some (.string r.1.text):=HX.out.cell (j:=3) (by omega)
       have y4:w9.cell? ⟨q + 1,4,none⟩=some (.slice Asx r.1.stack.length csx):=HX.out.cell (j:=4) (by omega)
       have y5:w9.cell? ⟨q + 1,5,none⟩=some (.slice Avx r.1.vars.length cvx):=HX.out.cell (j:=5) (by omega)
       have yf:=HX.out.free 0
       go_wp2_with (at_builtin;refine stopped ?_)
       unfold Stopped
       have HX6:=qhq (HX.out.set (j:=0) (by omega) (.int .i64 r.2.1.place))
       have HS6:=qhq (HS.out.farX HX.out 0 (.int .i64 r.2.1.place))
       have HE6:=qhq (HE.out.farX HX.out 0 (.int .i64 r.2.1.place))
       have HE26:=qhq (HE2.out.farX HX.out 0 (.int .i64 r.2.1.place))
       have HSX6:=qhq (HSX.out.other HX.out (by decide) 0 (.int .i64 r.2.1.place))
       have HVX6:=qhq (OwZ.mv HVX.out (Mv.set (Mv.refl [38] (q + 1) w9) (p:=⟨q + 1,0,none⟩) (Nat.le_refl _) HX.out (by simp) (.int .i64 r.2.1.place)) (by decide))
       have HM6:=qhq (HM.out.setNew (p:=⟨q + 1,0,none⟩) (by dsimp only;omega) (by have:=HQE.out;dsimp only;omega) (.int .i64 r.2.1.place))
       clear HX HS HE HE2 HSX HVX HM z2 y0 y1 y2 y3 y4 y5 yf
       have hsz9:(w9.setCell ⟨q + 1,0,none⟩ (.int .i64 r.2.1.place)).heap.size=w9.heap.size:=World.size_setCell _ _ _
       generalize World.setCell w9 _ _=W6 at HX6 HS6 HE6 HE26 HSX6 HVX6 HM6 hsz9 ⊢
       have HT6:=qhq (HTD.out.mv HM6.out (by decide) (by decide) (by decide))
       have hsz6:q ≤ W6.heap.size:=by have:=HM6.out.bl.size;have:=HQE.out;omega
       have hbA:=qaq (qrq _ W6) (.cells #[.int .i64 r.2.1.place,.int .i64 r.1.code,.int .i64 r.1.num,.string r.1.text,.slice Asx r.1.stack.length csx,.slice Avx r.1.vars.length cvx] 38)
       have hqs:(lkN t asks k).1.length ≤ 1048576:=by rw [lkN_len];omega
       refine wpList_plain rfl fun K hK=>wp_appendT _ _ _ (by rfl) w.heap.size q _ (lkN t asks k).1 { r.1 with place:=r.2.1.place } sv vv9 (.slice Asx r.1.stack.length csx) (.slice Avx r.1.vars.length cvx) (by rfl) (HT6.out.later hbA) (HSX6.out.later hbA) (HVX6.out.later hbA) hlq (fun i hi c hc=>by have:=((HTD.out.fr i hi).lt c hc).2;have:=HQE.out;omega) (fun i hi c hc=>by have:=((HTD.out.vr i hi).bk_lt c hc).2;have:=HQE.out;omega) w9.heap.size 1
        (fun j u hj=>by rw [← hsz9];exact new_at W6 (tdV { r.1 with place:=r.2.1.place } (.slice Asx r.1.stack.length csx) (.slice Avx r.1.vars.length cvx)) 38 j u hj) (by rfl) (by rw [World.size_alloc];omega) hqs ?_
       intro g9 cap9 w8 hT8 hg8 hs8
       have hmT:Mv [38] w.heap.size (W6.alloc (.cells #[.int .i64 r.2.1.place,.int .i64 r.1.code,.int .i64 r.1.num,.string r.1.text,.slice Asx r.1.stack.length csx,.slice Avx r.1.vars.length cvx] 38)) w8 :=
        (Mv.refl _ _ _).grown (by rw [World.size_alloc];omega) hg8 (fun b hb=>by
         have hrow:=(HT6.out.later hbA).row
         obtain ⟨N,F,hB⟩:=hrow.block hb
         exact ⟨(hrow.lt b hb).1,_,N,F,hB,by simp⟩)
       have HT8:=qhq hT8
       have HS8:=qhq ((HS6.out.later hbA).mvT hmT (by decide) (by decide) (by decide) (by decide) (by decide))
       have HE8:=qhq ((HE6.out.later hbA).mvT hmT (by decide) (by decide))
       have HE28:=qhq ((HE26.out.later hbA).mvT hmT (by decide) (by decide))
       have HB8:=qhq (bl_trans9 HB.out (bl_trans9 HM6.out.bl (bl_trans9 (bl_low9 hbA (by omega)) hmT.bl)))
       refine hK _ _ ?_
       clear hK K hT8 hg8 hs8 hmT hbA HX6 HS6 HE6 HE26 HSX6 HVX6 HM6 HT6
       go_wp2
       go_roundw
       case rel =>
        have e8:lkN t asks (k + 1)=((lkN t asks k).1 ++ [{ r.1 with place:=r.2.1.place }],r.2.1):=by
         rw [lkN_succ,HLE.out,HAE.out,askP_R,HRE.out,HQ9.out]
        refine ⟨k + 1,by omega,by go_num,?_,?_,HE8.out,HE28.out,HB8.out⟩
        ·rw [e8]
         have h:=HT8.out
         simp only [List.length_append,List.length_cons,List.length_nil,Nat.zero_add] at h
         exact ⟨_,_,h⟩
        ·rw [e8];exact ⟨_,_,HS8.out⟩
       case measure=>simp [intOf];omega
      ·have HQ9:Hid (askQ r={ td0 with code:=r.2.2 }):=qhq (by unfold askQ;rw [if_neg hc])
       rw [show errV r.2.2=.iface 87 (.int .i64 r.2.2) from if_neg hc]
       have hba5:=hba
       have HS:=qhq (hS1.later hba)
       have HE:=qhq (hE1.later hba)
       have HE2:=qhq (hE2.later hba)
       have HX:=qhq (t1.later hba)
       have HM:=qhq (hm0.trans (Mv.of_below hba (by have:=hm0.bl.size;omega)))
       have hwcq:q ≤ wc.heap.size:=by have:=hm0.bl.size;have:=HQE.out;omega
       clear hS1 hE1 hE2 t1 t2 t3 hm0
       go_upto_region 13 with fail
       have hw5:wc.heap.size < (wc.alloc (.cells #[.int .i64 0] 87)).heap.size:=by simp
       generalize World.alloc wc _=W5 at HS HE HE2 HX HM HCB hw5 ⊢
       have hbw5:Below w.heap.size w W5:=bl_trans9 HB.out HM.out.bl
       have hlw5:w.heap.size ≤ W5.heap.size:=hbw5.size
       have hcw:w.heap.size ≤ wc.heap.size:=Nat.le_trans hlq hwcq
       go_wp2_with fail
       refine (as_hit r.2.2 ⟨wc.heap.size,0,none⟩ (.int .i64 0) _ (HER.out.later hbw5) (HCB.out.cell (j:=0) (by omega)) (HCB.out.free 0)).mono ?_;rintro e w9 ⟨rfl,hw9⟩
       have hmw:Mv [87] w.heap.size W5 w9:=by
        rw [hw9]
        exact Mv.set (p:=⟨wc.heap.size,0,none⟩) (Mv.of_below (qaq (qaq (qaq (qaq (qrq _ W5) _) _) _) _) hlw5) hcw (HCB.out.later (qaq (qaq (qaq (qaq (qrq _ W5) _) _) _) _)) (by simp) _
       have hmq:Mv eTys w.heap.size wr w9:=by
        rw [hw9]
        exact Mv.setNew (p:=⟨wc.heap.size,0,none⟩) (Mv.trans HM.out (Mv.of_below (qaq (qaq (qaq (qaq (qrq _ W5) _) _) _) _) hlw5)) hcw (by have:=HQE.out;dsimp only;omega) _
       have HCB9:Hid (Blk w9 wc.heap.size 87 1 (fun _=>.int .i64 r.2.2)):=qhq (by
        rw [hw9]
        refine ((HCB.out.later (qaq (qaq (qaq (qaq (qrq _ W5) _) _) _) _)).set (j:=0) (by omega) (.int .i64 r.2.2)).congr fun j hj=>?_
        obtain rfl:j=0:=by omega
        rfl)
       replace HS:=qhq (HS.out.mvT hmw (by decide) (by decide) (by decide) (by decide) (by decide))
       replace HE:=qhq (HE.out.mvT hmw (by decide) (by decide))
       replace HE2:=qhq (HE2.out.mvT hmw (by decide) (by decide))
       replace HX:=qhq (HX.out.mv hmw (by decide))
       clear hw9 hmw HM HCB hba5
       have HM:=qhq hmq
       clear hmq
       have zc:w9.cell? ⟨wc.heap.size,0,none⟩=some (.int .i64 r.2.2):=HCB9.out.cell (j:=0) (by omega)
       have u0:=HX.out.cell (j:=0) (by omega)
       have p0:=HX.out.free 0
       have u1:=HX.out.cell (j:=1) (by omega)
       have p1:=HX.out.free 1
       have u2:=HX.out.cell (j:=2) (by omega)
       have p2:=HX.out.free 2
       have u3:=HX.out.cell (j:=3) (by omega)
       have p3:=HX.out.free 3
       have u4:=HX.out.cell (j:=4) (by omega)
       have p4:=HX.out.free 4
       have u5:=HX.out.cell (j:=5) (by omega)
       have p5:=HX.out.free 5
       go_upto_region 15 with fail
       have hXn:=((((((HX.out.set (j:=0) (by omega) (.int .i64 0)).set (j:=1) (by omega) (.int .i64 r.2.2)).set (j:=2) (by omega) (.int .i64 0)).set (j:=3) (by omega) (.string ⟨#[]⟩)).set (j:=4) (by omega) (.slice none 0 0)).set (j:=5) (by omega) (.slice none 0 0))
       have hSn:=((((((HS.out.farX HX.out 0 (.int .i64 0)).farX (HX.out.set (j:=0) (by omega) (.int .i64 0)) 1 (.int .i64 r.2.2)).farX ((HX.out.set (j:=0) (by omega) (.int .i64 0)).set (j:=1) (by omega) (.int .i64 r.2.2)) 2 (.int .i64 0)).farX (((HX.out.set (j:=0) (by omega) (.int .i64 0)).set (j:=1) (by omega) (.int .i64 r.2.2)).set (j:=2) (by omega) (.int .i64 0)) 3 (.string ⟨#[]⟩)).farX ((((HX.out.set (j:=0) (by omega) (.int .i64 0)).set (j:=1) (by omega) (.int .i64 r.2.2)).set (j:=2) (by omega) (.int .i64 0)).set (j:=3) (by omega) (.string ⟨#[]⟩)) 4 (.slice none 0 0)).farX (((((HX.out.set (j:=0) (by omega) (.int .i64 0)).set (j:=1) (by omega) (.int .i64 r.2.2)).set (j:=2) (by omega) (.int .i64 0)).set (j:=3) (by omega) (.string ⟨#[]⟩)).set (j:=4) (by omega) (.slice none 0 0)) 5 (.slice none 0 0))
       have hse:=HE.out.sbx.ne HX.out (by decide)
       have hte:=HE.out.tbx.ne HX.out (by decide)
       have hse2:=HE2.out.sbx.ne HX.out (by decide)
       have hte2:=HE2.out.tbx.ne HX.out (by decide)
       have hEn:SeE (((((w9.setCell ⟨q + 1,0,none⟩ (.int .i64 0)).setCell ⟨q + 1,1,none⟩ (.int .i64 r.2.2)).setCell ⟨q + 1,2,none⟩ (.int .i64 0)).setCell ⟨q + 1,3,none⟩ (.string ⟨#[]⟩)).setCell ⟨q + 1,4,none⟩ (.slice none 0 0) |>.setCell ⟨q + 1,5,none⟩ (.slice none 0 0)) s sb tb _ _:=⟨(((((HE.out.sbx.far hse _).far hse _).far hse _).far hse _).far hse _).far hse _,(((((HE.out.tbx.far hte _).far hte _).far hte _).far hte _).far hte _).far hte _⟩
       have hE2n:SeE (((((w9.setCell ⟨q + 1,0,none⟩ (.int .i64 0)).setCell ⟨q + 1,1,none⟩ (.int .i64 r.2.2)).setCell ⟨q + 1,2,none⟩ (.int .i64 0)).setCell ⟨q + 1,3,none⟩ (.string ⟨#[]⟩)).setCell ⟨q + 1,4,none⟩ (.slice none 0 0) |>.setCell ⟨q + 1,5,none⟩ (.slice none 0 0)) s sb2 tb2 _ _:=⟨(((((HE2.out.sbx.far hse2 _).far hse2 _).far hse2 _).far hse2 _).far hse2 _).far hse2 _,(((((HE2.out.tbx.far hte2 _).far hte2 _).far hte2 _).far hte2 _).far hte2 _).far hte2 _⟩
       have hqn:wr.heap.size ≤ q + 1:=by have:=HQE.out;omega
       have hlx1:w.heap.size ≤ q + 1:=by omega
       have hMn:=(((((HM.out.setNew (p:=⟨q + 1,0,none⟩) hlx1 hqn (.int .i64 0)).setNew (p:=⟨q + 1,1,none⟩) hlx1 hqn (.int .i64 r.2.2)).setNew (p:=⟨q + 1,2,none⟩) hlx1 hqn (.int .i64 0)).setNew (p:=⟨q + 1,3,none⟩) hlx1 hqn (.string ⟨#[]⟩)).setNew (p:=⟨q + 1,4,none⟩) hlx1 hqn (.slice none 0 0)).setNew (p:=⟨q + 1,5,none⟩) hlx1 hqn (.slice none 0 0)
       clear HX HS HE HE2 HM HCB9 zc u0 u1 u2 u3 u4 u5 p0 p1 p2 p3 p4 p5 hse hte hse2 hte2
       generalize World.setCell (World.setCell (World.setCell (World.setCell (World.setCell (World.setCell w9 _ _) _ _) _ _) _ _) _ _) _ _=w9 at hXn hSn hEn hE2n hMn ⊢
       obtain ⟨T9,hT9⟩:∃ T9:PTold,T9={ td0 with code:=r.2.2 }:=⟨_,rfl⟩
       obtain ⟨Asx,hA1⟩:∃ A:Option Addr,A=none:=⟨_,rfl⟩
       obtain ⟨csx,hA2⟩:∃ c:Nat,c=0:=⟨_,rfl⟩
       obtain ⟨Avx,hA3⟩:∃ A:Option Addr,A=none:=⟨_,rfl⟩
       obtain ⟨cvx,hA4⟩:∃ c:Nat,c=0:=⟨_,rfl⟩
       have HX:Hid (Blk w9 (q + 1) 38 6 (tdF T9 (.slice Asx T9.stack.length csx) (.slice Avx T9.vars.length cvx))):=qhq (hXn.congr fun j hj=>by
        rw [hT9,hA1,hA2,hA3,hA4]
        match j,hj with
        | 0,_=>rfl
        | 1,_=>rfl
        | 2,_=>rfl
        | 3,_=>rfl
        | 4,_=>rfl
        | 5,_=>rfl)
       have HSX:Hid (OwR w9 q 42 3 T9.stack.length (frC T9.stack) (.slice Asx T9.stack.length csx)):=qhq (by rw [hT9,hA1,hA2];exact OwR.nil)
       have HVX:Hid (OwZ w9 q 40 2 T9.vars.length (varC T9.vars) (.slice Avx T9.vars.length cvx)):=qhq (by rw [hT9,hA3,hA4];exact owr_z OwR.nil)
       replace HQ9:Hid (askQ r=T9):=qhq (by rw [HQ9.out,hT9])
       clear hT9 hA1 hA2 hA3 hA4 hXn
       have HS:=qhq hSn
       have HE:=qhq hEn
       have HE2:=qhq hE2n
       have HM:=qhq hMn
       clear hSn hEn hE2n hMn hc
       have z2:w9.cell? ⟨s,2,none⟩=some (.int .i64 r.2.1.place):=HS.out.blk.cell (j:=2) (by omega)
       have y0:w9.cell? ⟨q + 1,0,none⟩=some (.int .i64 T9.place):=HX.out.cell (j:=0) (by omega)
       have y1:w9.cell? ⟨q + 1,1,none⟩=some (.int .i64 T9.code):=HX.out.cell (j:=1) (by omega)
       have y2:w9.cell? ⟨q + 1,2,none⟩=some (.int .i64 T9.num):=HX.out.cell (j:=2) (by omega)
       have y3:w9.cell? ⟨q + 1,3,none⟩=some (.string T9.text):=HX.out.cell (j:=3) (by omega)
       have y4:w9.cell? ⟨q + 1,4,none⟩=some (.slice Asx T9.stack.length csx):=HX.out.cell (j:=4) (by omega)
       have y5:w9.cell? ⟨q + 1,5,none⟩=some (.slice Avx T9.vars.length cvx):=HX.out.cell (j:=5) (by omega)
       have yf:=HX.out.free 0
       go_wp2_with (at_builtin;refine stopped ?_)
       unfold Stopped
       have HX6:=qhq (HX.out.set (j:=0) (by omega) (.int .i64 r.2.1.place))
       have HS6:=qhq (HS.out.farX HX.out 0 (.int .i64 r.2.1.place))
       have HE6:=qhq (HE.out.farX HX.out 0 (.int .i64 r.2.1.place))
       have HE26:=qhq (HE2.out.farX HX.out 0 (.int .i64 r.2.1.place))
       have HSX6:=qhq (HSX.out.other HX.out (by decide) 0 (.int .i64 r.2.1.place))
       have HVX6:=qhq (OwZ.mv HVX.out (Mv.set (Mv.refl [38] (q + 1) w9) (p:=⟨q + 1,0,none⟩) (Nat.le_refl _) HX.out (by simp) (.int .i64 r.2.1.place)) (by decide))
       have HM6:=qhq (HM.out.setNew (p:=⟨q + 1,0,none⟩) (by dsimp only;omega) (by have:=HQE.out;dsimp only;omega) (.int .i64 r.2.1.place))
       clear HX HS HE HE2 HSX HVX HM z2 y0 y1 y2 y3 y4 y5 yf
       have hsz9:(w9.setCell ⟨q + 1,0,none⟩ (.int .i64 r.2.1.place)).heap.size=w9.heap.size:=World.size_setCell _ _ _
       generalize World.setCell w9 _ _=W6 at HX6 HS6 HE6 HE26 HSX6 HVX6 HM6 hsz9 ⊢
       have HT6:=qhq (HTD.out.mv HM6.out (by decide) (by decide) (by decide))
       have hsz6:q ≤ W6.heap.size:=by have:=HM6.out.bl.size;have:=HQE.out;omega
       have hbA:=qaq (qrq _ W6) (.cells #[.int .i64 r.2.1.place,.int .i64 T9.code,.int .i64 T9.num,.string T9.text,.slice Asx T9.stack.length csx,.slice Avx T9.vars.length cvx] 38)
       have hqs:(lkN t asks k).1.length ≤ 1048576:=by rw [lkN_len];omega
       refine wpList_plain rfl fun K hK=>wp_appendT _ _ _ (by rfl) w.heap.size q _ (lkN t asks k).1 { T9 with place:=r.2.1.place } sv vv9 (.slice Asx T9.stack.length csx) (.slice Avx T9.vars.length cvx) (by rfl) (HT6.out.later hbA) (HSX6.out.later hbA) (HVX6.out.later hbA) hlq (fun i hi c hc=>by have:=((HTD.out.fr i hi).lt c hc).2;have:=HQE.out;omega) (fun i hi c hc=>by have:=((HTD.out.vr i hi).bk_lt c hc).2;have:=HQE.out;omega) w9.heap.size 1
        (fun j u hj=>by rw [← hsz9];exact new_at W6 (tdV { T9 with place:=r.2.1.place } (.slice Asx T9.stack.length csx) (.slice Avx T9.vars.length cvx)) 38 j u hj) (by rfl) (by rw [World.size_alloc];omega) hqs ?_
       intro g9 cap9 w8 hT8 hg8 hs8
       have hmT:Mv [38] w.heap.size (W6.alloc (.cells #[.int .i64 r.2.1.place,.int .i64 T9.code,.int .i64 T9.num,.string T9.text,.slice Asx T9.stack.length csx,.slice Avx T9.vars.length cvx] 38)) w8 :=
        (Mv.refl _ _ _).grown (by rw [World.size_alloc];omega) hg8 (fun b hb=>by
         have hrow:=(HT6.out.later hbA).row
         obtain ⟨N,F,hB⟩:=hrow.block hb
         exact ⟨(hrow.lt b hb).1,_,N,F,hB,by simp⟩)
       have HT8:=qhq hT8
       have HS8:=qhq ((HS6.out.later hbA).mvT hmT (by decide) (by decide) (by decide) (by decide) (by decide))
       have HE8:=qhq ((HE6.out.later hbA).mvT hmT (by decide) (by decide))
       have HE28:=qhq ((HE26.out.later hbA).mvT hmT (by decide) (by decide))
       have HB8:=qhq (bl_trans9 HB.out (bl_trans9 HM6.out.bl (bl_trans9 (bl_low9 hbA (by omega)) hmT.bl)))
       refine hK _ _ ?_
       clear hK K hT8 hg8 hs8 hmT hbA HX6 HS6 HE6 HE26 HSX6 HVX6 HM6 HT6
       go_wp2
       go_roundw
       case rel =>
        have e8:lkN t asks (k + 1)=((lkN t asks k).1 ++ [{ T9 with place:=r.2.1.place }],r.2.1):=by
         rw [lkN_succ,HLE.out,HAE.out,askP_R,HRE.out,HQ9.out]
        refine ⟨k + 1,by omega,by go_num,?_,?_,HE8.out,HE28.out,HB8.out⟩
        ·rw [e8]
         have h:=HT8.out
         simp only [List.length_append,List.length_cons,List.length_nil,Nat.zero_add] at h
         exact ⟨_,_,h⟩
        ·rw [e8];exact ⟨_,_,HS8.out⟩
       case measure=>simp [intOf];omega
    ·obtain rfl:k=asks.length:=by omega
     go_wp2_with fail
     go_ret
     rw [lookP_eq HSO.out (by omega)]
     exact ⟨_,_,_,rfl,HTD.out,HB.out⟩
end Go.Proofs.YtcklnjjbhngbcaaGreatDoor
