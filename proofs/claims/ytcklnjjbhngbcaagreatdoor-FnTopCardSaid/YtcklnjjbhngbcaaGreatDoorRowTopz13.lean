/- Lemmas and contracts of functions that the theorem of this claim leans on (texts F0, T15). -/
import Derived.Test.YtcklnjjbhngbcaaGreatDoorRowTopz00
import Derived.Test.YtcklnjjbhngbcaaGreatDoorRowUnz05
import Derived.Test.YtcklnjjbhngbcaaGreatDoorRowUnz02
import Derived.Test.YtcklnjjbhngbcaaGreatDoorRowTopz12
namespace Go.Proofs.YtcklnjjbhngbcaaGreatDoor
open Go.RowKit Go.Proofs.Lens
theorem i_fc:(Tryz.prog.info? 106).map (fun i=>(i.zero,i.size,i.bytes))=some (some (.agg #[.int .i64 0,.int .i64 0,.int .i64 0,.int .i64 0]),4,32):=by kernel_rfl
theorem i_bool:(Tryz.prog.info? 4).map (fun i=>(i.zero,i.size,i.bytes))=some (some (.bool false),1,1):=by kernel_rfl
def fcI (q:Nat) (i j:Nat):Value:=.int .i64 (if j=0 ∧ i < q then i else 0)
theorem fcI_set {w:World} {lo b n cap q:Nat} (h:OwR w lo 106 4 n (fcI q) (.slice (some ⟨b,0,none⟩) n cap)) (hq:q < n) :
  OwR (w.setCell ⟨b,q * 4,none⟩ (.int .i64 q)) lo 106 4 n (fcI (q + 1)) (.slice (some ⟨b,0,none⟩) n cap):=by
 refine h.set (j0:=0) hq (by omega) (fun i j hi hj hne=>?_) ?_
 ·unfold fcI
  congr 1
  by_cases h1:j=0 ∧ i < q
  ·rw [if_pos h1,if_pos (by omega)]
  ·rw [if_neg h1,if_neg (by omega)]
 ·unfold fcI;rw [if_pos (by omega)]
theorem fcI_end {w:World} {lo b n cap:Nat} (h:OwR w lo 106 4 n (fcI n) (.slice (some ⟨b,0,none⟩) n cap)) (hn:0 < n) :
  OwR (w.setCell ⟨b,1,none⟩ (.int .i64 1)) lo 106 4 n (fcC fc0) (.slice (some ⟨b,0,none⟩) n cap):=by
 refine OwR.set (i0:=0) (j0:=1) h hn (by omega) (fun i j hi hj hne=>?_) rfl
 match j,hj with
 | 0,_=>simp [fcI,fcC,hi]
 | 1,_=>simp [fcI,fcC,fc0];omega
 | 2,_=>simp [fcI,fcC,fc0]
 | 3,_=>simp [fcI,fcC,fc0]
theorem fcC_cal {w:World} {lo b n cap i0:Nat} {c:FC} {fn:Int} (h:OwR w lo 106 4 n (fcC c) (.slice (some ⟨b,0,none⟩) n cap)) (hi:i0 < n) (hf:fn=(i0:Int)) :
  OwR (w.setCell ⟨b,i0 * 4 + 1,none⟩ (.int .i64 (c.cal i0 + 1))) lo 106 4 n (fcC ⟨bump c.cal fn,c.slf,c.tot⟩) (.slice (some ⟨b,0,none⟩) n cap):=by
 refine h.set hi (by omega) (fun i j hi' hj hne=>?_) ?_
 ·match j,hj with
  | 0,_=>rfl
  | 1,_=>simp only [fcC,bump];rw [if_neg (by omega)]
  | 2,_=>rfl
  | 3,_=>rfl
 ·simp only [fcC,bump];rw [if_pos hf.symm]
theorem fcC_slf {w:World} {lo b n cap i0:Nat} {c:FC} {fn:Int} (h:OwR w lo 106 4 n (fcC c) (.slice (some ⟨b,0,none⟩) n cap)) (hi:i0 < n) (hf:fn=(i0:Int)) :
  OwR (w.setCell ⟨b,i0 * 4 + 2,none⟩ (.int .i64 (c.slf i0 + 1))) lo 106 4 n (fcC ⟨c.cal,bump c.slf fn,c.tot⟩) (.slice (some ⟨b,0,none⟩) n cap):=by
 refine h.set hi (by omega) (fun i j hi' hj hne=>?_) ?_
 ·match j,hj with
  | 0,_=>rfl
  | 1,_=>rfl
  | 2,_=>simp only [fcC,bump];rw [if_neg (by omega)]
  | 3,_=>rfl
 ·simp only [fcC,bump];rw [if_pos hf.symm]
theorem fcC_tot {w:World} {lo b n cap i0:Nat} {c:FC} {fn:Int} (h:OwR w lo 106 4 n (fcC c) (.slice (some ⟨b,0,none⟩) n cap)) (hi:i0 < n) (hf:fn=(i0:Int)) :
  OwR (w.setCell ⟨b,i0 * 4 + 3,none⟩ (.int .i64 (c.tot i0 + 1))) lo 106 4 n (fcC ⟨c.cal,c.slf,bump c.tot fn⟩) (.slice (some ⟨b,0,none⟩) n cap):=by
 refine h.set hi (by omega) (fun i j hi' hj hne=>?_) ?_
 ·match j,hj with
  | 0,_=>rfl
  | 1,_=>rfl
  | 2,_=>rfl
  | 3,_=>simp only [fcC,bump];rw [if_neg (by omega)]
 ·simp only [fcC,bump];rw [if_pos hf.symm]
theorem sound_fns {t:PTr} (h:Sound t):0 < t.fns.length ∧ t.fns.length ≤ 300 ∧ t.moms.length ≤ 3000:=by
 have:=h.sizes
 simp only [sizesOk,Bool.and_eq_true,decide_eq_true_eq] at this
 omega
set_option linter.unusedSimpArgs false
theorem valP_at {vs:List PVar} {nm:ByteArray} {q:Nat} (hq:q < vs.length):valP (vs.take (q + 1)) nm=if (elt vs q).nm=nm then some (elt vs q).tx else valP (vs.take q) nm:=by
 rw [take_snoc hq,valP_snoc]
set_option maxRecDepth 100000 in
set_option maxHeartbeats 2000000 in
theorem l3value_calls (v:Value) (vs:List PVar) (nm:ByteArray) (w:World) (h:RdVars w v vs) :
  Calls Tryz.prog 98 #[v,.string nm] w fun e w'=>e=.returned (.tuple #[.string ((valP vs nm).getD ⟨#[]⟩),.bool (valP vs nm).isSome]) ∧ Below w.heap.size w w':=by
 obtain ⟨A,c,rfl,hn,hrow⟩:=h
 have HR:=qhq hrow
 clear hrow
 go_enter Tryz.func98,Tryz.ntmps98
 go_wp2_with fail
 go_loopw [6,7,12] (fun ov mv i wr=>∃ q:Nat,q ≤ vs.length ∧ i=.int .i64 q ∧ ov=.string ((valP (vs.take q) nm).getD ⟨#[]⟩) ∧ mv=.bool (valP (vs.take q) nm).isSome ∧ Below w.heap.size w wr) (fun _ _ i _=>vs.length - (intOf i).toNat)
 case atStart=>exact ⟨0,Nat.zero_le _,rfl,rfl,rfl,qrq _ _⟩
 case round =>
  obtain ⟨q,hq,rfl,rfl,rfl,hb⟩:=hrel
  have HB:=qhq hb
  clear hb
  by_cases hlt:q < vs.length
  ·obtain ⟨b,o,rfl,hc⟩:=HR.out.later HB.out (by omega)
   have x0:wr.cell? ⟨b,o + q * 2,none⟩=some (.string (elt vs q).nm):=hc q hlt 0 (by omega)
   have x1:wr.cell? ⟨b,o + q * 2 + 1,none⟩=some (.string (elt vs q).tx):=hc q hlt 1 (by omega)
   have HV:=qhq (valP_at (nm:=nm) hlt)
   obtain ⟨b1,hb1⟩:∃ b1,((elt vs q).nm.toList == nm.toList)=b1:=⟨_,rfl⟩
   have HQ:=qhq hb1
   clear hc
   cases b1 with
   | true =>
    have he:Hid ((elt vs q).nm=nm):=qhq (by have:=HQ.out;rw [ba_beq] at this;simpa using this)
    go_wp2
    go_roundw
    case rel=>exact ⟨q + 1,by omega,by go_num,by rw [HV.out,if_pos he.out];rfl,by rw [HV.out,if_pos he.out];rfl,qaq HB.out _⟩
    case measure=>simp [intOf];omega
   | false =>
    have he:Hid (¬ (elt vs q).nm=nm):=qhq (by have:=HQ.out;rw [ba_beq] at this;simpa using this)
    go_wp2
    go_roundw
    case rel=>exact ⟨q + 1,by omega,by go_num,by rw [HV.out,if_neg he.out],by rw [HV.out,if_neg he.out],qaq HB.out _⟩
    case measure=>simp [intOf];omega
  ·obtain rfl:q=vs.length:=by omega
   have HT:Hid (vs.take vs.length=vs):=qhq List.take_length
   go_wp2
   go_ret2
   exact ⟨by rw [HT.out];rfl,HB.out⟩
theorem i_owner:(Tryz.prog.info? 242).map (fun i=>(i.zero,i.size,i.bytes))=some (some (.agg #[.bool false,.int .i64 0,.int .i64 0,.int .i64 0,.int .i64 0]),5,40):=by kernel_rfl
def ownF (ms:List PMom) (i:Nat):PFr:=match (shownS ms i).top with | []=>⟨0,0,0⟩ | f :: _=>f
def ownC (ms:List PMom) (i j:Nat):Value:=match j with | 0=>.bool (!(shownS ms i).top.isEmpty) | 1=>.int .i64 (shownS ms i).cur | 2=>.int .i64 (ownF ms i).fn | 3=>.int .i64 (ownF ms i).line | _=>.int .i64 (ownF ms i).frm
theorem own_nil {ms:List PMom} {n:Nat} (h:(shownS ms n).top=[]):∀ j,j < 5 → [Value.bool false,.int .i64 (shownS ms n).cur,.int .i64 0,.int .i64 0,.int .i64 0][j]?=some (ownC ms n j):=by
 intro j hj
 have e:ownF ms n=⟨0,0,0⟩:=by unfold ownF;rw [h]
 match j,hj with
 | 0,_=>simp [ownC,h]
 | 1,_=>simp [ownC]
 | 2,_=>simp [ownC,e]
 | 3,_=>simp [ownC,e]
 | 4,_=>simp [ownC,e]
theorem own_cons {ms:List PMom} {n:Nat} {fr:PFr} {r:List PFr} (h:(shownS ms n).top=fr :: r):∀ j,j < 5 → [Value.bool true,.int .i64 (shownS ms n).cur,.int .i64 fr.fn,.int .i64 fr.line,.int .i64 fr.frm][j]?=some (ownC ms n j):=by
 intro j hj
 have e:ownF ms n=fr:=by unfold ownF;rw [h]
 match j,hj with
 | 0,_=>simp [ownC,h]
 | 1,_=>simp [ownC]
 | 2,_=>simp [ownC,e]
 | 3,_=>simp [ownC,e]
 | 4,_=>simp [ownC,e]
def owTys:List TypeId:=242 :: sTys
theorem shownS_inv {t:PTr} (h:Sound t) {n:Nat} (hn:n < t.moms.length):0 ≤ (shownS t.moms n).cur ∧ (shownS t.moms n).cur ≤ 100:=by
 unfold shownS
 split
 ·exact ⟨(h.inv n (by omega)).lo,(h.inv n (by omega)).hi⟩
 ·exact ⟨(h.inv (n + 1) (by omega)).lo,(h.inv (n + 1) (by omega)).hi⟩
set_option maxRecDepth 100000 in
set_option maxHeartbeats 8000000 in
theorem l3owners_calls (v1 v2:Value) (t:PTr) (w:World) (h:RdTr w v1 v2 t) (hsm:smTr t) (hs:soundP t=true) :
  Calls Tryz.prog 140 #[.agg #[v1,v2]] w (OwRet w 242 5 t.moms.length (ownC t.moms)):=by
 have HT:=qhq h
 have HS:=qhq hsm
 obtain ⟨⟨A1,c1,rfl,hn1,-⟩,⟨vv,⟨A2,c2,rfl,hn2,-⟩,-⟩⟩:=h
 have hso:=sound_iff hs
 obtain ⟨nf0,nf1,nm1⟩:=sound_fns hso
 have SO:=qhq hso
 clear hs hsm hso
 go_enter Tryz.func140,Tryz.ntmps140
 go_wp2_with fail
 refine (l1begin_calls _).mono ?_;rintro e w2 ⟨g,T,f,rfl,hS,hb⟩
 have HX:=qhq ((Blk.made w #[.slice A1 t.fns.length c1,.slice A2 t.moms.length c2] 26).later hb)
 have HSS:=qhq (hS.lower (lo':=w.heap.size) (by simp))
 have HM:=qhq (Mv.then (ts:=owTys) ((Mv.refl _ _ w).alloc (Nat.le_refl _) _) (by simp) hb)
 clear hS hb
 have x1:w2.cell? ⟨w.heap.size,1,none⟩=some (.slice A2 t.moms.length c2):=HX.out.cell (j:=1) (by simp)
 go_wp2_with fail
 clear x1
 go_loopw [3,12] (fun ov i wr=>∃ (n:Nat) (f:Nat → Value),n ≤ t.moms.length ∧ i=.int .i64 n ∧ IsS wr w.heap.size g T (stN t.moms n) f ∧ OwR wr w.heap.size 242 5 n (ownC t.moms) ov ∧ Mv owTys w.heap.size w wr ∧
  Blk wr w.heap.size 26 2 (fun j=>#[Value.slice A1 t.fns.length c1,.slice A2 t.moms.length c2].getD j undef)) (fun _ i _=>t.moms.length - (intOf i).toNat)
 case atStart=>exact ⟨0,f,Nat.zero_le _,rfl,HSS.out,OwR.nil,HM.out,HX.out⟩
 case round =>
  obtain ⟨n,f,hn,rfl,hS,hO,hM,hX⟩:=hrel
  clear HSS HM HX
  obtain ⟨A3,c3,rfl,-⟩:=hO.cap
  have HSS:=qhq hS
  have HO:=qhq hO
  have HM:=qhq hM
  have HX:=qhq hX
  clear hS hO hM hX
  by_cases h2:n < t.moms.length
  ·obtain ⟨b,o,vk,hA,d0,d1,d2,d3,d4,d5,hvk⟩:=rd_moment (HT.out.2.later HM.out.bl) h2
   obtain ⟨Av,cv,rfl,-⟩:=hvk
   subst hA
   have hlo:=HM.out.size
   go_upto_region 6 with fail
   have HMB:Hid (Blk (wr.alloc _) wr.heap.size 114 6 _):=qhq (Blk.made wr #[.int .i64 (elt t.moms n).kind,.int .i64 (elt t.moms n).task,.int .i64 (elt t.moms n).fn,.int .i64 (elt t.moms n).line,.string (elt t.moms n).text,.slice Av (elt t.moms n).vars.length cv] 114)
   generalize hW2:World.alloc wr _=W2 at HMB ⊢
   have hbl:Below wr.heap.size wr W2:=by rw [← hW2];exact qaq (qrq _ _) _
   have hmb:w.heap.size < wr.heap.size:=HX.out.lt
   clear hW2 d0 d1 d2 d3 d4 d5
   have HI:=qhq (SO.out.inv n hn)
   replace HM:=qhq (HM.out.then HM.out.size hbl)
   replace HX:=qhq (HX.out.later hbl)
   replace HO:=qhq (HO.out.later hbl)
   replace HSS:=qhq (HSS.out.later hbl)
   clear hbl
   obtain ⟨q0,q1⟩:=shownS_inv SO.out h2
   have y0:W2.cell? ⟨wr.heap.size,0,none⟩=some (.int .i64 (elt t.moms n).kind):=HMB.out.cell (j:=0) (by simp)
   by_cases k3:(elt t.moms n).kind=3
   ·have hd1:((elt t.moms n).kind != 3)=false:=by simp [k3]
    have hd2:((elt t.moms n).kind == 3)=true:=by simp [k3]
    have HK:=qhq k3
    have hss:shownS t.moms n=stN t.moms n:=by unfold shownS;rw [if_pos k3]
    rw [← hss] at HSS
    clear hss
    clear k3
    have c0:W2.cell? ⟨g,1,none⟩=some (.int .i64 (shownS t.moms n).cur):=HSS.out.blk.cell (j:=1) (by omega)
    have hbb:wr.heap.size < W2.heap.size:=HMB.out.lt
    have HOLT:Hid (∀ b',(Value.slice A3 n c3).ownBlock=some b' → b' < W2.heap.size):=qhq (fun b' hb'=>(HO.out.lt b' hb').2)
    go_upto_region 9 with fail
    have HOB:Hid (Blk (W2.alloc _) W2.heap.size 242 5 _):=qhq (Blk.made W2 #[.bool false,.int .i64 (shownS t.moms n).cur,.int .i64 0,.int .i64 0,.int .i64 0] 242)
    generalize hW5:World.alloc W2 _=W5 at HOB ⊢
    have hbl:Below W2.heap.size W2 W5:=by rw [← hW5];exact qaq (qrq _ _) _
    have hlo5:=HM.out.size
    clear hW5 c0 y0
    replace HM:=qhq (HM.out.then HM.out.size hbl)
    replace HX:=qhq (HX.out.later hbl)
    replace HO:=qhq (HO.out.later hbl)
    replace HSS:=qhq (HSS.out.later hbl)
    replace HMB:=qhq (HMB.out.later hbl)
    clear hbl
    go_wp2_with fail
    cases hL:(shownS t.moms n).top with
    | nil =>
     have HL:=qhq hL
     clear hL
     refine (top_nil _ g T _ _ _ HSS.out q0 q1 HL.out).mono ?_;rintro e w6 ⟨rfl,m',rfl⟩
     generalize hW6:World.drewN W5 m'=w6
     have hbl:Below W5.heap.size W5 w6:=by rw [← hW6];exact qnq (qrq _ _) _
     have hlo6:=HM.out.size
     clear hW6
     replace HM:=qhq (HM.out.then HM.out.size hbl)
     replace HX:=qhq (HX.out.later hbl)
     replace HO:=qhq (HO.out.later hbl)
     replace HSS:=qhq (HSS.out.later hbl)
     replace HMB:=qhq (HMB.out.later hbl)
     replace HOB:=qhq (HOB.out.later hbl)
     clear hbl
     have o0:w6.cell? ⟨W2.heap.size,0,none⟩=some (.bool false):=HOB.out.cell (j:=0) (by simp)
     have o1:w6.cell? ⟨W2.heap.size,1,none⟩=some (.int .i64 (shownS t.moms n).cur):=HOB.out.cell (j:=1) (by simp)
     have o2:w6.cell? ⟨W2.heap.size,2,none⟩=some (.int .i64 0):=HOB.out.cell (j:=2) (by simp)
     have o3:w6.cell? ⟨W2.heap.size,3,none⟩=some (.int .i64 0):=HOB.out.cell (j:=3) (by simp)
     have o4:w6.cell? ⟨W2.heap.size,4,none⟩=some (.int .i64 0):=HOB.out.cell (j:=4) (by simp)
     have hsl:=HM.out.size
     go_wp2_with (at_builtin;refine stopped ?_)
     unfold Stopped
     refine wpList_append1 _ (by rfl) _ _ 209 (by rfl) w.heap.size 242 _ 5 40 Tryz.underlying209 i_owner rfl (by omega) _ n _ (ownC t.moms) (by rfl) HO.out [.bool false,.int .i64 (shownS t.moms n).cur,.int .i64 0,.int .i64 0,.int .i64 0] rfl (by simp [Value.oneCell']) (by rfl) (fun _ _ _ _=>rfl) ?hNa hsl (by omega) (by omega) ?_
     case hNa =>
      exact own_nil HL.out
     intro ga cg w8 hO8 hG8 _ _
     have hmv8:Mv [242] w.heap.size w6 w8:=(Mv.refl _ _ _).grown HM.out.size hG8 (fun b hb=>by obtain ⟨N,F,hBk⟩:=HO.out.block hb;exact ⟨(HO.out.lt b hb).1,_,N,F,hBk,by decide⟩)
     replace HX:=qhq (HX.out.mv hmv8 (by decide))
     replace HSS:=qhq (HSS.out.mv hmv8 (by decide) (by decide) (by decide))
     replace HMB:=qhq (HMB.out.mv hmv8 (by decide))
     replace HM:=qhq (HM.out.trans (hmv8.mono (by decide)))
     clear HO hmv8 hG8 hsl
     have HO:=qhq hO8
     clear hO8
     have y0:w8.cell? ⟨wr.heap.size,0,none⟩=some (.int .i64 (elt t.moms n).kind):=HMB.out.cell (j:=0) (by simp)
     have y1:w8.cell? ⟨wr.heap.size,1,none⟩=some (.int .i64 (elt t.moms n).task):=HMB.out.cell (j:=1) (by simp)
     have y2:w8.cell? ⟨wr.heap.size,2,none⟩=some (.int .i64 (elt t.moms n).fn):=HMB.out.cell (j:=2) (by simp)
     have y3:w8.cell? ⟨wr.heap.size,3,none⟩=some (.int .i64 (elt t.moms n).line):=HMB.out.cell (j:=3) (by simp)
     have y4:w8.cell? ⟨wr.heap.size,4,none⟩=some (.string (elt t.moms n).text):=HMB.out.cell (j:=4) (by simp)
     have y5:w8.cell? ⟨wr.heap.size,5,none⟩=some (.slice Av (elt t.moms n).vars.length cv):=HMB.out.cell (j:=5) (by simp)
     have hss:shownS t.moms n=stN t.moms n:=by unfold shownS;rw [if_pos HK.out]
     rw [hss] at HSS
     clear hss
     go_wp2_with fail
     refine (move_calls _ g T _ _ (elt t.moms n) _ _ _ n n _ HSS.out HI.out).mono ?_
     rintro e w10 ⟨rfl,hmv,hst⟩
     obtain ⟨f',hS'⟩:=hst (SO.out.moves n h2)
     replace hS':IsS w10 w.heap.size g T (stN t.moms (n + 1)) f':=hS'
     replace HX:=qhq (HX.out.mv hmv (by decide))
     replace HO:=qhq (HO.out.mv hmv (by decide))
     replace HM:=qhq (HM.out.trans (hmv.mono (by decide)))
     clear HSS hmv hst
     have HSS:=qhq hS'
     clear hS' y0 y1 y2 y3 y4 y5
     go_wp2
     go_roundw
     case rel=>exact ⟨n + 1,f',by omega,by go_num,HSS.out,HO.out,HM.out,HX.out⟩
     case measure=>simp [intOf];omega
    | cons fr r =>
     have HL:=qhq hL
     clear hL
     refine (top_cons _ g T _ _ _ HSS.out q0 q1 HL.out).mono ?_;rintro e w6 ⟨rfl,m',rfl⟩
     generalize hW6:World.drewN W5 m'=w6
     have hbl:Below W5.heap.size W5 w6:=by rw [← hW6];exact qnq (qrq _ _) _
     have hlo6:=HM.out.size
     clear hW6
     replace HM:=qhq (HM.out.then HM.out.size hbl)
     replace HX:=qhq (HX.out.later hbl)
     replace HO:=qhq (HO.out.later hbl)
     replace HSS:=qhq (HSS.out.later hbl)
     replace HMB:=qhq (HMB.out.later hbl)
     replace HOB:=qhq (HOB.out.later hbl)
     clear hbl
     have hi0:(0:Int) ≤ (r.length:Int):=by omega
     have o0:w6.cell? ⟨W2.heap.size,0,none⟩=some (.bool false):=HOB.out.cell (j:=0) (by simp)
     have z0:=HOB.out.free 0
     go_upto_region 11 with fail
     generalize hW7:World.setCell w6 _ _=w7
     have hset:Mv [242] w.heap.size w6 w7:=by rw [← hW7];exact (Mv.refl _ _ _).set (by dsimp only;omega) HOB.out (by decide) _
     replace HOB:Hid (Blk w7 W2.heap.size 242 5 _):=qhq (by rw [← hW7];exact HOB.out.set (j:=0) (by simp) (.bool true))
     replace HO:Hid (OwR w7 w.heap.size 242 5 n (ownC t.moms) (.slice A3 n c3)):=qhq (by rw [← hW7];exact HO.out.far (p:=⟨W2.heap.size,0,none⟩) (fun hh=>by have:=HOLT.out _ hh;dsimp only at this;omega) _)
     replace HX:=qhq (HX.out.mv hset (by decide))
     replace HSS:=qhq (HSS.out.mv hset (by decide) (by decide) (by decide))
     replace HMB:=qhq (HMB.out.mv hset (by decide))
     replace HM:=qhq (HM.out.trans (hset.mono (by decide)))
     clear hW7 hset o0 z0
     obtain ⟨b',cap,k0,k1,k2,hc1,hc2,hv,hrow,e0,e1,e2,hfz,-⟩:=HSS.out.tops q0 q1 HL.out
     obtain ⟨n1,hn1⟩:∃ n1,n1=r.length + 1:=⟨_,rfl⟩
     rw [← hn1] at k2 hc1
     have hi1:(r.length:Int) < (n1:Int):=by omega
     have hx:(shownS t.moms n).cur < 101:=by omega
     have hi3:(r.length:Int).toNat=r.length:=by simp
     have o2:w7.cell? ⟨W2.heap.size,2,none⟩=some (.int .i64 0):=HOB.out.cell (j:=2) (by simp)
     have o3:w7.cell? ⟨W2.heap.size,3,none⟩=some (.int .i64 0):=HOB.out.cell (j:=3) (by simp)
     have o4:w7.cell? ⟨W2.heap.size,4,none⟩=some (.int .i64 0):=HOB.out.cell (j:=4) (by simp)
     have z2:=HOB.out.free 2
     have z3:=HOB.out.free 3
     have z4:=HOB.out.free 4
     have hS0:∃ m,w7.drew=w7.drewN m:=⟨1,rfl⟩
     have HS0:=qhq hS0
     clear hS0 hv hrow hfz hn1
     refine wp_region_F 15 (fun w':World=>∃ m,w'=w7.drewN m) (by kernel_rfl) ?_
     refine wpAnyF_take 0 (v:=?v0W2) (by rfl) (by kernel_rfl) (by intro _ _ _ h;exact h) HS0.out (by rfl) ?hy0W2 ?rest0W2
     case hy0W2 =>
      intro w' hSw
      obtain ⟨m,rfl⟩:=hSw
      go_simp
      try with_reducible rfl
     simp only [Act.put,q1q,q2q,q3q]
     refine wpAnyF_take 1 (v:=?v1W2) (by rfl) (by kernel_rfl) (by intro _ _ _ h;exact h) HS0.out (by rfl) ?hy1W2 ?rest1W2
     case hy1W2 =>
      intro w' hSw
      obtain ⟨m,rfl⟩:=hSw
      go_simp
      try with_reducible rfl
     simp only [Act.put,q1q,q2q,q3q]
     refine wpAnyF_take 2 (v:=?v2W2) (by rfl) (by kernel_rfl) (by intro _ _ _ h;exact h) HS0.out (by rfl) ?hy2W2 ?rest2W2
     case hy2W2 =>
      intro w' hSw
      obtain ⟨m,rfl⟩:=hSw
      go_simp
      try with_reducible rfl
     simp only [Act.put,q1q,q2q,q3q]
     refine wpAnyF_take 3 (v:=?v3W2) (by rfl) (by kernel_rfl) (by intro _ _ _ h;exact h) HS0.out (by rfl) ?hy3W2 ?rest3W2
     case hy3W2 =>
      intro w' hSw
      obtain ⟨m,rfl⟩:=hSw
      go_simp
      try with_reducible rfl
     simp only [Act.put,q1q,q2q,q3q]
     refine wpAnyF_take 4 (v:=?v4W2) (by rfl) (by kernel_rfl) (by intro _ _ _ h;exact h) HS0.out (by rfl) ?hy4W2 ?rest4W2
     case hy4W2 =>
      intro w' hSw
      obtain ⟨m,rfl⟩:=hSw
      go_simp
      try with_reducible rfl
     simp only [Act.put,q1q,q2q,q3q]
     refine wpAnyF_take 5 (v:=?v5W2) (by rfl) (by kernel_rfl) (by intro _ _ _ h;exact h) HS0.out (by rfl) ?hy5W2 ?rest5W2
     case hy5W2 =>
      intro w' hSw
      obtain ⟨m,rfl⟩:=hSw
      go_simp
      try with_reducible rfl
     simp only [Act.put,q1q,q2q,q3q]
     refine wpAnyF_take 6 (v:=?v6W2) (by rfl) (by kernel_rfl) (by intro _ _ _ h;exact h) HS0.out (by rfl) ?hy6W2 ?rest6W2
     case hy6W2 =>
      intro w' hSw
      obtain ⟨m,rfl⟩:=hSw
      go_simp
      try with_reducible rfl
     simp only [Act.put,q1q,q2q,q3q]
     refine wpAnyF_take 7 (v:=?v7W2) (by rfl) (by kernel_rfl) (by intro _ _ _ h;exact h) HS0.out (by rfl) ?hy7W2 ?rest7W2
     case hy7W2 =>
      intro w' hSw
      obtain ⟨m,rfl⟩:=hSw
      go_simp
      try with_reducible rfl
     simp only [Act.put,q1q,q2q,q3q]
     refine wpAnyF_take 8 (v:=?v8W2) (by rfl) (by kernel_rfl) (by intro _ _ _ h;exact h) HS0.out (by rfl) ?hy8W2 ?rest8W2
     case hy8W2 =>
      intro w' hSw
      obtain ⟨m,rfl⟩:=hSw
      go_simp
      try with_reducible rfl
     simp only [Act.put,q1q,q2q,q3q]
     refine wpAnyF_take 9 (v:=?v9W2) (by rfl) (by kernel_rfl) (by intro _ _ _ h;exact h) HS0.out (by rfl) ?hy9W2 ?rest9W2
     case hy9W2 =>
      intro w' hSw
      obtain ⟨m,rfl⟩:=hSw
      go_simp
      try with_reducible rfl
     simp only [Act.put,q1q,q2q,q3q]
     refine wpAnyF_take 10 (v:=?v10W2) (by rfl) (by kernel_rfl) (by intro _ _ _ h;exact h) HS0.out (by rfl) ?hy10W2 ?rest10W2
     case hy10W2 =>
      intro w' hSw
      obtain ⟨m,rfl⟩:=hSw
      go_simp
      try with_reducible rfl
     simp only [Act.put,q1q,q2q,q3q]
     refine wpAnyF_one 11 (by rfl) (by kernel_rfl) rfl ?_
     intro K hK
     go_simp
     refine (top_cons _ g T _ _ _ (HSS.out.later (bl_drew (qrq _ _))) q0 q1 HL.out).mono ?_
     rintro e w8 ⟨rfl,m2,rfl⟩
     dsimp only
     have HS1:Hid (∃ m,w7.drew.drewN m2=w7.drewN m):=qhq ⟨1 + m2,World.drewN_drewN _ _ _⟩
     refine hK.out _ _ (fun _=>HS1.out) ?_
     clear hK K
     refine wpAnyF_take 12 (v:=?v12W2) (by rfl) (by kernel_rfl) (by intro _ _ _ h;exact h) HS1.out (by rfl) ?hy12W2 ?rest12W2
     case hy12W2 =>
      intro w' hSw
      obtain ⟨m,rfl⟩:=hSw
      go_simp
      try with_reducible rfl
     simp only [Act.put,q1q,q2q,q3q]
     refine wpAnyF_take 13 (v:=?v13W2) (by rfl) (by kernel_rfl) (by intro _ _ _ h;exact h) HS1.out (by rfl) ?hy13W2 ?rest13W2
     case hy13W2 =>
      intro w' hSw
      obtain ⟨m,rfl⟩:=hSw
      go_simp
      try with_reducible rfl
     simp only [Act.put,q1q,q2q,q3q]
     refine wpAnyF_take 14 (v:=?v14W2) (by rfl) (by kernel_rfl) (by intro _ _ _ h;exact h) HS1.out (by rfl) ?hy14W2 ?rest14W2
     case hy14W2 =>
      intro w' hSw
      obtain ⟨m,rfl⟩:=hSw
      go_simp
      try with_reducible rfl
     simp only [Act.put,q1q,q2q,q3q]
     refine wpAnyF_one 15 (by rfl) (by kernel_rfl) rfl ?_
     intro K hK
     go_simp
     refine hK.out _ _ (fun h=>absurd rfl h) ?_
     clear hK K
     refine wpAnyF_done (by kernel_rfl) ?_ _
     have hbd:Below w7.heap.size w7 (w7.drewN (1 + m2)):=qnq (qrq _ _) _
     have hB9:=HOB.out.later hbd
     have hO9:=HO.out.later hbd
     have hM9:Mv [242] w.heap.size w7 (w7.drewN (1 + m2)):=Mv.of_below hbd HM.out.size
     have hlt9:w.heap.size ≤ W2.heap.size:=hlo5
     have hBx:=((hB9.set (j:=2) (by simp) (.int .i64 fr.fn)).set (j:=3) (by simp) (.int .i64 fr.line)).set (j:=4) (by simp) (.int .i64 fr.frm)
     generalize hW9:World.setCell (World.setCell (World.setCell _ _ _) _ _) _ _=w9 at hBx ⊢
     have hset:Mv [242] w.heap.size w7 w9:=by
      rw [← hW9]
      have m1:=hM9.set (p:=⟨W2.heap.size,2,none⟩) hlt9 hB9 (by decide) (.int .i64 fr.fn)
      have m2':=m1.set (p:=⟨W2.heap.size,3,none⟩) hlt9 (hB9.set (j:=2) (by simp) _) (by decide) (.int .i64 fr.line)
      exact m2'.set (p:=⟨W2.heap.size,4,none⟩) hlt9 ((hB9.set (j:=2) (by simp) _).set (j:=3) (by simp) _) (by decide) (.int .i64 fr.frm)
     have hOx:OwR w9 w.heap.size 242 5 n (ownC t.moms) (.slice A3 n c3):=by
      rw [← hW9]
      have hfar:∀ j,(Value.slice A3 n c3).ownBlock ≠ some (⟨W2.heap.size,j,none⟩:Addr).block:=fun j hh=>by have:=HOLT.out _ hh;dsimp only at this;omega
      exact ((hO9.far (hfar _) _).far (hfar _) _).far (hfar _) _
     clear hbd hB9 hO9 hM9 hW9 o2 o3 o4 z2 z3 z4 k0 k1 k2 e0 e1 e2
     replace HO:=qhq hOx
     replace HOB:=qhq hBx
     replace HX:=qhq (HX.out.mv hset (by decide))
     replace HSS:=qhq (HSS.out.mv hset (by decide) (by decide) (by decide))
     replace HMB:=qhq (HMB.out.mv hset (by decide))
     replace HM:=qhq (HM.out.trans (hset.mono (by decide)))
     clear hset hOx hBx
     have o0:w9.cell? ⟨W2.heap.size,0,none⟩=some (.bool true):=by have:=HOB.out.cell (j:=0) (by simp);simpa [upd] using this
     have o1:w9.cell? ⟨W2.heap.size,1,none⟩=some (.int .i64 (shownS t.moms n).cur):=by have:=HOB.out.cell (j:=1) (by simp);simpa [upd] using this
     have o2:w9.cell? ⟨W2.heap.size,2,none⟩=some (.int .i64 fr.fn):=by have:=HOB.out.cell (j:=2) (by simp);simpa [upd] using this
     have o3:w9.cell? ⟨W2.heap.size,3,none⟩=some (.int .i64 fr.line):=by have:=HOB.out.cell (j:=3) (by simp);simpa [upd] using this
     have o4:w9.cell? ⟨W2.heap.size,4,none⟩=some (.int .i64 fr.frm):=by have:=HOB.out.cell (j:=4) (by simp);simpa [upd] using this
     have hsl:=HM.out.size
     go_wp2_with (at_builtin;refine stopped ?_)
     unfold Stopped
     refine wpList_append1 _ (by rfl) _ _ 209 (by rfl) w.heap.size 242 _ 5 40 Tryz.underlying209 i_owner rfl (by omega) _ n _ (ownC t.moms) (by rfl) HO.out [.bool true,.int .i64 (shownS t.moms n).cur,.int .i64 fr.fn,.int .i64 fr.line,.int .i64 fr.frm] rfl (by simp [Value.oneCell']) (by rfl) (fun _ _ _ _=>rfl) ?hNb hsl (by omega) (by omega) ?_
     case hNb =>
      exact own_cons HL.out
     intro ga cg w8 hO8 hG8 _ _
     have hmv8:Mv [242] w.heap.size w9 w8:=(Mv.refl _ _ _).grown HM.out.size hG8 (fun b hb=>by obtain ⟨N,F,hBk⟩:=HO.out.block hb;exact ⟨(HO.out.lt b hb).1,_,N,F,hBk,by decide⟩)
     replace HX:=qhq (HX.out.mv hmv8 (by decide))
     replace HSS:=qhq (HSS.out.mv hmv8 (by decide) (by decide) (by decide))
     replace HMB:=qhq (HMB.out.mv hmv8 (by decide))
     replace HM:=qhq (HM.out.trans (hmv8.mono (by decide)))
     clear HO hmv8 hG8 hsl
     have HO:=qhq hO8
     clear hO8
     have y0:w8.cell? ⟨wr.heap.size,0,none⟩=some (.int .i64 (elt t.moms n).kind):=HMB.out.cell (j:=0) (by simp)
     have y1:w8.cell? ⟨wr.heap.size,1,none⟩=some (.int .i64 (elt t.moms n).task):=HMB.out.cell (j:=1) (by simp)
     have y2:w8.cell? ⟨wr.heap.size,2,none⟩=some (.int .i64 (elt t.moms n).fn):=HMB.out.cell (j:=2) (by simp)
     have y3:w8.cell? ⟨wr.heap.size,3,none⟩=some (.int .i64 (elt t.moms n).line):=HMB.out.cell (j:=3) (by simp)
     have y4:w8.cell? ⟨wr.heap.size,4,none⟩=some (.string (elt t.moms n).text):=HMB.out.cell (j:=4) (by simp)
     have y5:w8.cell? ⟨wr.heap.size,5,none⟩=some (.slice Av (elt t.moms n).vars.length cv):=HMB.out.cell (j:=5) (by simp)
     have hss:shownS t.moms n=stN t.moms n:=by unfold shownS;rw [if_pos HK.out]
     rw [hss] at HSS
     clear hss
     go_wp2_with fail
     refine (move_calls _ g T _ _ (elt t.moms n) _ _ _ n n _ HSS.out HI.out).mono ?_
     rintro e w10 ⟨rfl,hmv,hst⟩
     obtain ⟨f',hS'⟩:=hst (SO.out.moves n h2)
     replace hS':IsS w10 w.heap.size g T (stN t.moms (n + 1)) f':=hS'
     replace HX:=qhq (HX.out.mv hmv (by decide))
     replace HO:=qhq (HO.out.mv hmv (by decide))
     replace HM:=qhq (HM.out.trans (hmv.mono (by decide)))
     clear HSS hmv hst
     have HSS:=qhq hS'
     clear hS' y0 y1 y2 y3 y4 y5
     go_wp2
     go_roundw
     case rel=>exact ⟨n + 1,f',by omega,by go_num,HSS.out,HO.out,HM.out,HX.out⟩
     case measure=>simp [intOf];omega
   ·have hd1:((elt t.moms n).kind != 3)=true:=by simp [k3]
    have hd2:((elt t.moms n).kind == 3)=false:=by simp [k3]
    have HK:=qhq k3
    have y1:W2.cell? ⟨wr.heap.size,1,none⟩=some (.int .i64 (elt t.moms n).task):=HMB.out.cell (j:=1) (by simp)
    have y2:W2.cell? ⟨wr.heap.size,2,none⟩=some (.int .i64 (elt t.moms n).fn):=HMB.out.cell (j:=2) (by simp)
    have y3:W2.cell? ⟨wr.heap.size,3,none⟩=some (.int .i64 (elt t.moms n).line):=HMB.out.cell (j:=3) (by simp)
    have y4:W2.cell? ⟨wr.heap.size,4,none⟩=some (.string (elt t.moms n).text):=HMB.out.cell (j:=4) (by simp)
    have y5:W2.cell? ⟨wr.heap.size,5,none⟩=some (.slice Av (elt t.moms n).vars.length cv):=HMB.out.cell (j:=5) (by simp)
    clear k3
    go_wp2_with fail
    refine (move_calls _ g T _ _ (elt t.moms n) _ _ _ n n _ HSS.out HI.out).mono ?_
    rintro e w3 ⟨rfl,hmv,hst⟩
    obtain ⟨f',hS'⟩:=hst (SO.out.moves n h2)
    replace hS':IsS w3 w.heap.size g T (shownS t.moms n) f':=by
     have:shownS t.moms n=stN t.moms (n + 1):=by unfold shownS;rw [if_neg HK.out]
     rw [this];exact hS'
    clear HSS
    have HSS:=qhq hS'
    replace HMB:=qhq (HMB.out.mv hmv (by decide))
    replace HX:=qhq (HX.out.mv hmv (by decide))
    replace HO:=qhq (HO.out.mv hmv (by decide))
    replace HM:=qhq (HM.out.trans (hmv.mono (by decide)))
    clear hmv hst hS' y0 y1 y2 y3 y4 y5
    have y0:w3.cell? ⟨wr.heap.size,0,none⟩=some (.int .i64 (elt t.moms n).kind):=HMB.out.cell (j:=0) (by simp)
    have c0:w3.cell? ⟨g,1,none⟩=some (.int .i64 (shownS t.moms n).cur):=HSS.out.blk.cell (j:=1) (by omega)
    have hbb:wr.heap.size < w3.heap.size:=HMB.out.lt
    have HOLT:Hid (∀ b',(Value.slice A3 n c3).ownBlock=some b' → b' < w3.heap.size):=qhq (fun b' hb'=>(HO.out.lt b' hb').2)
    go_upto_region 9 with fail
    have HOB:Hid (Blk (w3.alloc _) w3.heap.size 242 5 _):=qhq (Blk.made w3 #[.bool false,.int .i64 (shownS t.moms n).cur,.int .i64 0,.int .i64 0,.int .i64 0] 242)
    generalize hW5:World.alloc w3 _=W5 at HOB ⊢
    have hbl:Below w3.heap.size w3 W5:=by rw [← hW5];exact qaq (qrq _ _) _
    have hlo5:=HM.out.size
    clear hW5 c0 y0
    replace HM:=qhq (HM.out.then HM.out.size hbl)
    replace HX:=qhq (HX.out.later hbl)
    replace HO:=qhq (HO.out.later hbl)
    replace HSS:=qhq (HSS.out.later hbl)
    replace HMB:=qhq (HMB.out.later hbl)
    clear hbl
    go_wp2_with fail
    cases hL:(shownS t.moms n).top with
    | nil =>
     have HL:=qhq hL
     clear hL
     refine (top_nil _ g T _ _ _ HSS.out q0 q1 HL.out).mono ?_;rintro e w6 ⟨rfl,m',rfl⟩
     generalize hW6:World.drewN W5 m'=w6
     have hbl:Below W5.heap.size W5 w6:=by rw [← hW6];exact qnq (qrq _ _) _
     have hlo6:=HM.out.size
     clear hW6
     replace HM:=qhq (HM.out.then HM.out.size hbl)
     replace HX:=qhq (HX.out.later hbl)
     replace HO:=qhq (HO.out.later hbl)
     replace HSS:=qhq (HSS.out.later hbl)
     replace HMB:=qhq (HMB.out.later hbl)
     replace HOB:=qhq (HOB.out.later hbl)
     clear hbl
     have o0:w6.cell? ⟨w3.heap.size,0,none⟩=some (.bool false):=HOB.out.cell (j:=0) (by simp)
     have o1:w6.cell? ⟨w3.heap.size,1,none⟩=some (.int .i64 (shownS t.moms n).cur):=HOB.out.cell (j:=1) (by simp)
     have o2:w6.cell? ⟨w3.heap.size,2,none⟩=some (.int .i64 0):=HOB.out.cell (j:=2) (by simp)
     have o3:w6.cell? ⟨w3.heap.size,3,none⟩=some (.int .i64 0):=HOB.out.cell (j:=3) (by simp)
     have o4:w6.cell? ⟨w3.heap.size,4,none⟩=some (.int .i64 0):=HOB.out.cell (j:=4) (by simp)
     have hsl:=HM.out.size
     go_wp2_with (at_builtin;refine stopped ?_)
     unfold Stopped
     refine wpList_append1 _ (by rfl) _ _ 209 (by rfl) w.heap.size 242 _ 5 40 Tryz.underlying209 i_owner rfl (by omega) _ n _ (ownC t.moms) (by rfl) HO.out [.bool false,.int .i64 (shownS t.moms n).cur,.int .i64 0,.int .i64 0,.int .i64 0] rfl (by simp [Value.oneCell']) (by rfl) (fun _ _ _ _=>rfl) ?hNa hsl (by omega) (by omega) ?_
     case hNa =>
      exact own_nil HL.out
     intro ga cg w8 hO8 hG8 _ _
     have hmv8:Mv [242] w.heap.size w6 w8:=(Mv.refl _ _ _).grown HM.out.size hG8 (fun b hb=>by obtain ⟨N,F,hBk⟩:=HO.out.block hb;exact ⟨(HO.out.lt b hb).1,_,N,F,hBk,by decide⟩)
     replace HX:=qhq (HX.out.mv hmv8 (by decide))
     replace HSS:=qhq (HSS.out.mv hmv8 (by decide) (by decide) (by decide))
     replace HMB:=qhq (HMB.out.mv hmv8 (by decide))
     replace HM:=qhq (HM.out.trans (hmv8.mono (by decide)))
     clear HO hmv8 hG8 hsl
     have HO:=qhq hO8
     clear hO8
     have y0:w8.cell? ⟨wr.heap.size,0,none⟩=some (.int .i64 (elt t.moms n).kind):=HMB.out.cell (j:=0) (by simp)
     go_wp2
     go_roundw
     case rel =>
      have hss:shownS t.moms n=stN t.moms (n + 1):=by unfold shownS;rw [if_neg HK.out]
      exact ⟨n + 1,f',by omega,by go_num,by rw [← hss];exact HSS.out,HO.out,HM.out,HX.out⟩
     case measure=>simp [intOf];omega
    | cons fr r =>
     have HL:=qhq hL
     clear hL
     refine (top_cons _ g T _ _ _ HSS.out q0 q1 HL.out).mono ?_;rintro e w6 ⟨rfl,m',rfl⟩
     generalize hW6:World.drewN W5 m'=w6
     have hbl:Below W5.heap.size W5 w6:=by rw [← hW6];exact qnq (qrq _ _) _
     have hlo6:=HM.out.size
     clear hW6
     replace HM:=qhq (HM.out.then HM.out.size hbl)
     replace HX:=qhq (HX.out.later hbl)
     replace HO:=qhq (HO.out.later hbl)
     replace HSS:=qhq (HSS.out.later hbl)
     replace HMB:=qhq (HMB.out.later hbl)
     replace HOB:=qhq (HOB.out.later hbl)
     clear hbl
     have hi0:(0:Int) ≤ (r.length:Int):=by omega
     have o0:w6.cell? ⟨w3.heap.size,0,none⟩=some (.bool false):=HOB.out.cell (j:=0) (by simp)
     have z0:=HOB.out.free 0
     go_upto_region 11 with fail
     generalize hW7:World.setCell w6 _ _=w7
     have hset:Mv [242] w.heap.size w6 w7:=by rw [← hW7];exact (Mv.refl _ _ _).set (by dsimp only;omega) HOB.out (by decide) _
     replace HOB:Hid (Blk w7 w3.heap.size 242 5 _):=qhq (by rw [← hW7];exact HOB.out.set (j:=0) (by simp) (.bool true))
     replace HO:Hid (OwR w7 w.heap.size 242 5 n (ownC t.moms) (.slice A3 n c3)):=qhq (by rw [← hW7];exact HO.out.far (p:=⟨w3.heap.size,0,none⟩) (fun hh=>by have:=HOLT.out _ hh;dsimp only at this;omega) _)
     replace HX:=qhq (HX.out.mv hset (by decide))
     replace HSS:=qhq (HSS.out.mv hset (by decide) (by decide) (by decide))
     replace HMB:=qhq (HMB.out.mv hset (by decide))
     replace HM:=qhq (HM.out.trans (hset.mono (by decide)))
     clear hW7 hset o0 z0
     obtain ⟨b',cap,k0,k1,k2,hc1,hc2,hv,hrow,e0,e1,e2,hfz,-⟩:=HSS.out.tops q0 q1 HL.out
     obtain ⟨n1,hn1⟩:∃ n1,n1=r.length + 1:=⟨_,rfl⟩
     rw [← hn1] at k2 hc1
     have hi1:(r.length:Int) < (n1:Int):=by omega
     have hx:(shownS t.moms n).cur < 101:=by omega
     have hi3:(r.length:Int).toNat=r.length:=by simp
     have o2:w7.cell? ⟨w3.heap.size,2,none⟩=some (.int .i64 0):=HOB.out.cell (j:=2) (by simp)
     have o3:w7.cell? ⟨w3.heap.size,3,none⟩=some (.int .i64 0):=HOB.out.cell (j:=3) (by simp)
     have o4:w7.cell? ⟨w3.heap.size,4,none⟩=some (.int .i64 0):=HOB.out.cell (j:=4) (by simp)
     have z2:=HOB.out.free 2
     have z3:=HOB.out.free 3
     have z4:=HOB.out.free 4
     have hS0:∃ m,w7.drew=w7.drewN m:=⟨1,rfl⟩
     have HS0:=qhq hS0
     clear hS0 hv hrow hfz hn1
     refine wp_region_F 15 (fun w':World=>∃ m,w'=w7.drewN m) (by kernel_rfl) ?_
     refine wpAnyF_take 0 (v:=?v0w3) (by rfl) (by kernel_rfl) (by intro _ _ _ h;exact h) HS0.out (by rfl) ?hy0w3 ?rest0w3
     case hy0w3 =>
      intro w' hSw
      obtain ⟨m,rfl⟩:=hSw
      go_simp
      try with_reducible rfl
     simp only [Act.put,q1q,q2q,q3q]
     refine wpAnyF_take 1 (v:=?v1w3) (by rfl) (by kernel_rfl) (by intro _ _ _ h;exact h) HS0.out (by rfl) ?hy1w3 ?rest1w3
     case hy1w3 =>
      intro w' hSw
      obtain ⟨m,rfl⟩:=hSw
      go_simp
      try with_reducible rfl
     simp only [Act.put,q1q,q2q,q3q]
     refine wpAnyF_take 2 (v:=?v2w3) (by rfl) (by kernel_rfl) (by intro _ _ _ h;exact h) HS0.out (by rfl) ?hy2w3 ?rest2w3
     case hy2w3 =>
      intro w' hSw
      obtain ⟨m,rfl⟩:=hSw
      go_simp
      try with_reducible rfl
     simp only [Act.put,q1q,q2q,q3q]
     refine wpAnyF_take 3 (v:=?v3w3) (by rfl) (by kernel_rfl) (by intro _ _ _ h;exact h) HS0.out (by rfl) ?hy3w3 ?rest3w3
     case hy3w3 =>
      intro w' hSw
      obtain ⟨m,rfl⟩:=hSw
      go_simp
      try with_reducible rfl
     simp only [Act.put,q1q,q2q,q3q]
     refine wpAnyF_take 4 (v:=?v4w3) (by rfl) (by kernel_rfl) (by intro _ _ _ h;exact h) HS0.out (by rfl) ?hy4w3 ?rest4w3
     case hy4w3 =>
      intro w' hSw
      obtain ⟨m,rfl⟩:=hSw
      go_simp
      try with_reducible rfl
     simp only [Act.put,q1q,q2q,q3q]
     refine wpAnyF_take 5 (v:=?v5w3) (by rfl) (by kernel_rfl) (by intro _ _ _ h;exact h) HS0.out (by rfl) ?hy5w3 ?rest5w3
     case hy5w3 =>
      intro w' hSw
      obtain ⟨m,rfl⟩:=hSw
      go_simp
      try with_reducible rfl
     simp only [Act.put,q1q,q2q,q3q]
     refine wpAnyF_take 6 (v:=?v6w3) (by rfl) (by kernel_rfl) (by intro _ _ _ h;exact h) HS0.out (by rfl) ?hy6w3 ?rest6w3
     case hy6w3 =>
      intro w' hSw
      obtain ⟨m,rfl⟩:=hSw
      go_simp
      try with_reducible rfl
     simp only [Act.put,q1q,q2q,q3q]
     refine wpAnyF_take 7 (v:=?v7w3) (by rfl) (by kernel_rfl) (by intro _ _ _ h;exact h) HS0.out (by rfl) ?hy7w3 ?rest7w3
     case hy7w3 =>
      intro w' hSw
      obtain ⟨m,rfl⟩:=hSw
      go_simp
      try with_reducible rfl
     simp only [Act.put,q1q,q2q,q3q]
     refine wpAnyF_take 8 (v:=?v8w3) (by rfl) (by kernel_rfl) (by intro _ _ _ h;exact h) HS0.out (by rfl) ?hy8w3 ?rest8w3
     case hy8w3 =>
      intro w' hSw
      obtain ⟨m,rfl⟩:=hSw
      go_simp
      try with_reducible rfl
     simp only [Act.put,q1q,q2q,q3q]
     refine wpAnyF_take 9 (v:=?v9w3) (by rfl) (by kernel_rfl) (by intro _ _ _ h;exact h) HS0.out (by rfl) ?hy9w3 ?rest9w3
     case hy9w3 =>
      intro w' hSw
      obtain ⟨m,rfl⟩:=hSw
      go_simp
      try with_reducible rfl
     simp only [Act.put,q1q,q2q,q3q]
     refine wpAnyF_take 10 (v:=?v10w3) (by rfl) (by kernel_rfl) (by intro _ _ _ h;exact h) HS0.out (by rfl) ?hy10w3 ?rest10w3
     case hy10w3 =>
      intro w' hSw
      obtain ⟨m,rfl⟩:=hSw
      go_simp
      try with_reducible rfl
     simp only [Act.put,q1q,q2q,q3q]
     refine wpAnyF_one 11 (by rfl) (by kernel_rfl) rfl ?_
     intro K hK
     go_simp
     refine (top_cons _ g T _ _ _ (HSS.out.later (bl_drew (qrq _ _))) q0 q1 HL.out).mono ?_
     rintro e w8 ⟨rfl,m2,rfl⟩
     dsimp only
     have HS1:Hid (∃ m,w7.drew.drewN m2=w7.drewN m):=qhq ⟨1 + m2,World.drewN_drewN _ _ _⟩
     refine hK.out _ _ (fun _=>HS1.out) ?_
     clear hK K
     refine wpAnyF_take 12 (v:=?v12w3) (by rfl) (by kernel_rfl) (by intro _ _ _ h;exact h) HS1.out (by rfl) ?hy12w3 ?rest12w3
     case hy12w3 =>
      intro w' hSw
      obtain ⟨m,rfl⟩:=hSw
      go_simp
      try with_reducible rfl
     simp only [Act.put,q1q,q2q,q3q]
     refine wpAnyF_take 13 (v:=?v13w3) (by rfl) (by kernel_rfl) (by intro _ _ _ h;exact h) HS1.out (by rfl) ?hy13w3 ?rest13w3
     case hy13w3 =>
      intro w' hSw
      obtain ⟨m,rfl⟩:=hSw
      go_simp
      try with_reducible rfl
     simp only [Act.put,q1q,q2q,q3q]
     refine wpAnyF_take 14 (v:=?v14w3) (by rfl) (by kernel_rfl) (by intro _ _ _ h;exact h) HS1.out (by rfl) ?hy14w3 ?rest14w3
     case hy14w3 =>
      intro w' hSw
      obtain ⟨m,rfl⟩:=hSw
      go_simp
      try with_reducible rfl
     simp only [Act.put,q1q,q2q,q3q]
     refine wpAnyF_one 15 (by rfl) (by kernel_rfl) rfl ?_
     intro K hK
     go_simp
     refine hK.out _ _ (fun h=>absurd rfl h) ?_
     clear hK K
     refine wpAnyF_done (by kernel_rfl) ?_ _
     have hbd:Below w7.heap.size w7 (w7.drewN (1 + m2)):=qnq (qrq _ _) _
     have hB9:=HOB.out.later hbd
     have hO9:=HO.out.later hbd
     have hM9:Mv [242] w.heap.size w7 (w7.drewN (1 + m2)):=Mv.of_below hbd HM.out.size
     have hlt9:w.heap.size ≤ w3.heap.size:=hlo5
     have hBx:=((hB9.set (j:=2) (by simp) (.int .i64 fr.fn)).set (j:=3) (by simp) (.int .i64 fr.line)).set (j:=4) (by simp) (.int .i64 fr.frm)
     generalize hW9:World.setCell (World.setCell (World.setCell _ _ _) _ _) _ _=w9 at hBx ⊢
     have hset:Mv [242] w.heap.size w7 w9:=by
      rw [← hW9]
      have m1:=hM9.set (p:=⟨w3.heap.size,2,none⟩) hlt9 hB9 (by decide) (.int .i64 fr.fn)
      have m2':=m1.set (p:=⟨w3.heap.size,3,none⟩) hlt9 (hB9.set (j:=2) (by simp) _) (by decide) (.int .i64 fr.line)
      exact m2'.set (p:=⟨w3.heap.size,4,none⟩) hlt9 ((hB9.set (j:=2) (by simp) _).set (j:=3) (by simp) _) (by decide) (.int .i64 fr.frm)
     have hOx:OwR w9 w.heap.size 242 5 n (ownC t.moms) (.slice A3 n c3):=by
      rw [← hW9]
      have hfar:∀ j,(Value.slice A3 n c3).ownBlock ≠ some (⟨w3.heap.size,j,none⟩:Addr).block:=fun j hh=>by have:=HOLT.out _ hh;dsimp only at this;omega
      exact ((hO9.far (hfar _) _).far (hfar _) _).far (hfar _) _
     clear hbd hB9 hO9 hM9 hW9 o2 o3 o4 z2 z3 z4 k0 k1 k2 e0 e1 e2
     replace HO:=qhq hOx
     replace HOB:=qhq hBx
     replace HX:=qhq (HX.out.mv hset (by decide))
     replace HSS:=qhq (HSS.out.mv hset (by decide) (by decide) (by decide))
     replace HMB:=qhq (HMB.out.mv hset (by decide))
     replace HM:=qhq (HM.out.trans (hset.mono (by decide)))
     clear hset hOx hBx
     have o0:w9.cell? ⟨w3.heap.size,0,none⟩=some (.bool true):=by have:=HOB.out.cell (j:=0) (by simp);simpa [upd] using this
     have o1:w9.cell? ⟨w3.heap.size,1,none⟩=some (.int .i64 (shownS t.moms n).cur):=by have:=HOB.out.cell (j:=1) (by simp);simpa [upd] using this
     have o2:w9.cell? ⟨w3.heap.size,2,none⟩=some (.int .i64 fr.fn):=by have:=HOB.out.cell (j:=2) (by simp);simpa [upd] using this
     have o3:w9.cell? ⟨w3.heap.size,3,none⟩=some (.int .i64 fr.line):=by have:=HOB.out.cell (j:=3) (by simp);simpa [upd] using this
     have o4:w9.cell? ⟨w3.heap.size,4,none⟩=some (.int .i64 fr.frm):=by have:=HOB.out.cell (j:=4) (by simp);simpa [upd] using this
     have hsl:=HM.out.size
     go_wp2_with (at_builtin;refine stopped ?_)
     unfold Stopped
     refine wpList_append1 _ (by rfl) _ _ 209 (by rfl) w.heap.size 242 _ 5 40 Tryz.underlying209 i_owner rfl (by omega) _ n _ (ownC t.moms) (by rfl) HO.out [.bool true,.int .i64 (shownS t.moms n).cur,.int .i64 fr.fn,.int .i64 fr.line,.int .i64 fr.frm] rfl (by simp [Value.oneCell']) (by rfl) (fun _ _ _ _=>rfl) ?hNb hsl (by omega) (by omega) ?_
     case hNb =>
      exact own_cons HL.out
     intro ga cg w8 hO8 hG8 _ _
     have hmv8:Mv [242] w.heap.size w9 w8:=(Mv.refl _ _ _).grown HM.out.size hG8 (fun b hb=>by obtain ⟨N,F,hBk⟩:=HO.out.block hb;exact ⟨(HO.out.lt b hb).1,_,N,F,hBk,by decide⟩)
     replace HX:=qhq (HX.out.mv hmv8 (by decide))
     replace HSS:=qhq (HSS.out.mv hmv8 (by decide) (by decide) (by decide))
     replace HMB:=qhq (HMB.out.mv hmv8 (by decide))
     replace HM:=qhq (HM.out.trans (hmv8.mono (by decide)))
     clear HO hmv8 hG8 hsl
     have HO:=qhq hO8
     clear hO8
     have y0:w8.cell? ⟨wr.heap.size,0,none⟩=some (.int .i64 (elt t.moms n).kind):=HMB.out.cell (j:=0) (by simp)
     go_wp2
     go_roundw
     case rel =>
      have hss:shownS t.moms n=stN t.moms (n + 1):=by unfold shownS;rw [if_neg HK.out]
      exact ⟨n + 1,f',by omega,by go_num,by rw [← hss];exact HSS.out,HO.out,HM.out,HX.out⟩
     case measure=>simp [intOf];omega
  ·obtain rfl:n=t.moms.length:=by omega
   go_wp2
   go_ret
   exact ⟨_,rfl,HO.out,HM.out.bl⟩
end Go.Proofs.YtcklnjjbhngbcaaGreatDoor
