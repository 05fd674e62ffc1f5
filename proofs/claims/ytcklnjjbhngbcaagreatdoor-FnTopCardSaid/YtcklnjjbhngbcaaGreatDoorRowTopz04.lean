/- Lemmas and contracts of functions that the theorem of this claim leans on (texts U2). -/
import Derived.Test.YtcklnjjbhngbcaaGreatDoorRowTopz00
import Derived.Deep.CutBlock
import Derived.Test.YtcklnjjbhngbcaaGreatDoorRowTopz03
import Derived.Test.YtcklnjjbhngbcaaGreatDoorRowUnz05
namespace Go.Proofs.YtcklnjjbhngbcaaGreatDoor
open Go.RowKit Go.Proofs.Lens
theorem i_ask9:(Tryz.prog.info? 47).map (fun i=>(i.zero,i.size,i.bytes))=some (some (.agg #[.int .i64 0,.int .i64 0,.string ⟨#[]⟩,.int .i64 0,.int .i64 0,.int .i64 0,.string ⟨#[]⟩]),7,72):=by kernel_rfl
def akF (a:PAsk) (j:Nat):Value:=#[Value.int .i64 a.op,.int .i64 a.n,.string a.nm,.int .i64 a.stop.kind,.int .i64 a.stop.fn,.int .i64 a.stop.line,.string a.stop.nm].getD j undef
theorem akC_old (xs:List PAsk) (a:PAsk) {i:Nat} (hi:i < xs.length) (j:Nat):askC xs i j=askC (xs ++ [a]) i j:=by
 unfold askC;rw [elt_app _ _ hi]
theorem akC_new (xs:List PAsk) (a:PAsk) {j:Nat} (hj:j < 7):[Value.int .i64 a.op,.int .i64 a.n,.string a.nm,.int .i64 a.stop.kind,.int .i64 a.stop.fn,.int .i64 a.stop.line,.string a.stop.nm][j]?=some (askC (xs ++ [a]) xs.length j):=by
 unfold askC;rw [elt_last]
 match j,hj with
 | 0,_=>rfl
 | 1,_=>rfl
 | 2,_=>rfl
 | 3,_=>rfl
 | 4,_=>rfl
 | 5,_=>rfl
 | 6,_=>rfl
def smA (a:PAsk):Prop:=a.nm.size ≤ 1 ∧ a.stop.nm.size ≤ 1
def smAs (xs:List PAsk):Prop:=∀ i,i < xs.length → smA (elt xs i)
theorem smAs.snoc {xs:List PAsk} {a:PAsk} (h:smAs xs) (ha:smA a):smAs (xs ++ [a]):=by
 intro i hi
 rw [List.length_append,List.length_singleton] at hi
 by_cases e:i < xs.length
 ·rw [elt_app _ _ e];exact h i e
 ·obtain rfl:i=xs.length:=by omega
  rw [elt_last];exact ha
structure AkS (w:World) (g ab:Nat) (cv v1 v2:Value) (xs:List PAsk) (ov:Value) (a:PAsk) (c:Cu) (W:World):Prop where
 bx:Blk W ab 47 7 (akF a)
 tx:Blk W w.heap.size 26 2 (trF v1 v2)
 ow:OwR W w.heap.size 47 7 xs.length (askC xs) ov
 cu:CuAt W g cv c
 mv:Mv [72] g w W
 hg:g < w.heap.size
 hb:w.heap.size < ab
 nb:∀ b,ov.ownBlock=some b → b < ab
 sm:smA a
section
variable {w W W' : World} {g ab : Nat} {cv v1 v2 ov : Value} {xs : List PAsk} {a : PAsk} {c c' : Cu}
theorem AkS.pick (h:AkS w g ab cv v1 v2 xs ov a c W) (hC:CuAt W' g cv c') (hm:Mv [72] g W W'):AkS w g ab cv v1 v2 xs ov a c' W' :=
 ⟨h.bx.mv hm (by decide),h.tx.mv hm (by decide),h.ow.mv hm (by decide),hC,h.mv.trans hm,h.hg,h.hb,h.nb,h.sm⟩
theorem AkS.alloc (h:AkS w g ab cv v1 v2 xs ov a c W) (o:Obj):AkS w g ab cv v1 v2 xs ov a c (W.alloc o) :=
 ⟨h.bx.alloc o,h.tx.alloc o,h.ow.later (qaq (qrq _ _) o),h.cu.later (qaq (qrq _ _) o),h.mv.alloc (by have:=h.cu.blk.lt;omega) o,h.hg,h.hb,h.nb,h.sm⟩
theorem AkS.set (h:AkS w g ab cv v1 v2 xs ov a c W) {j:Nat} (hj:j < 7) (u:Value) (a':PAsk) (hF:∀ i,i < 7 → upd (akF a) j u i=akF a' i) (hs:smA a'):AkS w g ab cv v1 v2 xs ov a' c (W.setCell ⟨ab,j,none⟩ u) :=
 ⟨(h.bx.set hj u).congr hF,h.tx.far (by have:=h.hb;dsimp only;omega) u,h.ow.far (fun hh=>by have:=h.nb _ hh;dsimp only at this;omega) u,⟨h.cu.blk.far (by have:=h.hb;have:=h.hg;dsimp only;omega) u,h.cu.sd⟩,
  h.mv.setNew (p:=⟨ab,j,none⟩) (by have:=h.hb;have:=h.hg;dsimp only;omega) (by have:=h.hb;dsimp only;omega) u,h.hg,h.hb,h.nb,hs⟩
theorem AkS.op (h:AkS w g ab cv v1 v2 xs ov a c W) (x:Int):AkS w g ab cv v1 v2 xs ov ⟨x,a.n,a.nm,a.stop⟩ c (W.setCell ⟨ab,0,none⟩ (.int .i64 x)) :=
 h.set (by omega) _ _ (fun i hi=>by match i,hi with | 0,_=>rfl | 1,_=>rfl | 2,_=>rfl | 3,_=>rfl | 4,_=>rfl | 5,_=>rfl | 6,_=>rfl) h.sm
theorem AkS.n (h:AkS w g ab cv v1 v2 xs ov a c W) (x:Int):AkS w g ab cv v1 v2 xs ov ⟨a.op,x,a.nm,a.stop⟩ c (W.setCell ⟨ab,1,none⟩ (.int .i64 x)) :=
 h.set (by omega) _ _ (fun i hi=>by match i,hi with | 0,_=>rfl | 1,_=>rfl | 2,_=>rfl | 3,_=>rfl | 4,_=>rfl | 5,_=>rfl | 6,_=>rfl) h.sm
theorem AkS.nm (h:AkS w g ab cv v1 v2 xs ov a c W) (x:ByteArray) (hx:x.size ≤ 1):AkS w g ab cv v1 v2 xs ov ⟨a.op,a.n,x,a.stop⟩ c (W.setCell ⟨ab,2,none⟩ (.string x)) :=
 h.set (by omega) _ _ (fun i hi=>by match i,hi with | 0,_=>rfl | 1,_=>rfl | 2,_=>rfl | 3,_=>rfl | 4,_=>rfl | 5,_=>rfl | 6,_=>rfl) ⟨hx,h.sm.2⟩
theorem AkS.stop (h:AkS w g ab cv v1 v2 xs ov a c W) (p:PStop) (hp:p.nm.size ≤ 1) :
  AkS w g ab cv v1 v2 xs ov ⟨a.op,a.n,a.nm,p⟩ c ((((W.setCell ⟨ab,3,none⟩ (.int .i64 p.kind)).setCell ⟨ab,4,none⟩ (.int .i64 p.fn)).setCell ⟨ab,5,none⟩ (.int .i64 p.line)).setCell ⟨ab,6,none⟩ (.string p.nm)) :=
 (((h.set (j:=3) (by omega) (.int .i64 p.kind) ⟨a.op,a.n,a.nm,⟨p.kind,a.stop.fn,a.stop.line,a.stop.nm⟩⟩ (fun i hi=>by match i,hi with | 0,_=>rfl | 1,_=>rfl | 2,_=>rfl | 3,_=>rfl | 4,_=>rfl | 5,_=>rfl | 6,_=>rfl) h.sm).set (j:=4) (by omega) (.int .i64 p.fn) ⟨a.op,a.n,a.nm,⟨p.kind,p.fn,a.stop.line,a.stop.nm⟩⟩ (fun i hi=>by match i,hi with | 0,_=>rfl | 1,_=>rfl | 2,_=>rfl | 3,_=>rfl | 4,_=>rfl | 5,_=>rfl | 6,_=>rfl) h.sm).set (j:=5) (by omega) (.int .i64 p.line) ⟨a.op,a.n,a.nm,⟨p.kind,p.fn,p.line,a.stop.nm⟩⟩ (fun i hi=>by match i,hi with | 0,_=>rfl | 1,_=>rfl | 2,_=>rfl | 3,_=>rfl | 4,_=>rfl | 5,_=>rfl | 6,_=>rfl) h.sm).set (j:=6) (by omega) (.string p.nm) ⟨a.op,a.n,a.nm,p⟩ (fun i hi=>by match i,hi with | 0,_=>rfl | 1,_=>rfl | 2,_=>rfl | 3,_=>rfl | 4,_=>rfl | 5,_=>rfl | 6,_=>rfl) ⟨h.sm.1,hp⟩
theorem AkS.cells (h:AkS w g ab cv v1 v2 xs ov a c W):(W.cell? ⟨ab,0,none⟩=some (.int .i64 a.op) ∧ W.cell? ⟨ab,1,none⟩=some (.int .i64 a.n) ∧ W.cell? ⟨ab,2,none⟩=some (.string a.nm) ∧ W.cell? ⟨ab,3,none⟩=some (.int .i64 a.stop.kind) ∧ W.cell? ⟨ab,4,none⟩=some (.int .i64 a.stop.fn) ∧ W.cell? ⟨ab,5,none⟩=some (.int .i64 a.stop.line) ∧ W.cell? ⟨ab,6,none⟩=some (.string a.stop.nm)) ∧ ∀ j,W.frozen? ⟨ab,j,none⟩=false :=
 ⟨⟨h.bx.cell (j:=0) (by omega),h.bx.cell (j:=1) (by omega),h.bx.cell (j:=2) (by omega),h.bx.cell (j:=3) (by omega),h.bx.cell (j:=4) (by omega),h.bx.cell (j:=5) (by omega),h.bx.cell (j:=6) (by omega)⟩,h.bx.free⟩
theorem AkS.low (h:AkS w g ab cv v1 v2 xs ov a c W) {w0:World} (hb:Below w0.heap.size w0 w) (hg:w0.heap.size ≤ g):Below w0.heap.size w0 W:=bl_trans9 hb (bl_low9 h.mv.bl hg)
end
theorem ak_new (W:World) (o:Int):Blk (W.alloc (.cells #[.int .i64 o,.int .i64 0,.string ⟨#[]⟩,.int .i64 0,.int .i64 0,.int .i64 0,.string ⟨#[]⟩] 47)) W.heap.size 47 7 (akF ⟨o,0,⟨#[]⟩,⟨0,0,0,⟨#[]⟩⟩⟩) :=
 (Blk.made W #[.int .i64 o,.int .i64 0,.string ⟨#[]⟩,.int .i64 0,.int .i64 0,.int .i64 0,.string ⟨#[]⟩] 47).congr fun j hj=>by
  have hj:j < 7:=hj
  match j,hj with | 0,_=>rfl | 1,_=>rfl | 2,_=>rfl | 3,_=>rfl | 4,_=>rfl | 5,_=>rfl | 6,_=>rfl
theorem mv_grownNew9 {ts:List TypeId} {lo:Nat} {w W W':World} {e:TypeId} {sz n:Nat} {C:Nat → Nat → Value} {v:Value} (h:Mv ts lo w W) (hO:OwR W w.heap.size e sz n C v) (hl:lo ≤ w.heap.size) (hg:W.grownBy W' v.ownBlock):Mv ts lo w W' :=
 mv_grownNew h hl hg fun b hb=>(hO.lt b hb).1
set_option maxRecDepth 100000 in
set_option maxHeartbeats 20000000 in
theorem asksE_calls (w0:World) (g:Nat) (cv:Value) (code:List Nat) (c:Cu) (v1:Value) (A2:Option Addr) (nm c2:Nat) (w:World) (hr:RdBytes w0 cv code) (hg:w0.heap.size ≤ g) (hb0:Below w0.heap.size w0 w) (h:CuAt w g cv c) (hp:c.pos ≤ 1000) (hnm:nm ≤ 3001) :
  Calls Tryz.prog 35 #[.pointer (some ⟨g,0,none⟩),.agg #[v1,.slice A2 nm c2]] w fun e w'=>∃ (xs:List PAsk) (ov:Value),e=.returned ov ∧ OwR w' w.heap.size 47 7 xs.length (askC xs) ov ∧ xs.length ≤ 23 ∧ smAs xs ∧ Mv [72] g w w':=by
 have HR:=qhq hr
 have HC:=qhq h
 have HB0:=qhq hb0
 have hgw:g < w.heap.size:=h.blk.lt
 clear h hr hb0
 go_enter Tryz.func35,Tryz.ntmps35
 go_wp2_with fail
 have hT:Blk (w.alloc (.cells #[v1,.slice A2 nm c2] 26)) w.heap.size 26 2 (trF v1 (.slice A2 nm c2)):=(Blk.made w #[v1,.slice A2 nm c2] 26).congr (f':=trF v1 (.slice A2 nm c2)) fun j hj=>by
  have hj:j < 2:=hj
  match j,hj with | 0,_=>rfl | 1,_=>rfl
 have hba:Below w.heap.size w (w.alloc (.cells #[v1,.slice A2 nm c2] 26)):=qaq (qrq _ _) _
 have HM:=qhq (Mv.of_below (ts:=[72]) hba (Nat.le_of_lt hgw))
 have HB1:=qhq (qtq HB0.out hba)
 replace HC:=qhq (HC.out.later hba)
 have hsw:w.heap.size < (w.alloc (.cells #[v1,.slice A2 nm c2] 26)).heap.size:=by simp
 generalize World.alloc w _=W at hT HM HB1 HC hsw ⊢
 have HT:=qhq hT
 clear hba hT
 refine (pickE_calls w0 g cv code c 24 _ HR.out hg HB1.out HC.out (by omega) (by omega)).mono ?_;rintro e w1 ⟨N,c1,rfl,hN,hC,hc1,hm⟩
 have hN:N ≤ 23:=by omega
 replace HC:=qhq hC
 replace HM:=qhq (HM.out.trans hm)
 replace HT:=qhq (HT.out.mv hm (by decide))
 replace hsw:=Nat.lt_of_lt_of_le hsw hm.bl.size
 clear hC hm HB1
 go_wp2_with fail
 go_loopw [5,6] (fun ov nv wr=>∃ (m:Nat) (xs:List PAsk) (c':Cu),xs.length + m=N ∧ nv=.int .i64 m ∧ OwR wr w.heap.size 47 7 xs.length (askC xs) ov ∧ smAs xs ∧ CuAt wr g cv c' ∧ c'.pos ≤ 2000 + 100 * xs.length ∧ Mv [72] g w wr ∧ Blk wr w.heap.size 26 2 (trF v1 (.slice A2 nm c2)) ∧ w.heap.size < wr.heap.size) (fun _ nv _=>(intOf nv).toNat)
 case atStart=>exact ⟨N,[],c1,by simp,rfl,OwR.nil,fun i hi=>absurd hi (by simp),HC.out,by simp;omega,HM.out,HT.out,hsw⟩
 case round =>
  obtain ⟨m,xs,c',hmN,rfl,hO,hsm,hC,hcp,hmv,hT,hsr⟩:=hrel
  clear HT HC HM hsw
  have HO:=qhq hO
  have HSM:=qhq hsm
  have HC:=qhq hC
  have HMV:=qhq hmv
  have HT:=qhq hT
  obtain ⟨A3,c3,rfl,-⟩:=hO.cap
  clear hO hsm hC hmv hT
  by_cases hm0:0 < m
  ·have hd:decide ((m:Int) > 0)=true:=by simp;omega
   go_wp2_with fail
   refine (pickE_calls w0 g cv code c' 13 _ HR.out hg (bl_trans9 HB0.out (bl_low9 HMV.out.bl hg)) HC.out (by omega) (by omega)).mono ?_;rintro e w2 ⟨r0,c4,rfl,hr0,hC,hc4,hm⟩
   have hr0:r0 ≤ 12:=by omega
   replace HC:=qhq hC
   replace HMV:=qhq (HMV.out.trans hm)
   replace HT:=qhq (HT.out.mv hm (by decide))
   replace HO:=qhq (HO.out.mv hm (by decide))
   replace hsr:=Nat.lt_of_lt_of_le hsr hm.bl.size
   clear hC hm
   go_upto_region 6 with fail
   obtain ⟨o,ho⟩:∃ o:Int,1 + (r0:Int)=o:=⟨_,rfl⟩
   rw [ho]
   have hX:=ak_new w2 o
   have hba:Below w2.heap.size w2 (w2.alloc (.cells #[.int .i64 o,.int .i64 0,.string ⟨#[]⟩,.int .i64 0,.int .i64 0,.int .i64 0,.string ⟨#[]⟩] 47)):=qaq (qrq _ _) _
   have hgl:g ≤ w2.heap.size:=by omega
   have hsz2:(w2.alloc (.cells #[.int .i64 o,.int .i64 0,.string ⟨#[]⟩,.int .i64 0,.int .i64 0,.int .i64 0,.string ⟨#[]⟩] 47)).heap.size=w2.heap.size + 1:=by simp
   obtain ⟨ab,hab⟩:∃ b,w2.heap.size=b:=⟨_,rfl⟩
   generalize World.alloc w2 _=W3 at hX hba hsz2 ⊢
   have HS:=qhq (⟨hX,HT.out.later hba,HO.out.later hba,HC.out.later hba,HMV.out.trans (Mv.of_below hba hgl),hgw,hsr,fun b hb=>(HO.out.lt b hb).2,⟨Nat.zero_le 1,Nat.zero_le 1⟩⟩:AkS w g w2.heap.size cv v1 (.slice A2 nm c2) xs (.slice A3 xs.length c3) ⟨o,0,⟨#[]⟩,⟨0,0,0,⟨#[]⟩⟩⟩ c4 W3)
   rw [hab] at HS hsz2 ⊢
   clear hX hba hab HT HO HC HMV
   have ho2:1 ≤ o ∧ o ≤ 13:=by omega
   clear ho hr0
   obtain ⟨⟨b0,b1,b2,b3,b4,b5,b6⟩,hfr⟩:=HS.out.cells
   have z0:=hfr 0
   have z1:=hfr 1
   have z2:=hfr 2
   have z3:=hfr 3
   have z4:=hfr 4
   have z5:=hfr 5
   have z6:=hfr 6
   clear hfr
   go_upto_block 2 with fail
   clear b0 b1 b2 b3 b4 b5 b6 z0 z1 z2 z3 z4 z5 z6
   go_cut [] (fun wx=>∃ (a:PAsk) (c5:Cu),AkS w g ab cv v1 (.slice A2 nm c2) xs (.slice A3 xs.length c3) a c5 wx ∧ c5.pos ≤ c4.pos + 10)
   case first=>as_aux_lemma =>
    have hoo:o=1 ∨ o=2 ∨ o=3 ∨ o=4 ∨ o=5 ∨ o=6 ∨ o=7 ∨ o=8 ∨ o=9 ∨ o=10 ∨ o=11 ∨ o=12 ∨ o=13:=by omega
    clear ho2
    rcases hoo with rfl | rfl | rfl | rfl | rfl | rfl | rfl | rfl | rfl | rfl | rfl | rfl | rfl
    ·obtain ⟨⟨b0,b1,b2,b3,b4,b5,b6⟩,hfr⟩:=HS.out.cells
     have z0:=hfr 0
     have z1:=hfr 1
     have z2:=hfr 2
     have z3:=hfr 3
     have z4:=hfr 4
     have z5:=hfr 5
     have z6:=hfr 6
     clear hfr
     go_wp2_with fail
     clear b0 b1 b2 b3 b4 b5 b6 z0 z1 z2 z3 z4 z5 z6
     refine (stopE_calls w0 g cv code c4 _ HR.out hg (HS.out.low HB0.out hg) HS.out.cu (by omega)).mono ?_;rintro e wy ⟨p,c5,rfl,hq,hC,hcq,hm⟩
     replace HS:=qhq (HS.out.pick hC hm)
     clear hC hm
     obtain ⟨⟨b0,b1,b2,b3,b4,b5,b6⟩,hfr⟩:=HS.out.cells
     have z0:=hfr 0
     have z1:=hfr 1
     have z2:=hfr 2
     have z3:=hfr 3
     have z4:=hfr 4
     have z5:=hfr 5
     have z6:=hfr 6
     clear hfr
     unfold stopV
     go_wp2_with fail
     clear b0 b1 b2 b3 b4 b5 b6 z0 z1 z2 z3 z4 z5 z6
     go_meet
     replace HS:=qhq (HS.out.stop p hq)
     exact ⟨_,c5,HS.out,by omega⟩
    ·obtain ⟨⟨b0,b1,b2,b3,b4,b5,b6⟩,hfr⟩:=HS.out.cells
     have z0:=hfr 0
     have z1:=hfr 1
     have z2:=hfr 2
     have z3:=hfr 3
     have z4:=hfr 4
     have z5:=hfr 5
     have z6:=hfr 6
     clear hfr
     go_wp2_with fail
     clear b0 b1 b2 b3 b4 b5 b6 z0 z1 z2 z3 z4 z5 z6
     refine (pickE_calls w0 g cv code c4 3 _ HR.out hg (HS.out.low HB0.out hg) HS.out.cu (by omega) (by omega)).mono ?_;rintro e wy ⟨r,c5,rfl,hq,hC,hcq,hm⟩
     have hr2:r ≤ 2:=by omega
     replace HS:=qhq (HS.out.pick hC hm)
     clear hC hm
     obtain ⟨⟨b0,b1,b2,b3,b4,b5,b6⟩,hfr⟩:=HS.out.cells
     have z0:=hfr 0
     have z1:=hfr 1
     have z2:=hfr 2
     have z3:=hfr 3
     have z4:=hfr 4
     have z5:=hfr 5
     have z6:=hfr 6
     clear hfr
     go_wp2_with fail
     clear b0 b1 b2 b3 b4 b5 b6 z0 z1 z2 z3 z4 z5 z6
     go_meet
     replace HS:=qhq (HS.out.n (r:Int))
     exact ⟨_,c5,HS.out,by omega⟩
    ·obtain ⟨⟨b0,b1,b2,b3,b4,b5,b6⟩,hfr⟩:=HS.out.cells
     have z0:=hfr 0
     have z1:=hfr 1
     have z2:=hfr 2
     have z3:=hfr 3
     have z4:=hfr 4
     have z5:=hfr 5
     have z6:=hfr 6
     clear hfr
     go_wp2_with fail
     clear b0 b1 b2 b3 b4 b5 b6 z0 z1 z2 z3 z4 z5 z6
     go_meet
     exact ⟨_,c4,HS.out,by omega⟩
    ·obtain ⟨⟨b0,b1,b2,b3,b4,b5,b6⟩,hfr⟩:=HS.out.cells
     have z0:=hfr 0
     have z1:=hfr 1
     have z2:=hfr 2
     have z3:=hfr 3
     have z4:=hfr 4
     have z5:=hfr 5
     have z6:=hfr 6
     clear hfr
     go_wp2_with fail
     clear b0 b1 b2 b3 b4 b5 b6 z0 z1 z2 z3 z4 z5 z6
     go_meet
     exact ⟨_,c4,HS.out,by omega⟩
    ·obtain ⟨⟨b0,b1,b2,b3,b4,b5,b6⟩,hfr⟩:=HS.out.cells
     have z0:=hfr 0
     have z1:=hfr 1
     have z2:=hfr 2
     have z3:=hfr 3
     have z4:=hfr 4
     have z5:=hfr 5
     have z6:=hfr 6
     clear hfr
     go_wp2_with fail
     clear b0 b1 b2 b3 b4 b5 b6 z0 z1 z2 z3 z4 z5 z6
     go_meet
     exact ⟨_,c4,HS.out,by omega⟩
    ·obtain ⟨⟨b0,b1,b2,b3,b4,b5,b6⟩,hfr⟩:=HS.out.cells
     have z0:=hfr 0
     have z1:=hfr 1
     have z2:=hfr 2
     have z3:=hfr 3
     have z4:=hfr 4
     have z5:=hfr 5
     have z6:=hfr 6
     clear hfr
     go_wp2_with fail
     clear b0 b1 b2 b3 b4 b5 b6 z0 z1 z2 z3 z4 z5 z6
     go_meet
     exact ⟨_,c4,HS.out,by omega⟩
    ·obtain ⟨⟨b0,b1,b2,b3,b4,b5,b6⟩,hfr⟩:=HS.out.cells
     have z0:=hfr 0
     have z1:=hfr 1
     have z2:=hfr 2
     have z3:=hfr 3
     have z4:=hfr 4
     have z5:=hfr 5
     have z6:=hfr 6
     clear hfr
     go_wp2_with fail
     clear b0 b1 b2 b3 b4 b5 b6 z0 z1 z2 z3 z4 z5 z6
     go_meet
     exact ⟨_,c4,HS.out,by omega⟩
    ·obtain ⟨⟨b0,b1,b2,b3,b4,b5,b6⟩,hfr⟩:=HS.out.cells
     have z0:=hfr 0
     have z1:=hfr 1
     have z2:=hfr 2
     have z3:=hfr 3
     have z4:=hfr 4
     have z5:=hfr 5
     have z6:=hfr 6
     clear hfr
     go_wp2_with fail
     clear b0 b1 b2 b3 b4 b5 b6 z0 z1 z2 z3 z4 z5 z6
     go_meet
     exact ⟨_,c4,HS.out,by omega⟩
    ·obtain ⟨⟨b0,b1,b2,b3,b4,b5,b6⟩,hfr⟩:=HS.out.cells
     have z0:=hfr 0
     have z1:=hfr 1
     have z2:=hfr 2
     have z3:=hfr 3
     have z4:=hfr 4
     have z5:=hfr 5
     have z6:=hfr 6
     clear hfr
     have t0:=HS.out.tx.cell (j:=0) (by omega)
     have t1:=HS.out.tx.cell (j:=1) (by omega)
     simp only [trF] at t0 t1
     go_wp2_with fail
     clear t0 t1
     clear b0 b1 b2 b3 b4 b5 b6 z0 z1 z2 z3 z4 z5 z6
     refine (placeE_calls w0 g cv code c4 v1 A2 nm c2 _ HR.out hg (HS.out.low HB0.out hg) HS.out.cu (by omega) hnm).mono ?_;rintro e wy ⟨r,c5,rfl,hq,hC,hcq,hm⟩
     replace HS:=qhq (HS.out.pick hC hm)
     clear hC hm
     obtain ⟨⟨b0,b1,b2,b3,b4,b5,b6⟩,hfr⟩:=HS.out.cells
     have z0:=hfr 0
     have z1:=hfr 1
     have z2:=hfr 2
     have z3:=hfr 3
     have z4:=hfr 4
     have z5:=hfr 5
     have z6:=hfr 6
     clear hfr
     go_wp2_with fail
     clear b0 b1 b2 b3 b4 b5 b6 z0 z1 z2 z3 z4 z5 z6
     go_meet
     replace HS:=qhq (HS.out.n ((r:Int) - 2))
     exact ⟨_,c5,HS.out,by omega⟩
    ·obtain ⟨⟨b0,b1,b2,b3,b4,b5,b6⟩,hfr⟩:=HS.out.cells
     have z0:=hfr 0
     have z1:=hfr 1
     have z2:=hfr 2
     have z3:=hfr 3
     have z4:=hfr 4
     have z5:=hfr 5
     have z6:=hfr 6
     clear hfr
     go_wp2_with fail
     clear b0 b1 b2 b3 b4 b5 b6 z0 z1 z2 z3 z4 z5 z6
     refine (pickE_calls w0 g cv code c4 3 _ HR.out hg (HS.out.low HB0.out hg) HS.out.cu (by omega) (by omega)).mono ?_;rintro e wy ⟨r,c5,rfl,hq,hC,hcq,hm⟩
     have hr2:r ≤ 2:=by omega
     replace HS:=qhq (HS.out.pick hC hm)
     clear hC hm
     obtain ⟨⟨b0,b1,b2,b3,b4,b5,b6⟩,hfr⟩:=HS.out.cells
     have z0:=hfr 0
     have z1:=hfr 1
     have z2:=hfr 2
     have z3:=hfr 3
     have z4:=hfr 4
     have z5:=hfr 5
     have z6:=hfr 6
     clear hfr
     go_wp2_with fail
     clear b0 b1 b2 b3 b4 b5 b6 z0 z1 z2 z3 z4 z5 z6
     go_meet
     replace HS:=qhq (HS.out.n (r:Int))
     exact ⟨_,c5,HS.out,by omega⟩
    ·obtain ⟨⟨b0,b1,b2,b3,b4,b5,b6⟩,hfr⟩:=HS.out.cells
     have z0:=hfr 0
     have z1:=hfr 1
     have z2:=hfr 2
     have z3:=hfr 3
     have z4:=hfr 4
     have z5:=hfr 5
     have z6:=hfr 6
     clear hfr
     go_wp2_with fail
     clear b0 b1 b2 b3 b4 b5 b6 z0 z1 z2 z3 z4 z5 z6
     go_meet
     exact ⟨_,c4,HS.out,by omega⟩
    ·obtain ⟨⟨b0,b1,b2,b3,b4,b5,b6⟩,hfr⟩:=HS.out.cells
     have z0:=hfr 0
     have z1:=hfr 1
     have z2:=hfr 2
     have z3:=hfr 3
     have z4:=hfr 4
     have z5:=hfr 5
     have z6:=hfr 6
     clear hfr
     go_wp2_with fail
     clear b0 b1 b2 b3 b4 b5 b6 z0 z1 z2 z3 z4 z5 z6
     refine (pickE_calls w0 g cv code c4 3 _ HR.out hg (HS.out.low HB0.out hg) HS.out.cu (by omega) (by omega)).mono ?_;rintro e wy ⟨r,c5,rfl,hq,hC,hcq,hm⟩
     have hr2:r ≤ 2:=by omega
     replace HS:=qhq (HS.out.pick hC hm)
     clear hC hm
     have hcv:∀ (y:Int) (W:World),(convert 22 9 (.slice (some ⟨W.heap.size,0,none⟩) 1 1)).run Tryz.prog (W.alloc (.cells #[.int .u8 y] 5))=.ok (.string (strOfNums [y])) (W.alloc (.cells #[.int .u8 y] 5)):=fun y W=>conv_byte _ _ y (ByB.new W y).cell
     have hab9:ab < wy.heap.size:=HS.out.bx.lt
     obtain ⟨⟨b0,b1,b2,b3,b4,b5,b6⟩,hfr⟩:=HS.out.cells
     have z0:=hfr 0
     have z1:=hfr 1
     have z2:=hfr 2
     have z3:=hfr 3
     have z4:=hfr 4
     have z5:=hfr 5
     have z6:=hfr 6
     clear hfr
     go_wp2_with fail
     clear b0 b1 b2 b3 b4 b5 b6 z0 z1 z2 z3 z4 z5 z6
     rw [chr_nums (97 + r) (by omega)]
     go_meet
     replace HS:=qhq ((HS.out.nm (chr1 (97 + r)) (Nat.le_refl 1)).alloc (.cells #[.int .u8 (97 + (r:Int))] 5))
     exact ⟨_,c5,HS.out,by omega⟩
    ·obtain ⟨⟨b0,b1,b2,b3,b4,b5,b6⟩,hfr⟩:=HS.out.cells
     have z0:=hfr 0
     have z1:=hfr 1
     have z2:=hfr 2
     have z3:=hfr 3
     have z4:=hfr 4
     have z5:=hfr 5
     have z6:=hfr 6
     clear hfr
     go_wp2_with fail
     clear b0 b1 b2 b3 b4 b5 b6 z0 z1 z2 z3 z4 z5 z6
     refine (pickE_calls w0 g cv code c4 3 _ HR.out hg (HS.out.low HB0.out hg) HS.out.cu (by omega) (by omega)).mono ?_;rintro e wy ⟨r,c5,rfl,hq,hC,hcq,hm⟩
     have hr2:r ≤ 2:=by omega
     replace HS:=qhq (HS.out.pick hC hm)
     clear hC hm
     obtain ⟨⟨b0,b1,b2,b3,b4,b5,b6⟩,hfr⟩:=HS.out.cells
     have z0:=hfr 0
     have z1:=hfr 1
     have z2:=hfr 2
     have z3:=hfr 3
     have z4:=hfr 4
     have z5:=hfr 5
     have z6:=hfr 6
     clear hfr
     go_wp2_with fail
     clear b0 b1 b2 b3 b4 b5 b6 z0 z1 z2 z3 z4 z5 z6
     go_meet
     replace HS:=qhq (HS.out.n (r:Int))
     exact ⟨_,c5,HS.out,by omega⟩
   case rest =>
    obtain ⟨a,c5,hS,hc5⟩:=hcut
    clear HS
    have HS:=qhq hS
    clear hS
    go_wp2_with fail
    refine (pickE_calls w0 g cv code c5 30 _ HR.out hg (HS.out.low HB0.out hg) HS.out.cu (by omega) (by omega)).mono ?_;rintro e w4 ⟨r1,c6,rfl,hr1,hC,hc6,hm⟩
    have hr1:r1 ≤ 29:=by omega
    replace HS:=qhq (HS.out.pick hC hm)
    clear hC hm
    go_upto_block 3 with fail
    go_cut [] (fun wx=>∃ (a':PAsk) (c7:Cu),AkS w g ab cv v1 (.slice A2 nm c2) xs (.slice A3 xs.length c3) a' c7 wx ∧ c7.pos ≤ c6.pos + 20)
    case first=>as_aux_lemma =>
     by_cases q0:r1=0
     ·subst q0
      obtain ⟨⟨b0,b1,b2,b3,b4,b5,b6⟩,hfr⟩:=HS.out.cells
      have z0:=hfr 0
      have z1:=hfr 1
      have z2:=hfr 2
      have z3:=hfr 3
      have z4:=hfr 4
      have z5:=hfr 5
      have z6:=hfr 6
      clear hfr
      go_wp2_with fail
      clear b0 b1 b2 b3 b4 b5 b6 z0 z1 z2 z3 z4 z5 z6
      refine (pickE_calls w0 g cv code c6 200 _ HR.out hg (HS.out.low HB0.out hg) HS.out.cu (by omega) (by omega)).mono ?_;rintro e wy ⟨r,c7,rfl,hq,hC,hcq,hm⟩
      have hr2:r ≤ 199:=by omega
      replace HS:=qhq (HS.out.pick hC hm)
      clear hC hm
      obtain ⟨⟨b0,b1,b2,b3,b4,b5,b6⟩,hfr⟩:=HS.out.cells
      have z0:=hfr 0
      have z1:=hfr 1
      have z2:=hfr 2
      have z3:=hfr 3
      have z4:=hfr 4
      have z5:=hfr 5
      have z6:=hfr 6
      clear hfr
      go_wp2_with fail
      clear b0 b1 b2 b3 b4 b5 b6 z0 z1 z2 z3 z4 z5 z6
      go_meet
      replace HS:=qhq (HS.out.n ((r:Int) - 60))
      exact ⟨_,c7,HS.out,by omega⟩
     by_cases q1:r1=1
     ·subst q1
      obtain ⟨⟨b0,b1,b2,b3,b4,b5,b6⟩,hfr⟩:=HS.out.cells
      have z0:=hfr 0
      have z1:=hfr 1
      have z2:=hfr 2
      have z3:=hfr 3
      have z4:=hfr 4
      have z5:=hfr 5
      have z6:=hfr 6
      clear hfr
      go_wp2_with fail
      clear b0 b1 b2 b3 b4 b5 b6 z0 z1 z2 z3 z4 z5 z6
      refine (oddE_calls w0 g cv code c6 _ HR.out hg (HS.out.low HB0.out hg) HS.out.cu (by omega)).mono ?_;rintro e wy ⟨p,c7,rfl,hq,hC,hcq,hm⟩
      replace HS:=qhq (HS.out.pick hC hm)
      clear hC hm
      obtain ⟨⟨b0,b1,b2,b3,b4,b5,b6⟩,hfr⟩:=HS.out.cells
      have z0:=hfr 0
      have z1:=hfr 1
      have z2:=hfr 2
      have z3:=hfr 3
      have z4:=hfr 4
      have z5:=hfr 5
      have z6:=hfr 6
      clear hfr
      unfold stopV
      go_wp2_with fail
      clear b0 b1 b2 b3 b4 b5 b6 z0 z1 z2 z3 z4 z5 z6
      go_meet
      replace HS:=qhq (HS.out.stop p hq)
      exact ⟨_,c7,HS.out,by omega⟩
     by_cases q2:r1=2
     ·subst q2
      obtain ⟨⟨b0,b1,b2,b3,b4,b5,b6⟩,hfr⟩:=HS.out.cells
      have z0:=hfr 0
      have z1:=hfr 1
      have z2:=hfr 2
      have z3:=hfr 3
      have z4:=hfr 4
      have z5:=hfr 5
      have z6:=hfr 6
      clear hfr
      go_wp2_with fail
      clear b0 b1 b2 b3 b4 b5 b6 z0 z1 z2 z3 z4 z5 z6
      refine (pickE_calls w0 g cv code c6 16 _ HR.out hg (HS.out.low HB0.out hg) HS.out.cu (by omega) (by omega)).mono ?_;rintro e wy ⟨r,c7,rfl,hq,hC,hcq,hm⟩
      have hr2:r ≤ 15:=by omega
      replace HS:=qhq (HS.out.pick hC hm)
      clear hC hm
      obtain ⟨⟨b0,b1,b2,b3,b4,b5,b6⟩,hfr⟩:=HS.out.cells
      have z0:=hfr 0
      have z1:=hfr 1
      have z2:=hfr 2
      have z3:=hfr 3
      have z4:=hfr 4
      have z5:=hfr 5
      have z6:=hfr 6
      clear hfr
      go_wp2_with fail
      clear b0 b1 b2 b3 b4 b5 b6 z0 z1 z2 z3 z4 z5 z6
      go_meet
      replace HS:=qhq (HS.out.op (r:Int))
      exact ⟨_,c7,HS.out,by omega⟩
     have d0:((r1:Int) == 0)=false:=by rw [beq_eq_false_iff_ne];omega
     have d1:((r1:Int) == 1)=false:=by rw [beq_eq_false_iff_ne];omega
     have d2:((r1:Int) == 2)=false:=by rw [beq_eq_false_iff_ne];omega
     obtain ⟨⟨b0,b1,b2,b3,b4,b5,b6⟩,hfr⟩:=HS.out.cells
     have z0:=hfr 0
     have z1:=hfr 1
     have z2:=hfr 2
     have z3:=hfr 3
     have z4:=hfr 4
     have z5:=hfr 5
     have z6:=hfr 6
     clear hfr
     go_wp2_with fail
     clear b0 b1 b2 b3 b4 b5 b6 z0 z1 z2 z3 z4 z5 z6
     go_meet
     exact ⟨_,c6,HS.out,by omega⟩
    case rest =>
     obtain ⟨a',c7,hS,hc7⟩:=hcut
     clear HS
     have HS:=qhq hS
     clear hS
     have hsz:w.heap.size ≤ wc.heap.size:=by have:=HS.out.bx.lt;have:=HS.out.hb;omega
     have hxl:xs.length ≤ 23:=by omega
     obtain ⟨⟨b0,b1,b2,b3,b4,b5,b6⟩,hfr⟩:=HS.out.cells
     have z0:=hfr 0
     have z1:=hfr 1
     have z2:=hfr 2
     have z3:=hfr 3
     have z4:=hfr 4
     have z5:=hfr 5
     have z6:=hfr 6
     clear hfr
     go_wp2_with (at_builtin;refine stopped ?_)
     unfold Stopped
     refine wpList_append1 _ (by rfl) _ _ 28 (by rfl) w.heap.size 47 _ 7 72 Tryz.underlying28 i_ask9 rfl (by omega) _ xs.length _ (askC (xs ++ [a'])) (by rfl) HS.out.ow [.int .i64 a'.op,.int .i64 a'.n,.string a'.nm,.int .i64 a'.stop.kind,.int .i64 a'.stop.fn,.int .i64 a'.stop.line,.string a'.stop.nm] rfl (by simp [Value.oneCell']) (by rfl) (fun i hi j _=>akC_old xs a' hi j) (fun j hj=>akC_new xs a' hj) hsz (by omega) (by omega) ?_
     intro ga cap w9 hO9 hG9 _ _
     have hl1:(xs ++ [a']).length=xs.length + 1:=by simp
     have hmv9:Mv [72] g w w9:=mv_grownNew9 HS.out.mv HS.out.ow (Nat.le_of_lt HS.out.hg) hG9
     have hk:∀ b,b < wc.heap.size → (∀ N F,¬ Blk wc b 47 N F) → w9.heap[b]?=wc.heap[b]?:=fun b hb hn=>hG9.block b hb (fun hh=>by
      obtain ⟨N,F,hB⟩:=HS.out.ow.block hh.symm
      exact hn N F hB)
     have hC9:CuAt w9 g cv c7:=⟨HS.out.cu.blk.keep (hk g HS.out.cu.blk.lt fun N F hB=>hB.ne HS.out.cu.blk (by decide) rfl),HS.out.cu.sd⟩
     have hT9:Blk w9 w.heap.size 26 2 (trF v1 (.slice A2 nm c2)):=HS.out.tx.keep (hk _ HS.out.tx.lt fun N F hB=>hB.ne HS.out.tx (by decide) rfl)
     have hs9:w.heap.size < w9.heap.size:=hT9.lt
     have HO9:=qhq hO9
     have HC9:=qhq hC9
     have HT9:=qhq hT9
     have HM9:=qhq hmv9
     have HSA:=qhq (HSM.out.snoc HS.out.sm)
     clear hO9 hC9 hT9 hmv9 hk hG9 HS HSM
     clear b0 b1 b2 b3 b4 b5 b6 z0 z1 z2 z3 z4 z5 z6
     obtain ⟨m',rfl⟩:∃ m',m=m' + 1:=⟨m - 1,by omega⟩
     go_wp2
     go_roundw
     case rel=>exact ⟨m',xs ++ [a'],c7,by omega,by go_num,by rw [hl1];exact HO9.out,HSA.out,HC9.out,by omega,HM9.out,HT9.out,hs9⟩
     case measure=>simp [intOf]
  ·obtain rfl:m=0:=by omega
   have hd:decide ((((0:Nat):Int)) > 0)=false:=by simp
   go_wp2_with fail
   refine bodyPost_ret (v:=.slice A3 xs.length c3) (by simp [results,Tryz.results35,go_sem]) rfl ⟨xs,_,rfl,HO.out,by omega,HSM.out,HMV.out⟩
set_option maxRecDepth 100000 in
set_option maxHeartbeats 4000000 in
theorem spec_Asks_calls (v1:Value) (A2:Option Addr) (nm c2:Nat) (v:Value) (code:List Nat) (w:World) (hr:RdBytes w v code) (hnm:nm ≤ 3001) :
  Calls Tryz.prog 8 #[.agg #[v1,.slice A2 nm c2],v] w fun e w'=>∃ (xs:List PAsk) (ov:Value),e=.returned ov ∧ OwR w' w.heap.size 47 7 xs.length (askC xs) ov ∧ xs.length ≤ 23 ∧ smAs xs ∧ Below w.heap.size w w':=by
 have HR:=qhq hr
 obtain ⟨A0,c0,rfl,hn0,-⟩:=hr.open'
 clear hr
 go_enter Tryz.func8,Tryz.ntmps8
 go_wp2_with fail
 have HC:=qhq (cu_fresh (w.alloc (.cells #[v1,.slice A2 nm c2] 26)) (.slice A0 code.length c0))
 have HB:=qhq (qaq (qaq (qrq _ w) (.cells #[v1,.slice A2 nm c2] 26)) (.cells #[.slice A0 code.length c0,.int .i64 0,.int .u64 0] 72))
 rw [World.size_alloc] at HC
 generalize hW:World.alloc (World.alloc w _) _=W at HC HB ⊢
 have hsz:W.heap.size=w.heap.size + 2:=by rw [← hW];simp
 clear hW
 refine (asksE_calls w _ _ code cu0 v1 A2 nm c2 _ HR.out (by omega) HB.out HC.out (by decide) hnm).mono ?_;rintro e w1 ⟨xs,ov,rfl,hO,hl,hsm,hm⟩
 have HO:=qhq (hO.lower (lo':=w.heap.size) (by omega))
 have HSM:=qhq hsm
 have HB1:=qhq (bl_trans9 HB.out (bl_low9 hm.bl (by omega)))
 obtain ⟨A3,c3,rfl,-⟩:=hO.cap
 clear hO hsm hm HC HB
 go_wp2_with fail
 exact bodyPost_ret (v:=.slice A3 xs.length c3) (by simp [results,Tryz.results8,go_sem]) rfl ⟨xs,_,rfl,HO.out,hl,HSM.out,HB1.out⟩
end Go.Proofs.YtcklnjjbhngbcaaGreatDoor
