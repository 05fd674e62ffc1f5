/- Lemmas and contracts of functions that the theorem of this claim leans on (texts D3). -/
import Derived.Test.YtcklnjjbhngbcaaGreatDoorRowTopz00
import Derived.Test.YtcklnjjbhngbcaaGreatDoorRowTopzB
import Derived.Test.YtcklnjjbhngbcaaGreatDoorRowTopz34
import Derived.Test.YtcklnjjbhngbcaaGreatDoorRowTopz33
namespace Go.Proofs.YtcklnjjbhngbcaaGreatDoor
open Go.RowKit Go.Proofs.Lens
theorem bl_n9 {lo lo2:Nat} {a b c:World} (h:Below lo a b) (k:Below lo2 b c) (hl:lo ≤ lo2):Below lo a c:=⟨k.os.trans h.os,k.tape.trans h.tape,k.output.trans h.output,Nat.le_trans h.size k.size,fun j hj=>(k.block j (Nat.lt_of_lt_of_le hj hl)).trans (h.block j hj)⟩
set_option maxRecDepth 100000 in
set_option maxHeartbeats 20000000 in
theorem impl_Report_calls (v1 v2 : Value) (t : PTr) (w : World) (h : RdTr w v1 v2 t) (hsm : smTr t) (htab : Lib.TabBelow Tryz.prog w.heap.size w "internal/strconv.uint64pow10" .u64 Lib.pow10Tab) :
  Calls Tryz.prog 12 #[.agg #[v1,v2]] w fun e w'=>e=.returned (.string ⟨(repP t).toArray⟩) ∧ Below w.heap.size w w':=by
 have HT:=qhq h
 have HS:=qhq hsm
 have HTB:=qhq htab
 obtain ⟨⟨A1,c1,rfl,hn1,-⟩,⟨vv,⟨A2,c2,rfl,hn2,-⟩,-⟩⟩:=h
 have HK:=qhq (rep_ok t)
 clear hsm htab
 go_enter Tryz.func12,Tryz.ntmps12
 go_upto_region 2 with fail
 have HBD:Hid (IsBd (w.heap.size + 1) (w.heap.size + 1) (Lib.byteCells []) ((w.alloc (.cells #[.slice A1 t.fns.length c1,.slice A2 t.moms.length c2] 26)).alloc (.cells #[.pointer none,.slice none 0 0] 102))):=qhq (by
  have:=Lib.fresh_isBuilder 102 5 (w.alloc (.cells #[.slice A1 t.fns.length c1,.slice A2 t.moms.length c2] 26))
  rw [World.size_alloc] at this
  exact this)
 have HX:=qhq ((Blk.made w #[.slice A1 t.fns.length c1,.slice A2 t.moms.length c2] 26).alloc (.cells #[.pointer none,.slice none 0 0] 102))
 have HB:=qhq (qaq (qaq (qrq _ w) (.cells #[.slice A1 t.fns.length c1,.slice A2 t.moms.length c2] 26)) (.cells #[.pointer none,.slice none 0 0] 102))
 generalize World.alloc (World.alloc w _) _=w0 at HBD HX HB ⊢
 obtain ⟨bb,hbb⟩:∃ b,w.heap.size + 1=b:=⟨_,rfl⟩
 have HBB:=qhq hbb
 rw [hbb] at HBD ⊢
 clear hbb
 have x0:w0.cell? ⟨w.heap.size,0,none⟩=some (.slice A1 t.fns.length c1):=HX.out.cell (j:=0) (by simp)
 have x1:w0.cell? ⟨w.heap.size,1,none⟩=some (.slice A2 t.moms.length c2):=HX.out.cell (j:=1) (by simp)
 go_wp2_with fail
 clear x0 x1
 refine (impl_LineCounts_calls _ _ t _ (HT.out.later HB.out) HS.out).mono ?_;rintro e w1 ⟨vL,rfl,hL,hb⟩
 obtain ⟨AL,cL,rfl,-⟩:=hL.cap
 have hb0:bb < w0.heap.size:=bd_lt HBD.out
 have HGL:=qhq hL
 replace HBD:=qhq (bd_later HBD.out hb)
 clear hL
 replace HB:=qhq (qtq HB.out hb);replace HX:=qhq (HX.out.later hb);clear hb
 have x0:w1.cell? ⟨w.heap.size,0,none⟩=some (.slice A1 t.fns.length c1):=HX.out.cell (j:=0) (by simp)
 have x1:w1.cell? ⟨w.heap.size,1,none⟩=some (.slice A2 t.moms.length c2):=HX.out.cell (j:=1) (by simp)
 go_wp2_with fail
 clear x0 x1
 refine (impl_FnCounts_calls _ _ t _ (HT.out.later HB.out) HS.out).mono ?_;rintro e w2 ⟨vF,rfl,hF,hb⟩
 obtain ⟨AF,cF,rfl,-⟩:=hF.cap
 have HRP:Hid (repP t=repL t.fns (fcP t) (lcP t) (fcP t).length):=qhq rfl
 generalize fcP t=F at hF HK HRP ⊢
 generalize lcP t=L at HK HRP HGL ⊢
 obtain ⟨nf,hnf⟩:∃ nf,F.length=nf:=⟨_,rfl⟩
 have HNF:=qhq hnf
 rw [hnf] at hF HRP ⊢
 have hnf3:nf ≤ 300 ∧ nf ≤ t.fns.length:=by rw [← hnf];exact HK.out.nf
 obtain ⟨nl,hnl⟩:∃ nl,L.length=nl:=⟨_,rfl⟩
 have HNL:=qhq hnl
 have hnl3:nl ≤ 3000:=by rw [← hnl];exact HK.out.nl
 rw [hnl] at HGL ⊢
 have hb1:bb < w1.heap.size:=bd_lt HBD.out
 have HF:=qhq hF
 replace HBD:=qhq (bd_later HBD.out hb)
 clear hF hnf hnl
 replace HB:=qhq (qtq HB.out hb);replace HX:=qhq (HX.out.later hb);replace HGL:=qhq (HGL.out.later hb);clear hb
 have hb2:bb < w2.heap.size:=bd_lt HBD.out
 have hsw:w.heap.size < bb:=by have:=HBB.out;omega
 go_wp2_with fail
 generalize w0.heap.size=lL at *
 generalize w1.heap.size=lF at *
 go_loopw [14] (fun i wr=>∃ k:Nat,k ≤ nf ∧ i=.int .i64 k ∧ IsBd bb bb (Lib.byteCells (repL t.fns F L k)) wr ∧ OwR wr lF 106 4 nf (fcRow F) (.slice AF nf cF) ∧ OwR wr lL 111 3 nl (lcC L) (.slice AL nl cL) ∧ Below bb w2 wr) (fun i _=>nf - (intOf i).toNat)
 case atStart=>exact ⟨0,by omega,rfl,HBD.out,HF.out,HGL.out,qrq _ _⟩
 case round =>
  clear HBD HF HGL
  obtain ⟨k,hk,rfl,hBD,hF,hGL,hb⟩:=hrel
  have HBD:=qhq hBD
  have HF:=qhq hF
  have HGL:=qhq hGL
  have HW:=qhq hb
  have HXr:=qhq (HX.out.keep (hb.block _ hsw))
  have HBr:=qhq (show Below w.heap.size w wr from bl_n9 HB.out hb (by omega))
  have HTr:=qhq (HT.out.later HBr.out)
  have hsr:bb < wr.heap.size:=bd_lt hBD
  clear hBD hF hGL hb
  by_cases hkn:k < nf
  ·obtain ⟨A',c',he,hop⟩:=OwR.open' HF.out
   cases he
   obtain ⟨bF,rfl,-,-,hcell,-⟩:=hop (by omega)
   have hfc:=HK.out.fc k (by rw [HNF.out];exact hkn)
   have hnm:=HK.out.names (by rw [HNF.out];omega) k
   have d0:wr.cell? ⟨bF,k * 4,none⟩=some (.int .i64 (elt F k).fn):=hcell k hkn 0 (by omega)
   have d1:wr.cell? ⟨bF,k * 4 + 1,none⟩=some (.int .i64 (elt F k).cal):=hcell k hkn 1 (by omega)
   have d2:wr.cell? ⟨bF,k * 4 + 2,none⟩=some (.int .i64 (elt F k).slf):=hcell k hkn 2 (by omega)
   have d3:wr.cell? ⟨bF,k * 4 + 3,none⟩=some (.int .i64 (elt F k).tot):=hcell k hkn 3 (by omega)
   have HRS:Hid (repL t.fns F L (k + 1)=if (elt F k).cal=0 then repL t.fns F L k else repL t.fns F L k ++ rowL (elt t.fns (elt F k).fn.toNat) (elt F k) ++ linesL (elt F k).fn L L.length):=qhq rfl
   have HRL:=qhq (rep_len HK.out k (by rw [HNF.out];exact hk))
   obtain ⟨c,hc⟩:∃ c,elt F k=c:=⟨_,rfl⟩
   rw [hc] at hfc d0 d1 d2 d3 HRS
   obtain ⟨f0,f1,f2,f3⟩:=c
   dsimp only at hfc d0 d1 d2 d3 HRS
   obtain ⟨hf0,hf1,hf1',hf2,hf2',hf3,hf3'⟩:=hfc
   subst hf0
   obtain ⟨q1,rfl⟩:∃ q:Nat,f1=(q:Int):=⟨f1.toNat,by omega⟩
   obtain ⟨q2,rfl⟩:∃ q:Nat,f2=(q:Int):=⟨f2.toNat,by omega⟩
   obtain ⟨q3,rfl⟩:∃ q:Nat,f3=(q:Int):=⟨f3.toNat,by omega⟩
   have hkI:(k:Int) < (nf:Int):=by omega
   clear hcell hop hc
   have hbn:∀ b o,some (Addr.mk b o none)=A1 → b < bb:=fun b o e=>by
    obtain ⟨As,cs,hes,-,hrow⟩:=HT.out.1
    cases hes
    obtain ⟨b',o',e',hnc⟩:=hrow (by omega)
    rw [e'] at e
    cases e
    have:=World.block_lt_of_cell? _ _ (hnc k (by omega) 0 (by omega))
    dsimp only at this
    omega
   obtain ⟨As,cs,hes,-,hrow⟩:=HTr.out.1
   cases hes
   obtain ⟨bn,on,rfl,hnc⟩:=hrow (by omega)
   replace hbn:bn < bb:=hbn bn on rfl
   have z0:wr.cell? ⟨bn,on + k,none⟩=some (.string (elt t.fns k)):=by
    have:=hnc k (by omega) 0 (by omega)
    rw [Nat.mul_one,Nat.add_zero] at this
    exact this
   clear hrow hnc
   go_upto_region 6 with fail
   have HCB:Hid (Blk (wr.alloc _) wr.heap.size 106 4 _):=qhq (Blk.made wr #[.int .i64 k,.int .i64 (q1:Nat),.int .i64 (q2:Nat),.int .i64 (q3:Nat)] 106)
   have hbl:Below wr.heap.size wr (wr.alloc (.cells #[.int .i64 k,.int .i64 (q1:Nat),.int .i64 (q2:Nat),.int .i64 (q3:Nat)] 106)):=qaq (qrq _ _) _
   generalize World.alloc wr _=W3 at HCB hbl ⊢
   replace z0:=qcq hbl z0
   replace HBD:=qhq (bd_later HBD.out hbl)
   replace HW:=qhq (bl_n9 HW.out hbl (by omega))
   replace HXr:=qhq (HXr.out.later hbl);replace HF:=qhq (HF.out.later hbl);replace HTr:=qhq (HTr.out.later hbl);replace HGL:=qhq (HGL.out.later hbl);replace HBr:=qhq (qtq HBr.out hbl);clear hbl
   clear d0 d1 d2 d3
   have hs3:bb < W3.heap.size:=bd_lt HBD.out
   have hcb:bb < wr.heap.size:=hsr
   have y0:W3.cell? ⟨wr.heap.size,0,none⟩=some (.int .i64 k):=HCB.out.cell (j:=0) (by simp)
   have y1:W3.cell? ⟨wr.heap.size,1,none⟩=some (.int .i64 q1):=HCB.out.cell (j:=1) (by simp)
   have y2:W3.cell? ⟨wr.heap.size,2,none⟩=some (.int .i64 q2):=HCB.out.cell (j:=2) (by simp)
   have y3:W3.cell? ⟨wr.heap.size,3,none⟩=some (.int .i64 q3):=HCB.out.cell (j:=3) (by simp)
   by_cases hq:q1=0
   ·subst hq
    have HR0:Hid (repL t.fns F L (k + 1)=repL t.fns F L k):=qhq (by rw [HRS.out];simp)
    go_wp2
    go_roundw
    case rel=>exact ⟨k + 1,by omega,by go_num,by rw [HR0.out];exact HBD.out,HF.out,HGL.out,HW.out⟩
    case measure=>simp [intOf];omega
   ·have hqb:((q1:Int) == 0)=false:=by simp;omega
    have HR1:Hid (repL t.fns F L (k + 1)=repL t.fns F L k ++ rowL (elt t.fns k) ⟨k,q1,q2,q3⟩ ++ linesL k L nl):=qhq (by rw [HRS.out,if_neg (by omega),HNL.out];rfl)
    have x0:W3.cell? ⟨w.heap.size,0,none⟩=some (.slice (some ⟨bn,on,none⟩) t.fns.length c1):=HXr.out.cell (j:=0) (by simp)
    obtain ⟨s1,hs1⟩:∃ s:ByteArray,s=⟨(Lib.decDigits k).toArray⟩:=⟨_,rfl⟩
    obtain ⟨s2,hs2⟩:∃ s:ByteArray,s=⟨(Lib.decDigits q1).toArray⟩:=⟨_,rfl⟩
    obtain ⟨s3,hs3⟩:∃ s:ByteArray,s=⟨(Lib.decDigits q2).toArray⟩:=⟨_,rfl⟩
    obtain ⟨s4,hs4⟩:∃ s:ByteArray,s=⟨(Lib.decDigits q3).toArray⟩:=⟨_,rfl⟩
    have H1:=qhq (fun (W:World) (hW:Below W3.heap.size W3 W)=>by have:=itoa_calls k W (by omega) (HTB.out W (qtq HBr.out hW));rw [← hs1] at this;exact this)
    have H2:=qhq (fun (W:World) (hW:Below W3.heap.size W3 W)=>by have:=itoa_calls q1 W (by omega) (HTB.out W (qtq HBr.out hW));rw [← hs2] at this;exact this)
    have H3:=qhq (fun (W:World) (hW:Below W3.heap.size W3 W)=>by have:=itoa_calls q2 W (by omega) (HTB.out W (qtq HBr.out hW));rw [← hs3] at this;exact this)
    have H4:=qhq (fun (W:World) (hW:Below W3.heap.size W3 W)=>by have:=itoa_calls q3 W (by omega) (HTB.out W (qtq HBr.out hW));rw [← hs4] at this;exact this)
    have e1:s1.size ≤ 21:=by rw [hs1];exact dec_len k (by omega)
    have e2:s2.size ≤ 21:=by rw [hs2];exact dec_len q1 (by omega)
    have e3:s3.size ≤ 21:=by rw [hs3];exact dec_len q2 (by omega)
    have e4:s4.size ≤ 21:=by rw [hs4];exact dec_len q3 (by omega)
    obtain ⟨nm,hnm2⟩:∃ nm,elt t.fns k=nm:=⟨_,rfl⟩
    rw [hnm2] at z0 hnm HR1
    have HTX:=qhq (row_text nm s1 s2 s3 s4 ⟨k,q1,q2,q3⟩ (by rw [hs1];exact ba_lit _) (by rw [hs2];exact ba_lit _) (by rw [hs3];exact ba_lit _) (by rw [hs4];exact ba_lit _))
    have hkf:(k:Int) < (t.fns.length:Int):=by omega
    clear hs1 hs2 hs3 hs4 hnm2 HRS
    go_upto_region 7 with fail
    have HS0:Hid (Below W3.heap.size W3 W3.drew):=qhq (bl_drew (qrq _ _))
    have HC0:=qhq (show W3.drew.cell? ⟨wr.heap.size,0,none⟩=some (.int .i64 k) ∧ W3.drew.cell? ⟨wr.heap.size,1,none⟩=some (.int .i64 q1) ∧ W3.drew.cell? ⟨wr.heap.size,2,none⟩=some (.int .i64 q2) ∧ W3.drew.cell? ⟨wr.heap.size,3,none⟩=some (.int .i64 q3) ∧ W3.drew.cell? ⟨w.heap.size,0,none⟩=some (.slice (some ⟨bn,on,none⟩) t.fns.length c1) ∧ W3.drew.cell? ⟨bn,on + k,none⟩=some (.string nm) from ⟨y0,y1,y2,y3,x0,z0⟩)
    refine wp_region_H (fun w':World=>w'.cell? ⟨wr.heap.size,0,none⟩=some (.int .i64 k) ∧ w'.cell? ⟨wr.heap.size,1,none⟩=some (.int .i64 q1) ∧ w'.cell? ⟨wr.heap.size,2,none⟩=some (.int .i64 q2) ∧ w'.cell? ⟨wr.heap.size,3,none⟩=some (.int .i64 q3) ∧ w'.cell? ⟨w.heap.size,0,none⟩=some (.slice (some ⟨bn,on,none⟩) t.fns.length c1) ∧ w'.cell? ⟨bn,on + k,none⟩=some (.string nm)) (by kernel_rfl) ?_
    refine wpAnyH_take2 0 (v:=?v0r) (by rfl) (by kernel_rfl) (by intro _ _ _ h;exact h) HC0.out (by rfl) ?hy0r ?rest0r
    case hy0r =>
     intro w' hSw
     obtain ⟨s0,s1,s2,s3,s4,s5⟩:=hSw
     go_simp
     try with_reducible rfl
    simp only [Act.put,q1q]
    refine wpAnyH_take2 1 (v:=?v1r) (by rfl) (by kernel_rfl) (by intro _ _ _ h;exact h) HC0.out (by rfl) ?hy1r ?rest1r
    case hy1r =>
     intro w' hSw
     obtain ⟨s0,s1,s2,s3,s4,s5⟩:=hSw
     go_simp
     try with_reducible rfl
    simp only [Act.put]
    refine wpAnyH_take2 4 (v:=?v4r) (by rfl) (by kernel_rfl) (by intro _ _ _ h;exact h) HC0.out (by rfl) ?hy4r ?rest4r
    case hy4r =>
     intro w' hSw
     obtain ⟨s0,s1,s2,s3,s4,s5⟩:=hSw
     go_simp
     try with_reducible rfl
    simp only [Act.put]
    refine wpAnyH_take2 5 (v:=?v5r) (by rfl) (by kernel_rfl) (by intro _ _ _ h;exact h) HC0.out (by rfl) ?hy5r ?rest5r
    case hy5r =>
     intro w' hSw
     obtain ⟨s0,s1,s2,s3,s4,s5⟩:=hSw
     go_simp
     try with_reducible rfl
    simp only [Act.put]
    refine wpAnyH_take2 6 (v:=?v6r) (by rfl) (by kernel_rfl) (by intro _ _ _ h;exact h) HC0.out (by rfl) ?hy6r ?rest6r
    case hy6r =>
     intro w' hSw
     obtain ⟨s0,s1,s2,s3,s4,s5⟩:=hSw
     go_simp
     try with_reducible rfl
    simp only [Act.put]
    refine wpAnyH_take2 7 (v:=?v7r) (by rfl) (by kernel_rfl) (by intro _ _ _ h;exact h) HC0.out (by rfl) ?hy7r ?rest7r
    case hy7r =>
     intro w' hSw
     obtain ⟨s0,s1,s2,s3,s4,s5⟩:=hSw
     go_simp
     try with_reducible rfl
    simp only [Act.put]
    refine wpAnyH_take2 8 (v:=?v8r) (by rfl) (by kernel_rfl) (by intro _ _ _ h;exact h) HC0.out (by rfl) ?hy8r ?rest8r
    case hy8r =>
     intro w' hSw
     obtain ⟨s0,s1,s2,s3,s4,s5⟩:=hSw
     go_simp
     try with_reducible rfl
    simp only [Act.put]
    refine wpAnyH_take2 9 (v:=?v9r) (by rfl) (by kernel_rfl) (by intro _ _ _ h;exact h) HC0.out (by rfl) ?hy9r ?rest9r
    case hy9r =>
     intro w' hSw
     obtain ⟨s0,s1,s2,s3,s4,s5⟩:=hSw
     go_simp
     try with_reducible rfl
    simp only [Act.put]
    refine wpAnyH_take2 12 (v:=?v12r) (by rfl) (by kernel_rfl) (by intro _ _ _ h;exact h) HC0.out (by rfl) ?hy12r ?rest12r
    case hy12r =>
     intro w' hSw
     obtain ⟨s0,s1,s2,s3,s4,s5⟩:=hSw
     go_simp
     try with_reducible rfl
    simp only [Act.put]
    refine wpAnyH_take2 13 (v:=?v13r) (by rfl) (by kernel_rfl) (by intro _ _ _ h;exact h) HC0.out (by rfl) ?hy13r ?rest13r
    case hy13r =>
     intro w' hSw
     obtain ⟨s0,s1,s2,s3,s4,s5⟩:=hSw
     go_simp
     try with_reducible rfl
    simp only [Act.put]
    refine wpAnyH_take2 17 (v:=?v17r) (by rfl) (by kernel_rfl) (by intro _ _ _ h;exact h) HC0.out (by rfl) ?hy17r ?rest17r
    case hy17r =>
     intro w' hSw
     obtain ⟨s0,s1,s2,s3,s4,s5⟩:=hSw
     go_simp
     try with_reducible rfl
    simp only [Act.put]
    refine wpAnyH_take2 18 (v:=?v18r) (by rfl) (by kernel_rfl) (by intro _ _ _ h;exact h) HC0.out (by rfl) ?hy18r ?rest18r
    case hy18r =>
     intro w' hSw
     obtain ⟨s0,s1,s2,s3,s4,s5⟩:=hSw
     go_simp
     try with_reducible rfl
    simp only [Act.put]
    refine wpAnyH_take2 22 (v:=?v22r) (by rfl) (by kernel_rfl) (by intro _ _ _ h;exact h) HC0.out (by rfl) ?hy22r ?rest22r
    case hy22r =>
     intro w' hSw
     obtain ⟨s0,s1,s2,s3,s4,s5⟩:=hSw
     go_simp
     try with_reducible rfl
    simp only [Act.put]
    refine wpAnyH_take2 23 (v:=?v23r) (by rfl) (by kernel_rfl) (by intro _ _ _ h;exact h) HC0.out (by rfl) ?hy23r ?rest23r
    case hy23r =>
     intro w' hSw
     obtain ⟨s0,s1,s2,s3,s4,s5⟩:=hSw
     go_simp
     try with_reducible rfl
    simp only [Act.put]
    refine wpAnyH_one 2 (by rfl) (by kernel_rfl) rfl ?_
    intro K hK
    go_simp
    refine (H1.out _ HS0.out).mono ?_;rintro e wa ⟨rfl,hb9⟩
    have HS1:=qhq (qtq HS0.out hb9)
    have HC1:=qhq (show wa.cell? ⟨wr.heap.size,0,none⟩=some (.int .i64 k) ∧ wa.cell? ⟨wr.heap.size,1,none⟩=some (.int .i64 q1) ∧ wa.cell? ⟨wr.heap.size,2,none⟩=some (.int .i64 q2) ∧ wa.cell? ⟨wr.heap.size,3,none⟩=some (.int .i64 q3) ∧ wa.cell? ⟨w.heap.size,0,none⟩=some (.slice (some ⟨bn,on,none⟩) t.fns.length c1) ∧ wa.cell? ⟨bn,on + k,none⟩=some (.string nm) from ⟨qcq HS1.out y0,qcq HS1.out y1,qcq HS1.out y2,qcq HS1.out y3,qcq HS1.out x0,qcq HS1.out z0⟩)
    clear hb9
    dsimp only
    refine hK.out _ _ HC1.out ?_
    clear hK K
    refine wpAnyH_take2 3 (v:=?v3r) (by rfl) (by kernel_rfl) (by intro _ _ _ h;exact h) HC1.out (by rfl) ?hy3r ?rest3r
    case hy3r =>
     intro w' hSw
     clear hSw
     go_simp
     rw [if_neg (by first | omega | (simp only [ByteArray.size_append] at *;omega) | (simp [ByteArray.size_append];omega))]
    simp only [Act.put,q1q]
    refine wpAnyH_take2 10 (v:=?v10r) (by rfl) (by kernel_rfl) (by intro _ _ _ h;exact h) HC1.out (by rfl) ?hy10r ?rest10r
    case hy10r =>
     intro w' hSw
     obtain ⟨s0,s1,s2,s3,s4,s5⟩:=hSw
     go_simp
     rw [if_neg (by first | omega | (simp only [ByteArray.size_append] at *;omega) | (simp [ByteArray.size_append];omega))]
    simp only [Act.put]
    refine wpAnyH_take2 11 (v:=?v11r) (by rfl) (by kernel_rfl) (by intro _ _ _ h;exact h) HC1.out (by rfl) ?hy11r ?rest11r
    case hy11r =>
     intro w' hSw
     clear hSw
     go_simp
     rw [if_neg (by first | omega | (simp only [ByteArray.size_append] at *;omega) | (simp [ByteArray.size_append];omega))]
    simp only [Act.put]
    refine wpAnyH_one 14 (by rfl) (by kernel_rfl) rfl ?_
    intro K hK
    go_simp
    refine (H2.out _ HS1.out).mono ?_;rintro e wb ⟨rfl,hb9⟩
    have HS2:=qhq (qtq HS1.out hb9)
    have HC2:=qhq (show wb.cell? ⟨wr.heap.size,0,none⟩=some (.int .i64 k) ∧ wb.cell? ⟨wr.heap.size,1,none⟩=some (.int .i64 q1) ∧ wb.cell? ⟨wr.heap.size,2,none⟩=some (.int .i64 q2) ∧ wb.cell? ⟨wr.heap.size,3,none⟩=some (.int .i64 q3) ∧ wb.cell? ⟨w.heap.size,0,none⟩=some (.slice (some ⟨bn,on,none⟩) t.fns.length c1) ∧ wb.cell? ⟨bn,on + k,none⟩=some (.string nm) from ⟨qcq HS2.out y0,qcq HS2.out y1,qcq HS2.out y2,qcq HS2.out y3,qcq HS2.out x0,qcq HS2.out z0⟩)
    clear hb9
    dsimp only
    refine hK.out _ _ HC2.out ?_
    clear hK K
    refine wpAnyH_take2 15 (v:=?v15r) (by rfl) (by kernel_rfl) (by intro _ _ _ h;exact h) HC2.out (by rfl) ?hy15r ?rest15r
    case hy15r =>
     intro w' hSw
     clear hSw
     go_simp
     rw [if_neg (by first | omega | (simp only [ByteArray.size_append] at *;omega) | (simp [ByteArray.size_append];omega))]
    simp only [Act.put,q1q]
    refine wpAnyH_take2 16 (v:=?v16r) (by rfl) (by kernel_rfl) (by intro _ _ _ h;exact h) HC2.out (by rfl) ?hy16r ?rest16r
    case hy16r =>
     intro w' hSw
     clear hSw
     go_simp
     rw [if_neg (by first | omega | (simp only [ByteArray.size_append] at *;omega) | (simp [ByteArray.size_append];omega))]
    simp only [Act.put]
    refine wpAnyH_one 19 (by rfl) (by kernel_rfl) rfl ?_
    intro K hK
    go_simp
    refine (H3.out _ HS2.out).mono ?_;rintro e wc ⟨rfl,hb9⟩
    have HS3:=qhq (qtq HS2.out hb9)
    have HC3:=qhq (show wc.cell? ⟨wr.heap.size,0,none⟩=some (.int .i64 k) ∧ wc.cell? ⟨wr.heap.size,1,none⟩=some (.int .i64 q1) ∧ wc.cell? ⟨wr.heap.size,2,none⟩=some (.int .i64 q2) ∧ wc.cell? ⟨wr.heap.size,3,none⟩=some (.int .i64 q3) ∧ wc.cell? ⟨w.heap.size,0,none⟩=some (.slice (some ⟨bn,on,none⟩) t.fns.length c1) ∧ wc.cell? ⟨bn,on + k,none⟩=some (.string nm) from ⟨qcq HS3.out y0,qcq HS3.out y1,qcq HS3.out y2,qcq HS3.out y3,qcq HS3.out x0,qcq HS3.out z0⟩)
    clear hb9
    dsimp only
    refine hK.out _ _ HC3.out ?_
    clear hK K
    refine wpAnyH_take2 20 (v:=?v20r) (by rfl) (by kernel_rfl) (by intro _ _ _ h;exact h) HC3.out (by rfl) ?hy20r ?rest20r
    case hy20r =>
     intro w' hSw
     clear hSw
     go_simp
     rw [if_neg (by first | omega | (simp only [ByteArray.size_append] at *;omega) | (simp [ByteArray.size_append];omega))]
    simp only [Act.put,q1q]
    refine wpAnyH_take2 21 (v:=?v21r) (by rfl) (by kernel_rfl) (by intro _ _ _ h;exact h) HC3.out (by rfl) ?hy21r ?rest21r
    case hy21r =>
     intro w' hSw
     clear hSw
     go_simp
     rw [if_neg (by first | omega | (simp only [ByteArray.size_append] at *;omega) | (simp [ByteArray.size_append];omega))]
    simp only [Act.put]
    refine wpAnyH_one 24 (by rfl) (by kernel_rfl) rfl ?_
    intro K hK
    go_simp
    refine (H4.out _ HS3.out).mono ?_;rintro e wd ⟨rfl,hb9⟩
    have HS4:=qhq (qtq HS3.out hb9)
    have HC4:=qhq (show wd.cell? ⟨wr.heap.size,0,none⟩=some (.int .i64 k) ∧ wd.cell? ⟨wr.heap.size,1,none⟩=some (.int .i64 q1) ∧ wd.cell? ⟨wr.heap.size,2,none⟩=some (.int .i64 q2) ∧ wd.cell? ⟨wr.heap.size,3,none⟩=some (.int .i64 q3) ∧ wd.cell? ⟨w.heap.size,0,none⟩=some (.slice (some ⟨bn,on,none⟩) t.fns.length c1) ∧ wd.cell? ⟨bn,on + k,none⟩=some (.string nm) from ⟨qcq HS4.out y0,qcq HS4.out y1,qcq HS4.out y2,qcq HS4.out y3,qcq HS4.out x0,qcq HS4.out z0⟩)
    clear hb9
    dsimp only
    refine hK.out _ _ HC4.out ?_
    clear hK K
    refine wpAnyH_take2 25 (v:=?v25r) (by rfl) (by kernel_rfl) (by intro _ _ _ h;exact h) HC4.out (by rfl) ?hy25r ?rest25r
    case hy25r =>
     intro w' hSw
     clear hSw
     go_simp
     rw [if_neg (by first | omega | (simp only [ByteArray.size_append] at *;omega) | (simp [ByteArray.size_append];omega))]
    simp only [Act.put,q1q]
    refine wpAnyH_take2 26 (v:=?v26r) (by rfl) (by kernel_rfl) (by intro _ _ _ h;exact h) HC4.out (by rfl) ?hy26r ?rest26r
    case hy26r =>
     intro w' hSw
     clear hSw
     go_simp
     rw [if_neg (by first | omega | (simp only [ByteArray.size_append] at *;omega) | (simp [ByteArray.size_append];omega))]
    simp only [Act.put]
    obtain ⟨S,hS⟩:∃ S:ByteArray,s1 ++ ⟨#[32]⟩ ++ nm ++ ⟨#[32,99,97,108,108,115,32]⟩ ++ s2 ++ ⟨#[32,115,101,108,102,32]⟩ ++ s3 ++ ⟨#[32,116,111,116,97,108,32]⟩ ++ s4 ++ ⟨#[10]⟩=S:=⟨_,rfl⟩
    rw [hS] at HTX ⊢
    have hbl:=HS4.out
    replace HBD:=qhq (bd_later HBD.out hbl)
    replace HW:=qhq (bl_n9 HW.out hbl (by omega))
    have hsd:bb ≤ wd.heap.size:=by have:=hbl.size;omega
    replace HXr:=qhq (HXr.out.later hbl);replace HF:=qhq (HF.out.later hbl);replace HTr:=qhq (HTr.out.later hbl);replace HCB:=qhq (HCB.out.later hbl);replace HGL:=qhq (HGL.out.later hbl);clear hbl
    have hSz:S.size=S.data.toList.length:=ba_size S
    have hrl:=row_len (c:=⟨k,q1,q2,q3⟩) hnm (by dsimp only;omega) (by dsimp only;omega) (by dsimp only;omega) (by dsimp only;omega)
    have hWS:(Lib.byteCells (repL t.fns F L k)).length + S.size ≤ 140737488355328:=by
     rw [Lib.byteCells_length,hSz,HTX.out]
     have:=HRL.out
     omega
    refine wpAnyH_one 27 (by rfl) (by kernel_rfl) rfl ?_
    intro K hK
    go_simp
    refine (writeString_calls bb bb _ S _ HBD.out hWS hsd).mono ?_;rintro e w8 ⟨rfl,hbd,hbw,hkb⟩
    have HCB9:=qhq (HCB.out.kb hkb (by decide) (by omega))
    dsimp only
    refine hK.out _ _ ⟨HCB9.out.cell (j:=0) (by simp),HCB9.out.cell (j:=1) (by simp),HCB9.out.cell (j:=2) (by simp),HCB9.out.cell (j:=3) (by simp),(hbw.cell (p:=⟨w.heap.size,0,none⟩) hsw).trans (qcq HS4.out x0),(hbw.cell (p:=⟨bn,on + k,none⟩) hbn).trans (qcq HS4.out z0)⟩ ?_
    clear hK K
    refine wpAnyH_done (by kernel_rfl) ?_ _
    rw [Lib.strCells_eq,← Lib.byteCells_append,HTX.out] at hbd
    obtain ⟨R,hR⟩:∃ R,repL t.fns F L k ++ rowL nm ⟨k,q1,q2,q3⟩=R:=⟨_,rfl⟩
    have HRN:Hid (R.length ≤ 200000 * k + 200):=qhq (by rw [← hR,List.length_append];have:=HRL.out;omega)
    rw [hR] at hbd HR1
    have HBD8:=qhq hbd
    have HF8:=qhq (HF.out.kb2 hkb (by decide) (by omega))
    have HGL8:=qhq (HGL.out.kb2 hkb (by decide) (by omega))
    have HCB8:=qhq (HCB.out.kb hkb (by decide) (by omega))
    have HW8:=qhq (bl_n9 HW.out hbw (Nat.le_refl _))
    clear hS x0 y0 y1 y2 y3 z0 HS0 HS1 HS2 HS3 HS4 HC0 HC1 HC2 HC3 HC4 HCB9 H1 H2 H3 H4 HBD HF HGL HCB HW HXr HTr HBr hbd hbw hkb hWS hSz hrl HTX HRL hR hnm
    generalize wr.heap.size=cb at *
    go_wp2_with fail
    go_loopw [51] (fun i wx=>∃ j:Nat,j ≤ nl ∧ i=.int .i64 j ∧ IsBd bb bb (Lib.byteCells (R ++ linesL k L j)) wx ∧ OwR wx lF 106 4 nf (fcRow F) (.slice (some ⟨bF,0,none⟩) nf cF) ∧ OwR wx lL 111 3 nl (lcC L) (.slice AL nl cL) ∧ Blk wx cb 106 4 (fun j=>#[Value.int .i64 k,.int .i64 (q1:Nat),.int .i64 (q2:Nat),.int .i64 (q3:Nat)].getD j undef) ∧ Below bb w2 wx) (fun i _=>nl - (intOf i).toNat)
    case atStart=>exact ⟨0,by omega,rfl,by rw [show linesL k L 0=[] from rfl,List.append_nil];exact HBD8.out,HF8.out,HGL8.out,HCB8.out,HW8.out⟩
    case round =>
     clear HBD8 HF8 HGL8 HCB8 HW8
     obtain ⟨j,hj,rfl,hBD,hF,hGL,hCB,hb⟩:=hrel
     have HBD:=qhq hBD
     have HF:=qhq hF
     have HGL:=qhq hGL
     have HCB:=qhq hCB
     have HW:=qhq hb
     have HBr:=qhq (show Below w.heap.size w wr from bl_n9 HB.out hb (by omega))
     have hsx:bb < wr.heap.size:=bd_lt hBD
     clear hBD hF hGL hCB hb
     by_cases hjn:j < nl
     ·obtain ⟨A',c',he,hop⟩:=OwR.open' HGL.out
      cases he
      obtain ⟨bL,rfl,-,-,hcell,-⟩:=hop (by omega)
      have hlc:=HK.out.lc j (by rw [HNL.out];exact hjn)
      have d0:wr.cell? ⟨bL,j * 3,none⟩=some (.int .i64 (elt L j).fn):=hcell j hjn 0 (by omega)
      have d1:wr.cell? ⟨bL,j * 3 + 1,none⟩=some (.int .i64 (elt L j).line):=hcell j hjn 1 (by omega)
      have d2:wr.cell? ⟨bL,j * 3 + 2,none⟩=some (.int .i64 (elt L j).cnt):=hcell j hjn 2 (by omega)
      have HLS:Hid (linesL k L (j + 1)=if (elt L j).fn=k then linesL k L j ++ lineL (elt L j) else linesL k L j):=qhq rfl
      have HLN:=qhq (lines_len HK.out (k:Int) j (by rw [HNL.out];exact hj))
      obtain ⟨x,hx⟩:∃ x,elt L j=x:=⟨_,rfl⟩
      rw [hx] at hlc d0 d1 d2 HLS
      obtain ⟨g0,g1,g2⟩:=x
      dsimp only at hlc d0 d1 d2 HLS
      obtain ⟨hc0,hc1,hg0,hg0',hg1,hg1'⟩:=hlc
      obtain ⟨p1,rfl⟩:∃ q:Nat,g1=(q:Int):=⟨g1.toNat,by omega⟩
      obtain ⟨p2,rfl⟩:∃ q:Nat,g2=(q:Int):=⟨g2.toNat,by omega⟩
      have hjI:(j:Int) < (nl:Int):=by omega
      clear hcell hop hx
      go_upto_region 11 with fail
      have HXB:Hid (Blk (wr.alloc _) wr.heap.size 111 3 _):=qhq (Blk.made wr #[.int .i64 g0,.int .i64 (p1:Nat),.int .i64 (p2:Nat)] 111)
      have hbl:Below wr.heap.size wr (wr.alloc (.cells #[.int .i64 g0,.int .i64 (p1:Nat),.int .i64 (p2:Nat)] 111)):=qaq (qrq _ _) _
      generalize World.alloc wr _=W7 at HXB hbl ⊢
      replace HBD:=qhq (bd_later HBD.out hbl)
      replace HW:=qhq (bl_n9 HW.out hbl (by omega))
      replace HF:=qhq (HF.out.later hbl);replace HGL:=qhq (HGL.out.later hbl);replace HCB:=qhq (HCB.out.later hbl);replace HBr:=qhq (qtq HBr.out hbl);clear hbl
      clear d0 d1 d2
      have hs7:bb < W7.heap.size:=bd_lt HBD.out
      have y0:W7.cell? ⟨cb,0,none⟩=some (.int .i64 k):=HCB.out.cell (j:=0) (by simp)
      have u0:W7.cell? ⟨wr.heap.size,0,none⟩=some (.int .i64 g0):=HXB.out.cell (j:=0) (by simp)
      have u1:W7.cell? ⟨wr.heap.size,1,none⟩=some (.int .i64 p1):=HXB.out.cell (j:=1) (by simp)
      have u2:W7.cell? ⟨wr.heap.size,2,none⟩=some (.int .i64 p2):=HXB.out.cell (j:=2) (by simp)
      by_cases hg:g0=(k:Int)
      ·have hgb:(g0 == (k:Int))=true:=by simp [hg]
       have HL1:Hid (linesL k L (j + 1)=linesL k L j ++ lineL ⟨g0,p1,p2⟩):=qhq (by rw [HLS.out,if_pos hg])
       obtain ⟨s1,hs1⟩:∃ s:ByteArray,s=⟨(Lib.decDigits p1).toArray⟩:=⟨_,rfl⟩
       obtain ⟨s2,hs2⟩:∃ s:ByteArray,s=⟨(Lib.decDigits p2).toArray⟩:=⟨_,rfl⟩
       have H1:=qhq (fun (W:World) (hW:Below W7.heap.size W7 W)=>by have:=itoa_calls p1 W (by omega) (HTB.out W (qtq HBr.out hW));rw [← hs1] at this;exact this)
       have H2:=qhq (fun (W:World) (hW:Below W7.heap.size W7 W)=>by have:=itoa_calls p2 W (by omega) (HTB.out W (qtq HBr.out hW));rw [← hs2] at this;exact this)
       have e1:s1.size ≤ 21:=by rw [hs1];exact dec_len p1 (by omega)
       have e2:s2.size ≤ 21:=by rw [hs2];exact dec_len p2 (by omega)
       have HTX:=qhq (line_text s1 s2 ⟨g0,p1,p2⟩ (by rw [hs1];exact ba_lit _) (by rw [hs2];exact ba_lit _))
       clear hs1 hs2 HLS hg
       go_upto_region 12 with fail
       have HS0:Hid (Below W7.heap.size W7 W7.drew):=qhq (bl_drew (qrq _ _))
       have HC0:=qhq (show W7.drew.cell? ⟨wr.heap.size,1,none⟩=some (.int .i64 p1) ∧ W7.drew.cell? ⟨wr.heap.size,2,none⟩=some (.int .i64 p2) from ⟨u1,u2⟩)
       refine wp_region_H (fun w':World=>w'.cell? ⟨wr.heap.size,1,none⟩=some (.int .i64 p1) ∧ w'.cell? ⟨wr.heap.size,2,none⟩=some (.int .i64 p2)) (by kernel_rfl) ?_
       refine wpAnyH_take2 0 (v:=?v0l) (by rfl) (by kernel_rfl) (by intro _ _ _ h;exact h) HC0.out (by rfl) ?hy0l ?rest0l
       case hy0l =>
        intro w' hSw
        obtain ⟨s0,s1⟩:=hSw
        go_simp
        try with_reducible rfl
       simp only [Act.put,q1q]
       refine wpAnyH_take2 1 (v:=?v1l) (by rfl) (by kernel_rfl) (by intro _ _ _ h;exact h) HC0.out (by rfl) ?hy1l ?rest1l
       case hy1l =>
        intro w' hSw
        obtain ⟨s0,s1⟩:=hSw
        go_simp
        try with_reducible rfl
       simp only [Act.put]
       refine wpAnyH_take2 5 (v:=?v5l) (by rfl) (by kernel_rfl) (by intro _ _ _ h;exact h) HC0.out (by rfl) ?hy5l ?rest5l
       case hy5l =>
        intro w' hSw
        obtain ⟨s0,s1⟩:=hSw
        go_simp
        try with_reducible rfl
       simp only [Act.put]
       refine wpAnyH_take2 6 (v:=?v6l) (by rfl) (by kernel_rfl) (by intro _ _ _ h;exact h) HC0.out (by rfl) ?hy6l ?rest6l
       case hy6l =>
        intro w' hSw
        obtain ⟨s0,s1⟩:=hSw
        go_simp
        try with_reducible rfl
       simp only [Act.put]
       refine wpAnyH_one 2 (by rfl) (by kernel_rfl) rfl ?_
       intro K hK
       go_simp
       refine (H1.out _ HS0.out).mono ?_;rintro e wa ⟨rfl,hb9⟩
       have HS1:=qhq (qtq HS0.out hb9)
       have HC1:=qhq (show wa.cell? ⟨wr.heap.size,1,none⟩=some (.int .i64 p1) ∧ wa.cell? ⟨wr.heap.size,2,none⟩=some (.int .i64 p2) from ⟨qcq HS1.out u1,qcq HS1.out u2⟩)
       clear hb9
       dsimp only
       refine hK.out _ _ HC1.out ?_
       clear hK K
       refine wpAnyH_take2 3 (v:=?v3l) (by rfl) (by kernel_rfl) (by intro _ _ _ h;exact h) HC1.out (by rfl) ?hy3l ?rest3l
       case hy3l =>
        intro w' hSw
        clear hSw
        go_simp
        rw [if_neg (by first | omega | (simp only [ByteArray.size_append] at *;omega) | (simp [ByteArray.size_append];omega))]
       simp only [Act.put,q1q]
       refine wpAnyH_take2 4 (v:=?v4l) (by rfl) (by kernel_rfl) (by intro _ _ _ h;exact h) HC1.out (by rfl) ?hy4l ?rest4l
       case hy4l =>
        intro w' hSw
        clear hSw
        go_simp
        rw [if_neg (by first | omega | (simp only [ByteArray.size_append] at *;omega) | (simp [ByteArray.size_append];omega))]
       simp only [Act.put]
       refine wpAnyH_one 7 (by rfl) (by kernel_rfl) rfl ?_
       intro K hK
       go_simp
       refine (H2.out _ HS1.out).mono ?_;rintro e wb ⟨rfl,hb9⟩
       have HS2:=qhq (qtq HS1.out hb9)
       have HC2:=qhq (show wb.cell? ⟨wr.heap.size,1,none⟩=some (.int .i64 p1) ∧ wb.cell? ⟨wr.heap.size,2,none⟩=some (.int .i64 p2) from ⟨qcq HS2.out u1,qcq HS2.out u2⟩)
       clear hb9
       dsimp only
       refine hK.out _ _ HC2.out ?_
       clear hK K
       refine wpAnyH_take2 8 (v:=?v8l) (by rfl) (by kernel_rfl) (by intro _ _ _ h;exact h) HC2.out (by rfl) ?hy8l ?rest8l
       case hy8l =>
        intro w' hSw
        clear hSw
        go_simp
        rw [if_neg (by first | omega | (simp only [ByteArray.size_append] at *;omega) | (simp [ByteArray.size_append];omega))]
       simp only [Act.put,q1q]
       refine wpAnyH_take2 9 (v:=?v9l) (by rfl) (by kernel_rfl) (by intro _ _ _ h;exact h) HC2.out (by rfl) ?hy9l ?rest9l
       case hy9l =>
        intro w' hSw
        clear hSw
        go_simp
        rw [if_neg (by first | omega | (simp only [ByteArray.size_append] at *;omega) | (simp [ByteArray.size_append];omega))]
       simp only [Act.put]
       obtain ⟨S,hS⟩:∃ S:ByteArray,(⟨#[9]⟩:ByteArray) ++ s1 ++ ⟨#[32]⟩ ++ s2 ++ ⟨#[10]⟩=S:=⟨_,rfl⟩
       rw [hS] at HTX ⊢
       have hbl:=HS2.out
       replace HBD:=qhq (bd_later HBD.out hbl)
       replace HW:=qhq (bl_n9 HW.out hbl (by omega))
       have hsd:bb ≤ wb.heap.size:=by have:=hbl.size;omega
       replace HF:=qhq (HF.out.later hbl);replace HGL:=qhq (HGL.out.later hbl);replace HCB:=qhq (HCB.out.later hbl);clear hbl
       have hSz:S.size=S.data.toList.length:=ba_size S
       have hll:=line_len (x:=⟨g0,p1,p2⟩) (by dsimp only;omega) (by dsimp only;omega)
       have hWS:(Lib.byteCells (R ++ linesL k L j)).length + S.size ≤ 140737488355328:=by
        rw [Lib.byteCells_length,hSz,HTX.out,List.length_append]
        have:=HRN.out
        have:=HLN.out
        omega
       refine wpAnyH_one 10 (by rfl) (by kernel_rfl) rfl ?_
       intro K hK
       go_simp
       refine (writeString_calls bb bb _ S _ HBD.out hWS hsd).mono ?_;rintro e w8 ⟨rfl,hbd,hbw,hkb⟩
       have HXB9:=qhq ((HXB.out.later HS2.out).kb hkb (by decide) (by omega))
       dsimp only
       refine hK.out _ _ ⟨HXB9.out.cell (j:=1) (by simp),HXB9.out.cell (j:=2) (by simp)⟩ ?_
       clear hK K
       refine wpAnyH_done (by kernel_rfl) ?_ _
       rw [Lib.strCells_eq,← Lib.byteCells_append,HTX.out,List.append_assoc,← HL1.out] at hbd
       have HBD8:=qhq hbd
       have HF8:=qhq (HF.out.kb2 hkb (by decide) (by omega))
       have HGL8:=qhq (HGL.out.kb2 hkb (by decide) (by omega))
       have HCB8:=qhq (HCB.out.kb hkb (by decide) (by omega))
       have HW8:=qhq (bl_n9 HW.out hbw (Nat.le_refl _))
       clear hS y0 u0 u1 u2 HS0 HS1 HS2 HC0 HC1 HC2 HXB9 H1 H2 HBD HF HGL HCB HW HBr hbd hbw hkb hWS hSz hll HTX HLN
       go_wp2
       go_roundw
       case rel=>exact ⟨j + 1,by omega,by go_num,HBD8.out,HF8.out,HGL8.out,HCB8.out,HW8.out⟩
       case measure=>simp [intOf];omega
      ·have hgb:(g0 == (k:Int))=false:=by simp [hg]
       have HL1:Hid (linesL k L (j + 1)=linesL k L j):=qhq (by rw [HLS.out,if_neg hg])
       clear HLS hg
       go_wp2
       go_roundw
       case rel=>exact ⟨j + 1,by omega,by go_num,by rw [HL1.out];exact HBD.out,HF.out,HGL.out,HCB.out,HW.out⟩
       case measure=>simp [intOf];omega
     ·obtain rfl:j=nl:=by omega
      go_wp2
      go_roundw
      case rel=>exact ⟨k + 1,by omega,by go_num,by rw [HR1.out];exact HBD.out,HF.out,HGL.out,HW.out⟩
      case measure=>simp [intOf];omega
  ·obtain rfl:k=nf:=by omega
   go_wp2_with fail
   refine (bdString_calls bb _ _ HBD.out (Nat.le_of_lt hsr)).mono ?_;rintro e w9 ⟨rfl,hb⟩
   have HZ:=qhq (bl_n9 HBr.out hb (by omega))
   clear hb
   go_wp2
   go_ret
   rw [HRP.out]
   exact ⟨rfl,HZ.out⟩
end Go.Proofs.YtcklnjjbhngbcaaGreatDoor
