/- Lemmas and contracts of functions that the theorem of this claim leans on (texts D2). -/
import Derived.Test.YtcklnjjbhngbcaaGreatDoorRowTopz00
import Derived.Test.YtcklnjjbhngbcaaGreatDoorRowTopzB
import Derived.Test.YtcklnjjbhngbcaaGreatDoorRowTopz34
import Derived.Test.YtcklnjjbhngbcaaGreatDoorRowTopz35
namespace Go.Proofs.YtcklnjjbhngbcaaGreatDoor
open Go.RowKit Go.Proofs.Lens
theorem i_u8:(Tryz.prog.info? 5).map (fun i=>(i.zero,i.size,i.bytes))=some (some (.int .u8 0),1,1):=by kernel_rfl
theorem bl_then9 {lo:Nat} {a b c:World} (h:Below lo a b) (k:Below b.heap.size b c) (hl:lo ≤ b.heap.size):Below lo a c:=⟨k.os.trans h.os,k.tape.trans h.tape,k.output.trans h.output,Nat.le_trans h.size k.size,fun j hj=>(k.block j (Nat.lt_of_lt_of_le hj hl)).trans (h.block j hj)⟩
theorem bl_gO {lo lo2:Nat} {w w' W:World} {n:Nat} {e:TypeId} {C:Nat → Nat → Value} {v:Value} (h:Below lo w W) (hO:OwR W lo2 e 1 n C v) (hl:lo ≤ lo2) (hG:W.grownBy w' v.ownBlock) (hs:lo ≤ W.heap.size):Below lo w w' :=
 bl_own h hs (hO.lower hl) hG
set_option maxRecDepth 100000 in
set_option maxHeartbeats 20000000 in
theorem spec_Report_good (v1 v2:Value) (t:PTr) (w:World) (h:RdTr w v1 v2 t) (hsm:smTr t) (hs:soundP t=true) :
  Calls Tryz.prog 13 #[.agg #[v1,v2]] w fun e w'=>e=.returned (.string ⟨(repP t).toArray⟩) ∧ Below w.heap.size w w':=by
 have HT:=qhq h
 have HS:=qhq hsm
 obtain ⟨⟨A1,c1,rfl,hn1,-⟩,⟨vv,⟨A2,c2,rfl,hn2,-⟩,-⟩⟩:=h
 have HQ:=qhq hs
 have HK:=qhq (rep_ok t)
 clear hs hsm
 go_enter Tryz.func13,Tryz.ntmps13
 go_wp2_with fail
 refine (l1ok_is _ _ t _ (HT.out.later (by repeat (with_reducible first | exact qrq _ _ | exact HL.out | refine qnq ?_ _ | refine bl_drew ?_ | refine qaq ?_ _ | refine bl_set ?_ (by dsimp only;omega) _))) HS.out HQ.out).mono ?_;rintro e w1 ⟨rfl,hb⟩
 have HX:=qhq ((Blk.made w #[.slice A1 t.fns.length c1,.slice A2 t.moms.length c2] 26).later hb)
 have HB:=qhq (qtq (qaq (qrq _ w) _) hb)
 clear hb
 have x0:w1.cell? ⟨w.heap.size,0,none⟩=some (.slice A1 t.fns.length c1):=HX.out.cell (j:=0) (by simp)
 have x1:w1.cell? ⟨w.heap.size,1,none⟩=some (.slice A2 t.moms.length c2):=HX.out.cell (j:=1) (by simp)
 go_wp2_with fail
 clear x0 x1
 refine (spec_FnCounts_calls _ _ t _ (HT.out.later HB.out) HS.out).mono ?_;rintro e w2 ⟨vF,rfl,hF,hb⟩
 obtain ⟨AF,cF,rfl,-⟩:=hF.cap
 have HLP:Hid (∀ W:World,RdTr W (.slice A1 t.fns.length c1) (.slice A2 t.moms.length c2) t → Calls Tryz.prog 50 #[.agg #[.slice A1 t.fns.length c1,.slice A2 t.moms.length c2]] W (OwRet W 111 3 (lcP t).length (lcC (lcP t)))):=qhq (fun W hW=>spec_LineCounts_calls _ _ t W hW HS.out)
 have HRP:Hid (repP t=repL t.fns (fcP t) (lcP t) (fcP t).length):=qhq rfl
 generalize fcP t=F at hF HK HRP ⊢
 generalize lcP t=L at HK HLP HRP
 obtain ⟨nf,hnf⟩:∃ nf,F.length=nf:=⟨_,rfl⟩
 have HNF:=qhq hnf
 rw [hnf] at hF HRP ⊢
 have hnf3:nf ≤ 300 ∧ nf ≤ t.fns.length:=by rw [← hnf];exact HK.out.nf
 have HF:=qhq hF
 replace HX:=qhq (HX.out.later hb)
 replace HB:=qhq (qtq HB.out hb)
 have hsw:w.heap.size < w2.heap.size:=HX.out.lt
 clear hF hb hnf
 go_wp2_with fail
 generalize hlw:w2.heap.size=lw at *
 have HLW:=qhq hlw
 clear hlw
 go_loopw [3,16] (fun ov i wr=>∃ k:Nat,k ≤ nf ∧ i=.int .i64 k ∧ OwR wr lw 5 1 (repL t.fns F L k).length (byC (repL t.fns F L k)) ov ∧ Below lw w2 wr) (fun _ i _=>nf - (intOf i).toNat)
 case atStart=>exact ⟨0,by omega,rfl,OwR.nil,qrq _ _⟩
 case round =>
  obtain ⟨k,hk,rfl,hO,hb⟩:=hrel
  have HO:=qhq hO
  have hb':Below w2.heap.size w2 wr:=by rw [HLW.out];exact hb
  have HW:=qhq hb
  have HXr:=qhq (HX.out.later hb')
  have HFr:=qhq (OwR.later HF.out hb')
  have HTr:=qhq (HT.out.later (qtq HB.out hb'))
  have hsr:lw ≤ wr.heap.size:=by rw [← HLW.out];exact hb'.size
  clear hO hb hb'
  by_cases hkn:k < nf
  ·obtain ⟨A',c',he,hop⟩:=OwR.open' HFr.out
   cases he
   obtain ⟨bF,rfl,-,-,hcell,-⟩:=hop (by omega)
   have hfc:=HK.out.fc k (by rw [HNF.out];exact hkn)
   have hnm:=HK.out.names (by rw [HNF.out];omega) k
   have d0:wr.cell? ⟨bF,k * 4,none⟩=some (.int .i64 (elt F k).fn):=hcell k hkn 0 (by omega)
   have d1:wr.cell? ⟨bF,k * 4 + 1,none⟩=some (.int .i64 (elt F k).cal):=hcell k hkn 1 (by omega)
   have d2:wr.cell? ⟨bF,k * 4 + 2,none⟩=some (.int .i64 (elt F k).slf):=hcell k hkn 2 (by omega)
   have d3:wr.cell? ⟨bF,k * 4 + 3,none⟩=some (.int .i64 (elt F k).tot):=hcell k hkn 3 (by omega)
   have HRS:Hid (repL t.fns F L (k + 1)=if (elt F k).cal=0 then repL t.fns F L k else repL t.fns F L k ++ rowL (elt t.fns (elt F k).fn.toNat) (elt F k) ++ linesL (elt F k).fn L L.length):=qhq rfl
   have HRL:=qhq (rep_len HK.out k (by rw [HNF.out];exact hk))
   obtain ⟨c,hc⟩:∃ c,elt F k=c:=⟨_,rfl⟩
   rw [hc] at hfc d0 d1 d2 d3 HRS
   obtain ⟨f0,f1,f2,f3⟩:=c
   dsimp only at hfc d0 d1 d2 d3 HRS
   obtain ⟨hf0,hf1,hf1',hf2,hf2',hf3,hf3'⟩:=hfc
   subst hf0
   obtain ⟨q1,rfl⟩:∃ q:Nat,f1=(q:Int):=⟨f1.toNat,by omega⟩
   obtain ⟨q2,rfl⟩:∃ q:Nat,f2=(q:Int):=⟨f2.toNat,by omega⟩
   obtain ⟨q3,rfl⟩:∃ q:Nat,f3=(q:Int):=⟨f3.toNat,by omega⟩
   have hkI:(k:Int) < (nf:Int):=by omega
   clear hcell hop hc
   obtain ⟨As,cs,hes,-,hrow⟩:=HTr.out.1
   cases hes
   obtain ⟨bn,on,rfl,hnc⟩:=hrow (by omega)
   have z0:wr.cell? ⟨bn,on + k,none⟩=some (.string (elt t.fns k)):=by
    have:=hnc k (by omega) 0 (by omega)
    rw [Nat.mul_one,Nat.add_zero] at this
    exact this
   clear hrow hnc
   go_upto_region 7 with fail
   have HCB:Hid (Blk (wr.alloc _) wr.heap.size 106 4 _):=qhq (Blk.made wr #[.int .i64 k,.int .i64 (q1:Nat),.int .i64 (q2:Nat),.int .i64 (q3:Nat)] 106)
   have hbl:Below wr.heap.size wr (wr.alloc (.cells #[.int .i64 k,.int .i64 (q1:Nat),.int .i64 (q2:Nat),.int .i64 (q3:Nat)] 106)):=qaq (qrq _ _) _
   generalize World.alloc wr _=W3 at HCB hbl ⊢
   replace z0:=qcq hbl z0
   replace HW:=qhq (bl_then9 HW.out hbl hsr)
   replace HXr:=qhq (HXr.out.later hbl);replace HFr:=qhq (HFr.out.later hbl);replace HTr:=qhq (HTr.out.later hbl);replace HO:=qhq (HO.out.later hbl);clear hbl
   clear d0 d1 d2 d3
   have y0:W3.cell? ⟨wr.heap.size,0,none⟩=some (.int .i64 k):=HCB.out.cell (j:=0) (by simp)
   have y1:W3.cell? ⟨wr.heap.size,1,none⟩=some (.int .i64 q1):=HCB.out.cell (j:=1) (by simp)
   have y2:W3.cell? ⟨wr.heap.size,2,none⟩=some (.int .i64 q2):=HCB.out.cell (j:=2) (by simp)
   have y3:W3.cell? ⟨wr.heap.size,3,none⟩=some (.int .i64 q3):=HCB.out.cell (j:=3) (by simp)
   by_cases hq:q1=0
   ·subst hq
    have HR0:Hid (repL t.fns F L (k + 1)=repL t.fns F L k):=qhq (by rw [HRS.out];simp)
    go_wp2
    go_roundw
    case rel=>exact ⟨k + 1,by omega,by go_num,by rw [HR0.out];exact HO.out,HW.out⟩
    case measure=>simp [intOf];omega
   ·have hqb:((q1:Int) == 0)=false:=by simp;omega
    have HR1:Hid (repL t.fns F L (k + 1)=repL t.fns F L k ++ rowL (elt t.fns k) ⟨k,q1,q2,q3⟩ ++ linesL k L L.length):=qhq (by rw [HRS.out,if_neg (by omega)];rfl)
    have x0:W3.cell? ⟨w.heap.size,0,none⟩=some (.slice (some ⟨bn,on,none⟩) t.fns.length c1):=HXr.out.cell (j:=0) (by simp)
    obtain ⟨s1,hs1⟩:∃ s:ByteArray,s=⟨(Lib.decDigits k).toArray⟩:=⟨_,rfl⟩
    obtain ⟨s2,hs2⟩:∃ s:ByteArray,s=⟨(Lib.decDigits q1).toArray⟩:=⟨_,rfl⟩
    obtain ⟨s3,hs3⟩:∃ s:ByteArray,s=⟨(Lib.decDigits q2).toArray⟩:=⟨_,rfl⟩
    obtain ⟨s4,hs4⟩:∃ s:ByteArray,s=⟨(Lib.decDigits q3).toArray⟩:=⟨_,rfl⟩
    have H1:=qhq (fun W=>by have:=l5decimal_calls k W (by omega);rw [← hs1] at this;exact this)
    have H2:=qhq (fun W=>by have:=l5decimal_calls q1 W (by omega);rw [← hs2] at this;exact this)
    have H3:=qhq (fun W=>by have:=l5decimal_calls q2 W (by omega);rw [← hs3] at this;exact this)
    have H4:=qhq (fun W=>by have:=l5decimal_calls q3 W (by omega);rw [← hs4] at this;exact this)
    have e1:s1.size ≤ 21:=by rw [hs1];exact dec_len k (by omega)
    have e2:s2.size ≤ 21:=by rw [hs2];exact dec_len q1 (by omega)
    have e3:s3.size ≤ 21:=by rw [hs3];exact dec_len q2 (by omega)
    have e4:s4.size ≤ 21:=by rw [hs4];exact dec_len q3 (by omega)
    obtain ⟨nm,hnm2⟩:∃ nm,elt t.fns k=nm:=⟨_,rfl⟩
    rw [hnm2] at z0 hnm HR1
    have HTX:=qhq (row_text nm s1 s2 s3 s4 ⟨k,q1,q2,q3⟩ (by rw [hs1];exact ba_lit _) (by rw [hs2];exact ba_lit _) (by rw [hs3];exact ba_lit _) (by rw [hs4];exact ba_lit _))
    have hkf:(k:Int) < (t.fns.length:Int):=by omega
    clear hs1 hs2 hs3 hs4 hnm2 HRS
    go_upto_region 8 with fail
    have HS0:Hid (Below W3.heap.size W3 W3.drew):=qhq (bl_drew (qrq _ _))
    refine wp_region_F 27 (fun w':World=>Below W3.heap.size W3 w') (by kernel_rfl) ?_
    refine wpAnyF_take 0 (v:=?v0r) (by rfl) (by kernel_rfl) (by intro _ _ _ h;exact h) HS0.out (by rfl) ?hy0r ?rest0r
    case hy0r =>
     intro w' hSw
     have s0:=qcq hSw y0
     have s1:=qcq hSw y1
     have s2:=qcq hSw y2
     have s3:=qcq hSw y3
     have s4:=qcq hSw x0
     have s5:=qcq hSw z0
     clear hSw
     go_simp
     try with_reducible rfl
    simp only [Act.put,q1q]
    refine wpAnyF_take 1 (v:=?v1r) (by rfl) (by kernel_rfl) (by intro _ _ _ h;exact h) HS0.out (by rfl) ?hy1r ?rest1r
    case hy1r =>
     intro w' hSw
     have s0:=qcq hSw y0
     have s1:=qcq hSw y1
     have s2:=qcq hSw y2
     have s3:=qcq hSw y3
     have s4:=qcq hSw x0
     have s5:=qcq hSw z0
     clear hSw
     go_simp
     try with_reducible rfl
    simp only [Act.put]
    refine wpAnyF_take 4 (v:=?v4r) (by rfl) (by kernel_rfl) (by intro _ _ _ h;exact h) HS0.out (by rfl) ?hy4r ?rest4r
    case hy4r =>
     intro w' hSw
     have s0:=qcq hSw y0
     have s1:=qcq hSw y1
     have s2:=qcq hSw y2
     have s3:=qcq hSw y3
     have s4:=qcq hSw x0
     have s5:=qcq hSw z0
     clear hSw
     go_simp
     try with_reducible rfl
    simp only [Act.put]
    refine wpAnyF_take 5 (v:=?v5r) (by rfl) (by kernel_rfl) (by intro _ _ _ h;exact h) HS0.out (by rfl) ?hy5r ?rest5r
    case hy5r =>
     intro w' hSw
     have s0:=qcq hSw y0
     have s1:=qcq hSw y1
     have s2:=qcq hSw y2
     have s3:=qcq hSw y3
     have s4:=qcq hSw x0
     have s5:=qcq hSw z0
     clear hSw
     go_simp
     try with_reducible rfl
    simp only [Act.put]
    refine wpAnyF_take 6 (v:=?v6r) (by rfl) (by kernel_rfl) (by intro _ _ _ h;exact h) HS0.out (by rfl) ?hy6r ?rest6r
    case hy6r =>
     intro w' hSw
     have s0:=qcq hSw y0
     have s1:=qcq hSw y1
     have s2:=qcq hSw y2
     have s3:=qcq hSw y3
     have s4:=qcq hSw x0
     have s5:=qcq hSw z0
     clear hSw
     go_simp
     try with_reducible rfl
    simp only [Act.put]
    refine wpAnyF_take 7 (v:=?v7r) (by rfl) (by kernel_rfl) (by intro _ _ _ h;exact h) HS0.out (by rfl) ?hy7r ?rest7r
    case hy7r =>
     intro w' hSw
     have s0:=qcq hSw y0
     have s1:=qcq hSw y1
     have s2:=qcq hSw y2
     have s3:=qcq hSw y3
     have s4:=qcq hSw x0
     have s5:=qcq hSw z0
     clear hSw
     go_simp
     try with_reducible rfl
    simp only [Act.put]
    refine wpAnyF_take 8 (v:=?v8r) (by rfl) (by kernel_rfl) (by intro _ _ _ h;exact h) HS0.out (by rfl) ?hy8r ?rest8r
    case hy8r =>
     intro w' hSw
     have s0:=qcq hSw y0
     have s1:=qcq hSw y1
     have s2:=qcq hSw y2
     have s3:=qcq hSw y3
     have s4:=qcq hSw x0
     have s5:=qcq hSw z0
     clear hSw
     go_simp
     try with_reducible rfl
    simp only [Act.put]
    refine wpAnyF_take 9 (v:=?v9r) (by rfl) (by kernel_rfl) (by intro _ _ _ h;exact h) HS0.out (by rfl) ?hy9r ?rest9r
    case hy9r =>
     intro w' hSw
     have s0:=qcq hSw y0
     have s1:=qcq hSw y1
     have s2:=qcq hSw y2
     have s3:=qcq hSw y3
     have s4:=qcq hSw x0
     have s5:=qcq hSw z0
     clear hSw
     go_simp
     try with_reducible rfl
    simp only [Act.put]
    refine wpAnyF_take 12 (v:=?v12r) (by rfl) (by kernel_rfl) (by intro _ _ _ h;exact h) HS0.out (by rfl) ?hy12r ?rest12r
    case hy12r =>
     intro w' hSw
     have s0:=qcq hSw y0
     have s1:=qcq hSw y1
     have s2:=qcq hSw y2
     have s3:=qcq hSw y3
     have s4:=qcq hSw x0
     have s5:=qcq hSw z0
     clear hSw
     go_simp
     try with_reducible rfl
    simp only [Act.put]
    refine wpAnyF_take 13 (v:=?v13r) (by rfl) (by kernel_rfl) (by intro _ _ _ h;exact h) HS0.out (by rfl) ?hy13r ?rest13r
    case hy13r =>
     intro w' hSw
     have s0:=qcq hSw y0
     have s1:=qcq hSw y1
     have s2:=qcq hSw y2
     have s3:=qcq hSw y3
     have s4:=qcq hSw x0
     have s5:=qcq hSw z0
     clear hSw
     go_simp
     try with_reducible rfl
    simp only [Act.put]
    refine wpAnyF_take 17 (v:=?v17r) (by rfl) (by kernel_rfl) (by intro _ _ _ h;exact h) HS0.out (by rfl) ?hy17r ?rest17r
    case hy17r =>
     intro w' hSw
     have s0:=qcq hSw y0
     have s1:=qcq hSw y1
     have s2:=qcq hSw y2
     have s3:=qcq hSw y3
     have s4:=qcq hSw x0
     have s5:=qcq hSw z0
     clear hSw
     go_simp
     try with_reducible rfl
    simp only [Act.put]
    refine wpAnyF_take 18 (v:=?v18r) (by rfl) (by kernel_rfl) (by intro _ _ _ h;exact h) HS0.out (by rfl) ?hy18r ?rest18r
    case hy18r =>
     intro w' hSw
     have s0:=qcq hSw y0
     have s1:=qcq hSw y1
     have s2:=qcq hSw y2
     have s3:=qcq hSw y3
     have s4:=qcq hSw x0
     have s5:=qcq hSw z0
     clear hSw
     go_simp
     try with_reducible rfl
    simp only [Act.put]
    refine wpAnyF_take 22 (v:=?v22r) (by rfl) (by kernel_rfl) (by intro _ _ _ h;exact h) HS0.out (by rfl) ?hy22r ?rest22r
    case hy22r =>
     intro w' hSw
     have s0:=qcq hSw y0
     have s1:=qcq hSw y1
     have s2:=qcq hSw y2
     have s3:=qcq hSw y3
     have s4:=qcq hSw x0
     have s5:=qcq hSw z0
     clear hSw
     go_simp
     try with_reducible rfl
    simp only [Act.put]
    refine wpAnyF_take 23 (v:=?v23r) (by rfl) (by kernel_rfl) (by intro _ _ _ h;exact h) HS0.out (by rfl) ?hy23r ?rest23r
    case hy23r =>
     intro w' hSw
     have s0:=qcq hSw y0
     have s1:=qcq hSw y1
     have s2:=qcq hSw y2
     have s3:=qcq hSw y3
     have s4:=qcq hSw x0
     have s5:=qcq hSw z0
     clear hSw
     go_simp
     try with_reducible rfl
    simp only [Act.put]
    refine wpAnyF_one 2 (by rfl) (by kernel_rfl) rfl ?_
    intro K hK
    go_simp
    refine (H1.out _).mono ?_;rintro e wa ⟨rfl,hb9⟩
    have HS1:=qhq (qtq HS0.out hb9)
    clear hb9
    dsimp only
    refine hK.out _ _ (fun _=>HS1.out) ?_
    clear hK K
    refine wpAnyF_take 3 (v:=?v3r) (by rfl) (by kernel_rfl) (by intro _ _ _ h;exact h) HS1.out (by rfl) ?hy3r ?rest3r
    case hy3r =>
     intro w' hSw
     clear hSw
     go_simp
     rw [if_neg (by first | omega | (simp only [ByteArray.size_append] at *;omega) | (simp [ByteArray.size_append];omega))]
    simp only [Act.put,q1q]
    refine wpAnyF_take 10 (v:=?v10r) (by rfl) (by kernel_rfl) (by intro _ _ _ h;exact h) HS1.out (by rfl) ?hy10r ?rest10r
    case hy10r =>
     intro w' hSw
     have s0:=qcq hSw z0
     clear hSw
     go_simp
     rw [if_neg (by first | omega | (simp only [ByteArray.size_append] at *;omega) | (simp [ByteArray.size_append];omega))]
    simp only [Act.put]
    refine wpAnyF_take 11 (v:=?v11r) (by rfl) (by kernel_rfl) (by intro _ _ _ h;exact h) HS1.out (by rfl) ?hy11r ?rest11r
    case hy11r =>
     intro w' hSw
     clear hSw
     go_simp
     rw [if_neg (by first | omega | (simp only [ByteArray.size_append] at *;omega) | (simp [ByteArray.size_append];omega))]
    simp only [Act.put]
    refine wpAnyF_one 14 (by rfl) (by kernel_rfl) rfl ?_
    intro K hK
    go_simp
    refine (H2.out _).mono ?_;rintro e wb ⟨rfl,hb9⟩
    have HS2:=qhq (qtq HS1.out hb9)
    clear hb9
    dsimp only
    refine hK.out _ _ (fun _=>HS2.out) ?_
    clear hK K
    refine wpAnyF_take 15 (v:=?v15r) (by rfl) (by kernel_rfl) (by intro _ _ _ h;exact h) HS2.out (by rfl) ?hy15r ?rest15r
    case hy15r =>
     intro w' hSw
     clear hSw
     go_simp
     rw [if_neg (by first | omega | (simp only [ByteArray.size_append] at *;omega) | (simp [ByteArray.size_append];omega))]
    simp only [Act.put,q1q]
    refine wpAnyF_take 16 (v:=?v16r) (by rfl) (by kernel_rfl) (by intro _ _ _ h;exact h) HS2.out (by rfl) ?hy16r ?rest16r
    case hy16r =>
     intro w' hSw
     clear hSw
     go_simp
     rw [if_neg (by first | omega | (simp only [ByteArray.size_append] at *;omega) | (simp [ByteArray.size_append];omega))]
    simp only [Act.put]
    refine wpAnyF_one 19 (by rfl) (by kernel_rfl) rfl ?_
    intro K hK
    go_simp
    refine (H3.out _).mono ?_;rintro e wc ⟨rfl,hb9⟩
    have HS3:=qhq (qtq HS2.out hb9)
    clear hb9
    dsimp only
    refine hK.out _ _ (fun _=>HS3.out) ?_
    clear hK K
    refine wpAnyF_take 20 (v:=?v20r) (by rfl) (by kernel_rfl) (by intro _ _ _ h;exact h) HS3.out (by rfl) ?hy20r ?rest20r
    case hy20r =>
     intro w' hSw
     clear hSw
     go_simp
     rw [if_neg (by first | omega | (simp only [ByteArray.size_append] at *;omega) | (simp [ByteArray.size_append];omega))]
    simp only [Act.put,q1q]
    refine wpAnyF_take 21 (v:=?v21r) (by rfl) (by kernel_rfl) (by intro _ _ _ h;exact h) HS3.out (by rfl) ?hy21r ?rest21r
    case hy21r =>
     intro w' hSw
     clear hSw
     go_simp
     rw [if_neg (by first | omega | (simp only [ByteArray.size_append] at *;omega) | (simp [ByteArray.size_append];omega))]
    simp only [Act.put]
    refine wpAnyF_one 24 (by rfl) (by kernel_rfl) rfl ?_
    intro K hK
    go_simp
    refine (H4.out _).mono ?_;rintro e wd ⟨rfl,hb9⟩
    have HS4:=qhq (qtq HS3.out hb9)
    clear hb9
    dsimp only
    refine hK.out _ _ (fun _=>HS4.out) ?_
    clear hK K
    refine wpAnyF_take 25 (v:=?v25r) (by rfl) (by kernel_rfl) (by intro _ _ _ h;exact h) HS4.out (by rfl) ?hy25r ?rest25r
    case hy25r =>
     intro w' hSw
     clear hSw
     go_simp
     rw [if_neg (by first | omega | (simp only [ByteArray.size_append] at *;omega) | (simp [ByteArray.size_append];omega))]
    simp only [Act.put,q1q]
    refine wpAnyF_take 26 (v:=?v26r) (by rfl) (by kernel_rfl) (by intro _ _ _ h;exact h) HS4.out (by rfl) ?hy26r ?rest26r
    case hy26r =>
     intro w' hSw
     clear hSw
     go_simp
     rw [if_neg (by first | omega | (simp only [ByteArray.size_append] at *;omega) | (simp [ByteArray.size_append];omega))]
    simp only [Act.put]
    refine wpAnyF_one 27 (by rfl) (by kernel_rfl) rfl ?_
    intro K hK
    go_simp
    refine hK.out _ _ (fun h=>absurd rfl h) ?_
    clear hK K
    refine wpAnyF_done (by kernel_rfl) ?_ _
    obtain ⟨S,hS⟩:∃ S:ByteArray,s1 ++ ⟨#[32]⟩ ++ nm ++ ⟨#[32,99,97,108,108,115,32]⟩ ++ s2 ++ ⟨#[32,115,101,108,102,32]⟩ ++ s3 ++ ⟨#[32,116,111,116,97,108,32]⟩ ++ s4 ++ ⟨#[10]⟩=S:=⟨_,rfl⟩
    rw [hS] at HTX ⊢
    clear hS x0 y0 y1 y2 y3 z0 HS0 HS1 HS2 HS3 H1 H2 H3 H4
    have hbl:=HS4.out
    have hsr3:lw ≤ W3.heap.size:=by have:=HW.out.size;have:=HLW.out;omega
    replace HW:=qhq (bl_then9 HW.out hbl hsr3)
    have hsd:lw ≤ wd.heap.size:=by have:=hbl.size;omega
    replace HXr:=qhq (HXr.out.later hbl);replace HFr:=qhq (HFr.out.later hbl);replace HTr:=qhq (HTr.out.later hbl);replace HO:=qhq (HO.out.later hbl);replace HCB:=qhq (HCB.out.later hbl);clear hbl
    clear HS4
    go_wp2_with (at_builtin;refine stopped ?_)
    unfold Stopped
    refine wpList_appendS _ (by rfl) _ _ 22 9 (by rfl) lw 5 Tryz.underlying22 Tryz.underlying9 i_u8 _ (repL t.fns F L k) (by rfl) HO.out S (by rfl) (by rw [HTX.out];have:=HRL.out;have:=row_len (c:=⟨k,q1,q2,q3⟩) hnm (by dsimp only;omega) (by dsimp only;omega) (by dsimp only;omega) (by dsimp only;omega);omega) hsd ?_
    intro v5 w5 hO5 hG5
    rw [HTX.out] at hO5
    have hcb:=HCB.out.gO HO.out (by decide) hG5
    replace HW:=qhq (bl_gO HW.out HO.out (Nat.le_refl _) hG5 hsd)
    obtain ⟨R,hR⟩:∃ R,repL t.fns F L k ++ rowL nm ⟨k,q1,q2,q3⟩=R:=⟨_,rfl⟩
    have HRN:Hid (R.length ≤ 200000 * k + 200):=qhq (by rw [← hR,List.length_append];have:=HRL.out;have:=row_len (c:=⟨k,q1,q2,q3⟩) hnm (by dsimp only;omega) (by dsimp only;omega) (by dsimp only;omega) (by dsimp only;omega);omega)
    rw [hR] at hO5 HR1
    clear HTX HRL hR HO HCB hG5 HXr HFr HTr hnm hsd hsr hsr3
    obtain ⟨A5,c5,rfl,-⟩:=hO5.cap
    have HO:=qhq hO5
    have hW5:Below w2.heap.size w2 w5:=by rw [HLW.out];exact HW.out
    have HXr:=qhq (HX.out.later hW5)
    have HTr:=qhq (HT.out.later (qtq HB.out hW5))
    clear hO5 hW5
    have x0:w5.cell? ⟨w.heap.size,0,none⟩=some (.slice (some ⟨bn,on,none⟩) t.fns.length c1):=HXr.out.cell (j:=0) (by simp)
    have x1:w5.cell? ⟨w.heap.size,1,none⟩=some (.slice A2 t.moms.length c2):=HXr.out.cell (j:=1) (by simp)
    go_wp2_with fail
    clear x0 x1
    refine (HLP.out _ HTr.out).mono ?_;rintro e w6 ⟨vL,rfl,hL,hb⟩
    obtain ⟨AL,cL,rfl,-⟩:=hL.cap
    obtain ⟨nl,hnl⟩:∃ nl,L.length=nl:=⟨_,rfl⟩
    have HNL:=qhq hnl
    have hnl3:nl ≤ 3000:=by rw [← hnl];exact HK.out.nl
    rw [hnl] at hL HR1 ⊢
    clear hnl
    have HGL:=qhq hL
    have HCB:=qhq (hcb.later hb)
    have hs56:lw ≤ w5.heap.size:=by have:=HW.out.size;have:=HLW.out;omega
    replace HW:=qhq (bl_then9 HW.out hb hs56)
    clear hL hcb HXr HTr
    replace HO:=qhq (HO.out.later hb);clear hb
    go_wp2_with fail
    generalize w5.heap.size=lL at *
    generalize wr.heap.size=cb at *
    go_loopw [3,56] (fun ov i wx=>∃ j:Nat,j ≤ nl ∧ i=.int .i64 j ∧ OwR wx lw 5 1 (R ++ linesL k L j).length (byC (R ++ linesL k L j)) ov ∧ OwR wx lL 111 3 nl (lcC L) (.slice AL nl cL) ∧ Blk wx cb 106 4 (fun j=>#[Value.int .i64 k,.int .i64 (q1:Nat),.int .i64 (q2:Nat),.int .i64 (q3:Nat)].getD j undef) ∧ Below lw w2 wx) (fun _ i _=>nl - (intOf i).toNat)
    case atStart=>exact ⟨0,by omega,rfl,by rw [show linesL k L 0=[] from rfl,List.append_nil];exact HO.out,HGL.out,HCB.out,HW.out⟩
    case round =>
     clear HO HGL HCB HW
     obtain ⟨j,hj,rfl,hO,hGL,hCB,hb⟩:=hrel
     have HO:=qhq hO
     have HGL:=qhq hGL
     have HCB:=qhq hCB
     have HW:=qhq hb
     have hsx:lw ≤ wr.heap.size:=by have:=hb.size;have:=HLW.out;omega
     clear hO hGL hCB hb
     by_cases hjn:j < nl
     ·obtain ⟨A',c',he,hop⟩:=OwR.open' HGL.out
      cases he
      obtain ⟨bL,rfl,-,-,hcell,-⟩:=hop (by omega)
      have hlc:=HK.out.lc j (by rw [HNL.out];exact hjn)
      have d0:wr.cell? ⟨bL,j * 3,none⟩=some (.int .i64 (elt L j).fn):=hcell j hjn 0 (by omega)
      have d1:wr.cell? ⟨bL,j * 3 + 1,none⟩=some (.int .i64 (elt L j).line):=hcell j hjn 1 (by omega)
      have d2:wr.cell? ⟨bL,j * 3 + 2,none⟩=some (.int .i64 (elt L j).cnt):=hcell j hjn 2 (by omega)
      have HLS:Hid (linesL k L (j + 1)=if (elt L j).fn=k then linesL k L j ++ lineL (elt L j) else linesL k L j):=qhq rfl
      have HLN:=qhq (lines_len HK.out (k:Int) j (by rw [HNL.out];exact hj))
      obtain ⟨x,hx⟩:∃ x,elt L j=x:=⟨_,rfl⟩
      rw [hx] at hlc d0 d1 d2 HLS
      obtain ⟨g0,g1,g2⟩:=x
      dsimp only at hlc d0 d1 d2 HLS
      obtain ⟨hc0,hc1,hg0,hg0',hg1,hg1'⟩:=hlc
      obtain ⟨p1,rfl⟩:∃ q:Nat,g1=(q:Int):=⟨g1.toNat,by omega⟩
      obtain ⟨p2,rfl⟩:∃ q:Nat,g2=(q:Int):=⟨g2.toNat,by omega⟩
      have hjI:(j:Int) < (nl:Int):=by omega
      clear hcell hop hx
      go_upto_region 13 with fail
      have HXB:Hid (Blk (wr.alloc _) wr.heap.size 111 3 _):=qhq (Blk.made wr #[.int .i64 g0,.int .i64 (p1:Nat),.int .i64 (p2:Nat)] 111)
      have hbl:Below wr.heap.size wr (wr.alloc (.cells #[.int .i64 g0,.int .i64 (p1:Nat),.int .i64 (p2:Nat)] 111)):=qaq (qrq _ _) _
      generalize World.alloc wr _=W7 at HXB hbl ⊢
      replace HW:=qhq (bl_then9 HW.out hbl hsx)
      replace HO:=qhq (HO.out.later hbl);replace HGL:=qhq (HGL.out.later hbl);replace HCB:=qhq (HCB.out.later hbl);clear hbl
      clear d0 d1 d2
      have hs7:lw ≤ W7.heap.size:=by have:=HW.out.size;have:=HLW.out;omega
      have y0:W7.cell? ⟨cb,0,none⟩=some (.int .i64 k):=HCB.out.cell (j:=0) (by simp)
      have u0:W7.cell? ⟨wr.heap.size,0,none⟩=some (.int .i64 g0):=HXB.out.cell (j:=0) (by simp)
      have u1:W7.cell? ⟨wr.heap.size,1,none⟩=some (.int .i64 p1):=HXB.out.cell (j:=1) (by simp)
      have u2:W7.cell? ⟨wr.heap.size,2,none⟩=some (.int .i64 p2):=HXB.out.cell (j:=2) (by simp)
      by_cases hg:g0=(k:Int)
      ·have hgb:(g0 == (k:Int))=true:=by simp [hg]
       have HL1:Hid (linesL k L (j + 1)=linesL k L j ++ lineL ⟨g0,p1,p2⟩):=qhq (by rw [HLS.out,if_pos hg])
       obtain ⟨s1,hs1⟩:∃ s:ByteArray,s=⟨(Lib.decDigits p1).toArray⟩:=⟨_,rfl⟩
       obtain ⟨s2,hs2⟩:∃ s:ByteArray,s=⟨(Lib.decDigits p2).toArray⟩:=⟨_,rfl⟩
       have H1:=qhq (fun W=>by have:=l5decimal_calls p1 W (by omega);rw [← hs1] at this;exact this)
       have H2:=qhq (fun W=>by have:=l5decimal_calls p2 W (by omega);rw [← hs2] at this;exact this)
       have e1:s1.size ≤ 21:=by rw [hs1];exact dec_len p1 (by omega)
       have e2:s2.size ≤ 21:=by rw [hs2];exact dec_len p2 (by omega)
       have HTX:=qhq (line_text s1 s2 ⟨g0,p1,p2⟩ (by rw [hs1];exact ba_lit _) (by rw [hs2];exact ba_lit _))
       clear hs1 hs2 HLS hg
       go_upto_region 14 with fail
       have HS0:Hid (Below W7.heap.size W7 W7.drew):=qhq (bl_drew (qrq _ _))
       refine wp_region_F 10 (fun w':World=>Below W7.heap.size W7 w') (by kernel_rfl) ?_
       refine wpAnyF_take 0 (v:=?v0l) (by rfl) (by kernel_rfl) (by intro _ _ _ h;exact h) HS0.out (by rfl) ?hy0l ?rest0l
       case hy0l =>
        intro w' hSw
        have s0:=qcq hSw u1
        clear hSw
        go_simp
        try with_reducible rfl
       simp only [Act.put,q1q]
       refine wpAnyF_take 1 (v:=?v1l) (by rfl) (by kernel_rfl) (by intro _ _ _ h;exact h) HS0.out (by rfl) ?hy1l ?rest1l
       case hy1l =>
        intro w' hSw
        have s0:=qcq hSw u1
        clear hSw
        go_simp
        try with_reducible rfl
       simp only [Act.put]
       refine wpAnyF_take 5 (v:=?v5l) (by rfl) (by kernel_rfl) (by intro _ _ _ h;exact h) HS0.out (by rfl) ?hy5l ?rest5l
       case hy5l =>
        intro w' hSw
        have s0:=qcq hSw u2
        clear hSw
        go_simp
        try with_reducible rfl
       simp only [Act.put]
       refine wpAnyF_take 6 (v:=?v6l) (by rfl) (by kernel_rfl) (by intro _ _ _ h;exact h) HS0.out (by rfl) ?hy6l ?rest6l
       case hy6l =>
        intro w' hSw
        have s0:=qcq hSw u2
        clear hSw
        go_simp
        try with_reducible rfl
       simp only [Act.put]
       refine wpAnyF_one 2 (by rfl) (by kernel_rfl) rfl ?_
       intro K hK
       go_simp
       refine (H1.out _).mono ?_;rintro e wa ⟨rfl,hb9⟩
       have HS1:=qhq (qtq HS0.out hb9)
       clear hb9
       dsimp only
       refine hK.out _ _ (fun _=>HS1.out) ?_
       clear hK K
       refine wpAnyF_take 3 (v:=?v3l) (by rfl) (by kernel_rfl) (by intro _ _ _ h;exact h) HS1.out (by rfl) ?hy3l ?rest3l
       case hy3l =>
        intro w' hSw
        clear hSw
        go_simp
        rw [if_neg (by first | omega | (simp only [ByteArray.size_append] at *;omega) | (simp [ByteArray.size_append];omega))]
       simp only [Act.put,q1q]
       refine wpAnyF_take 4 (v:=?v4l) (by rfl) (by kernel_rfl) (by intro _ _ _ h;exact h) HS1.out (by rfl) ?hy4l ?rest4l
       case hy4l =>
        intro w' hSw
        clear hSw
        go_simp
        rw [if_neg (by first | omega | (simp only [ByteArray.size_append] at *;omega) | (simp [ByteArray.size_append];omega))]
       simp only [Act.put]
       refine wpAnyF_one 7 (by rfl) (by kernel_rfl) rfl ?_
       intro K hK
       go_simp
       refine (H2.out _).mono ?_;rintro e wb ⟨rfl,hb9⟩
       have HS2:=qhq (qtq HS1.out hb9)
       clear hb9
       dsimp only
       refine hK.out _ _ (fun _=>HS2.out) ?_
       clear hK K
       refine wpAnyF_take 8 (v:=?v8l) (by rfl) (by kernel_rfl) (by intro _ _ _ h;exact h) HS2.out (by rfl) ?hy8l ?rest8l
       case hy8l =>
        intro w' hSw
        clear hSw
        go_simp
        rw [if_neg (by first | omega | (simp only [ByteArray.size_append] at *;omega) | (simp [ByteArray.size_append];omega))]
       simp only [Act.put,q1q]
       refine wpAnyF_take 9 (v:=?v9l) (by rfl) (by kernel_rfl) (by intro _ _ _ h;exact h) HS2.out (by rfl) ?hy9l ?rest9l
       case hy9l =>
        intro w' hSw
        clear hSw
        go_simp
        rw [if_neg (by first | omega | (simp only [ByteArray.size_append] at *;omega) | (simp [ByteArray.size_append];omega))]
       simp only [Act.put]
       refine wpAnyF_one 10 (by rfl) (by kernel_rfl) rfl ?_
       intro K hK
       go_simp
       refine hK.out _ _ (fun h=>absurd rfl h) ?_
       clear hK K
       refine wpAnyF_done (by kernel_rfl) ?_ _
       obtain ⟨S,hS⟩:∃ S:ByteArray,(⟨#[9]⟩:ByteArray) ++ s1 ++ ⟨#[32]⟩ ++ s2 ++ ⟨#[10]⟩=S:=⟨_,rfl⟩
       rw [hS] at HTX ⊢
       clear hS y0 u0 u1 u2 HS0 HS1 H1 H2
       have hbl:=HS2.out
       replace HW:=qhq (bl_then9 HW.out hbl hs7)
       have hsd:lw ≤ wb.heap.size:=by have:=hbl.size;omega
       replace HO:=qhq (HO.out.later hbl);replace HGL:=qhq (HGL.out.later hbl);replace HCB:=qhq (HCB.out.later hbl);clear hbl
       clear HS2
       go_wp2_with (at_builtin;refine stopped ?_)
       unfold Stopped
       refine wpList_appendS _ (by rfl) _ _ 22 9 (by rfl) lw 5 Tryz.underlying22 Tryz.underlying9 i_u8 _ (R ++ linesL k L j) (by rfl) HO.out S (by rfl) (by rw [HTX.out,List.length_append];have:=HRN.out;have:=HLN.out;have:=line_len (x:=⟨g0,p1,p2⟩) (by dsimp only;omega) (by dsimp only;omega);omega) hsd ?_
       intro v8 w8 hO8 hG8
       rw [HTX.out,List.append_assoc,← HL1.out] at hO8
       have HO8:=qhq hO8
       have HGL8:=qhq (HGL.out.gO HO.out (by decide) hG8)
       have HCB8:=qhq (HCB.out.gO HO.out (by decide) hG8)
       have HW8:=qhq (bl_gO HW.out HO.out (Nat.le_refl _) hG8 hsd)
       obtain ⟨A8,c8,rfl,-⟩:=hO8.cap
       clear hO8 hG8 HO HGL HCB HW
       go_wp2
       go_roundw
       case rel=>exact ⟨j + 1,by omega,by go_num,by have h:=HO8.out;simp only [List.length_append] at h ⊢;exact h,HGL8.out,HCB8.out,HW8.out⟩
       case measure=>simp [intOf];omega
      ·have hgb:(g0 == (k:Int))=false:=by simp [hg]
       have HL1:Hid (linesL k L (j + 1)=linesL k L j):=qhq (by rw [HLS.out,if_neg hg])
       clear HLS hg
       go_wp2
       go_roundw
       case rel=>exact ⟨j + 1,by omega,by go_num,by rw [HL1.out];exact HO.out,HGL.out,HCB.out,HW.out⟩
       case measure=>simp [intOf];omega
     ·obtain rfl:j=nl:=by omega
      go_wp2
      go_roundw
      case rel=>exact ⟨k + 1,by omega,by go_num,by rw [HR1.out];exact HO.out,HW.out⟩
      case measure=>simp [intOf];omega
  ·obtain rfl:k=nf:=by omega
   have hcv:=conv_bytes HO.out
   obtain ⟨A9,c9,rfl,-⟩:=HO.out.cap
   have HZ:=qhq (show Below w.heap.size w wr from qtq HB.out (by rw [HLW.out];exact HW.out))
   clear HO HXr HFr HTr HW
   go_wp2_with fail
   go_ret
   rw [HRP.out]
   exact ⟨rfl,HZ.out⟩
set_option maxRecDepth 100000 in
set_option maxHeartbeats 2000000 in
theorem spec_Report_bad (v1 v2:Value) (t:PTr) (w:World) (h:RdTr w v1 v2 t) (hsm:smTr t) (hs:soundP t=false) :
  Calls Tryz.prog 13 #[.agg #[v1,v2]] w fun e w'=>e=.returned (.string ⟨(repP t).toArray⟩) ∧ Below w.heap.size w w':=by
 have HT:=qhq h
 have HS:=qhq hsm
 obtain ⟨⟨A1,c1,rfl,hn1,-⟩,⟨vv,⟨A2,c2,rfl,hn2,-⟩,-⟩⟩:=h
 have HR:Hid (repP t=[]):=qhq (by unfold repP fcP;rw [hs];rfl)
 have HQ:=qhq hs
 clear hs hsm
 go_enter Tryz.func13,Tryz.ntmps13
 go_wp2_with fail
 refine (l1ok_is _ _ t _ (HT.out.later (by repeat (with_reducible first | exact qrq _ _ | exact HL.out | refine qnq ?_ _ | refine bl_drew ?_ | refine qaq ?_ _ | refine bl_set ?_ (by dsimp only;omega) _))) HS.out HQ.out).mono ?_;rintro e w1 ⟨rfl,hb⟩
 have HB:=qhq (qtq (qaq (qrq _ w) _) hb)
 clear hb
 go_wp2
 go_ret
 rw [HR.out]
 exact ⟨rfl,HB.out⟩
theorem spec_Report_calls (v1 v2:Value) (t:PTr) (w:World) (h:RdTr w v1 v2 t) (hsm:smTr t) :
  Calls Tryz.prog 13 #[.agg #[v1,v2]] w fun e w'=>e=.returned (.string ⟨(repP t).toArray⟩) ∧ Below w.heap.size w w':=by
 cases hs:soundP t with
 | false=>exact spec_Report_bad v1 v2 t w h hsm hs
 | true=>exact spec_Report_good v1 v2 t w h hsm hs
end Go.Proofs.YtcklnjjbhngbcaaGreatDoor
