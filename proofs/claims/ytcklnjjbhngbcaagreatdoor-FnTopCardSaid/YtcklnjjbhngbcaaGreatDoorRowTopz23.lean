/- Lemmas and contracts of functions that the theorem of this claim leans on (texts Q10). -/
import Derived.Test.YtcklnjjbhngbcaaGreatDoorRowTopz00
import Derived.Test.YtcklnjjbhngbcaaGreatDoorRowTopz21
import Derived.Test.YtcklnjjbhngbcaaGreatDoorRowTopz22
namespace Go.Proofs.YtcklnjjbhngbcaaGreatDoor
open Go.RowKit Go.Proofs.Lens
set_option linter.unusedSimpArgs false
theorem askOk_in2 {n:Int} {nm:ByteArray} {st:PStop} (h:askOk ⟨2,n,nm,st⟩=true):0 ≤ n ∧ n ≤ 49:=by
 unfold askOk at h
 simp at h
 exact inB_true.1 h.1.1
theorem eraseQ_len {ss:List PStop} {i:Nat} (hi:i < ss.length):(ss.eraseIdx i).length=ss.length - 1:=by rw [List.length_eraseIdx,if_pos hi]
theorem elt_erase {ss:List PStop} {i a:Nat} (hi:i < ss.length) (ha:a < ss.length - 1):elt (ss.eraseIdx i) a=elt ss (if a < i then a else a + 1):=by
 by_cases h:a < i
 ·rw [if_pos h,elt_eq (by rw [eraseQ_len hi];omega),elt_eq (by omega),List.getElem_eraseIdx_of_lt _ h]
 ·rw [if_neg h,elt_eq (by rw [eraseQ_len hi];omega),elt_eq (by omega),List.getElem_eraseIdx_of_ge _ (by omega)]
set_option maxRecDepth 100000 in
set_option maxHeartbeats 4000000 in
theorem q2_calls (lo l:Nat) (v1 v2:Value) (t:PTr) (L:Lk) (hv pv:Value) (a:PAsk) (w:World) (h:SpL w lo l t.moms.length t.moms v1 v2 L hv pv) (wb:World) (hrb:RdTr wb v1 v2 t) (hbb:Below wb.heap.size wb w) (hbl:wb.heap.size ≤ lo) (hsm:smTr t) (hso:soundP t=true) (hok:LkOk t L) (hlo:lo ≤ l) (hl:L.past.length ≤ 1000000)
  (h1:a.op=2) (ha:askOk a=true) (hz:a.nm.size ≤ 9223372036854775807) :
  Calls Tryz.prog 37 #[.pointer (some ⟨l,0,none⟩),.agg #[.int .i64 a.op,.int .i64 a.n,.string a.nm,.int .i64 a.stop.kind,.int .i64 a.stop.fn,.int .i64 a.stop.line,.string a.stop.nm]] w (AnsPost (doClear L a) lo l t.moms.length t.moms v1 v2 w):=by
 have hl9:=hl
 clear hl9
 obtain ⟨op,n,nm,st⟩:=a
 have h1:op=2:=h1
 subst h1
 have hlw:lo ≤ w.heap.size:=Nat.le_trans hlo (Nat.le_of_lt h.blk.lt)
 obtain ⟨A4,c4,rfl,-,-⟩:=h.past.cap
 obtain ⟨A3,c3,rfl,hc3⟩:=h.hits.cap
 have HS:=qhq h
 have HRB:=qhq hrb
 have HBB:=qhq hbb
 have HSM:=qhq hsm
 have HSO:=qhq hso
 have HOK:=qhq hok
 have hok':=qhq ha
 have hln:=hok.ln
 have hpl:=hok.lo
 have hph:=hok.hi
 have hmn:=(sound_fns (sound_iff hso)).2.2
 obtain ⟨⟨A1,c1,rfl,hn1,-⟩,⟨vv,⟨A2,c2,rfl,hn2,-⟩,-⟩⟩:=hrb
 have hba:=qaq (qaq (qaq (qrq _ w) (.cells #[.int .i64 2,.int .i64 n,.string nm,.int .i64 st.kind,.int .i64 st.fn,.int .i64 st.line,.string st.nm] 47)) (.cells #[.int .i64 0,.int .i64 0,.int .i64 0,.string ⟨#[]⟩,.slice none 0 0,.slice none 0 0] 38)) (.cells #[.int .i64 0,.int .i64 0,.int .i64 0,.string ⟨#[]⟩,.slice none 0 0,.slice none 0 0] 38)
 have hA:=((ask_box w 2 n nm st).alloc (.cells #[.int .i64 0,.int .i64 0,.int .i64 0,.string ⟨#[]⟩,.slice none 0 0,.slice none 0 0] 38)).alloc (.cells #[.int .i64 0,.int .i64 0,.int .i64 0,.string ⟨#[]⟩,.slice none 0 0,.slice none 0 0] 38)
 have hR:=(told_box (w.alloc (.cells #[.int .i64 2,.int .i64 n,.string nm,.int .i64 st.kind,.int .i64 st.fn,.int .i64 st.line,.string st.nm] 47))).alloc (.cells #[.int .i64 0,.int .i64 0,.int .i64 0,.string ⟨#[]⟩,.slice none 0 0,.slice none 0 0] 38)
 have hO:=told_box ((w.alloc (.cells #[.int .i64 2,.int .i64 n,.string nm,.int .i64 st.kind,.int .i64 st.fn,.int .i64 st.line,.string st.nm] 47)).alloc (.cells #[.int .i64 0,.int .i64 0,.int .i64 0,.string ⟨#[]⟩,.slice none 0 0,.slice none 0 0] 38))
 rw [World.size_alloc] at hR
 rw [World.size_alloc,World.size_alloc] at hO
 have HA:=qhq hA
 have HRS:=qhq hR
 have HO:=qhq hO
 have HW:=qhq hba
 clear h hsm hso hok hA hR hO hba hbb ha
 go_enter Tryz.func37,Tryz.ntmps37
 go_wp2_with fail
 refine (l5askOk_calls ⟨2,n,nm,st⟩ _ hz).mono ?_;rintro e w1 ⟨rfl,hb⟩
 rw [hok'.out]
 have hbw:=qtq HW.out hb
 have HMV:=qhq (Mv.of_below (ts:=qTys) hbw hlw)
 replace HA:=qhq (HA.out.later hb);replace HRS:=qhq (HRS.out.later hb);replace HO:=qhq (HO.out.later hb);clear hb
 replace HS:=qhq (HS.out.later hbw)
 have HR:=qhq (HRB.out.later (bl_trans9 HBB.out (bl_low9 hbw (Nat.le_trans hbl hlw))))
 clear hbw HW
 obtain ⟨q,hq⟩:∃ q,w.heap.size=q:=⟨_,rfl⟩
 have HQ:=qhq hq
 rw [hq] at HA HRS HO hlw ⊢
 clear hq
 have x0:w1.cell? ⟨q,0,none⟩=some (.int .i64 2):=HA.out.cell (j:=0) (by omega)
 have hw1:q ≤ w1.heap.size:=by have:=HA.out.lt;omega
 have hnr:=askOk_in2 hok'.out
 obtain ⟨i,hi⟩:∃ i:Nat,n=(i:Int):=⟨n.toNat,by omega⟩
 have HI:=qhq hi
 go_upto_region 13 with fail
 clear x0
 have hbd:Below w1.heap.size w1 w1.drew:=bl_drew (qrq _ _)
 replace HMV:=qhq HMV.out.drew
 replace HS:=qhq (HS.out.later hbd);replace HA:=qhq (HA.out.later hbd);replace HRS:=qhq (HRS.out.later hbd);replace HO:=qhq (HO.out.later hbd);replace HR:=qhq (HR.out.later hbd);clear hbd
 have hw2:q ≤ w1.drew.heap.size:=hw1
 refine wp_region_H (fun w':World=>Below w1.drew.heap.size w1.drew w') (by kernel_rfl) ?_
 generalize w1.drew=W2 at HMV HS HA HRS HO HR hw2 ⊢
 have HS0:Hid (Below W2.heap.size W2 W2):=qhq (qrq _ _)
 have z3:W2.cell? ⟨l,3,none⟩=some (.slice A3 L.ss.length c3):=HS.out.blk.cell (j:=3) (by omega)
 have zn:W2.cell? ⟨q,1,none⟩=some (.int .i64 n):=HA.out.cell (j:=1) (by omega)
 rw [hi] at zn
 clear hi hnr HR
 refine wpAnyH_take2 0 (v:=?v0m) (by rfl) (by kernel_rfl) (by intro _ _ _ h;exact h) HS0.out (by rfl) ?hy0m ?rest0m
 case hy0m =>
  intro w' hSw
  have sz3:=qcq hSw z3
  have szn:=qcq hSw zn
  clear hSw
  go_simp
  try with_reducible rfl
 simp only [Act.put,q1q,q2q,q3q]
 refine wpAnyH_take2 1 (v:=?v1m) (by rfl) (by kernel_rfl) (by intro _ _ _ h;exact h) HS0.out (by rfl) ?hy1m ?rest1m
 case hy1m =>
  intro w' hSw
  have sz3:=qcq hSw z3
  have szn:=qcq hSw zn
  clear hSw
  go_simp
  try with_reducible rfl
 simp only [Act.put,q1q,q2q,q3q]
 refine wpAnyH_take2 2 (v:=?v2m) (by rfl) (by kernel_rfl) (by intro _ _ _ h;exact h) HS0.out (by rfl) ?hy2m ?rest2m
 case hy2m =>
  intro w' hSw
  have sz3:=qcq hSw z3
  have szn:=qcq hSw zn
  clear hSw
  go_simp
  try with_reducible rfl
 simp only [Act.put,q1q,q2q,q3q]
 refine wpAnyH_take2 3 (v:=?v3m) (by rfl) (by kernel_rfl) (by intro _ _ _ h;exact h) HS0.out (by rfl) ?hy3m ?rest3m
 case hy3m =>
  intro w' hSw
  have sz3:=qcq hSw z3
  have szn:=qcq hSw zn
  clear hSw
  go_simp
  try with_reducible rfl
 simp only [Act.put,q1q,q2q,q3q]
 refine wpAnyH_take2 4 (v:=?v4m) (by rfl) (by kernel_rfl) (by intro _ _ _ h;exact h) HS0.out (by rfl) ?hy4m ?rest4m
 case hy4m =>
  intro w' hSw
  have sz3:=qcq hSw z3
  have szn:=qcq hSw zn
  clear hSw
  go_simp
  try with_reducible rfl
 simp only [Act.put,q1q,q2q,q3q]
 refine wpAnyH_take2 5 (v:=?v5m) (by rfl) (by kernel_rfl) (by intro _ _ _ h;exact h) HS0.out (by rfl) ?hy5m ?rest5m
 case hy5m =>
  intro w' hSw
  have sz3:=qcq hSw z3
  have szn:=qcq hSw zn
  clear hSw
  go_simp
  try with_reducible rfl
 simp only [Act.put,q1q,q2q,q3q]
 refine wpAnyH_take2 6 (v:=?v6m) (by rfl) (by kernel_rfl) (by intro _ _ _ h;exact h) HS0.out (by rfl) ?hy6m ?rest6m
 case hy6m =>
  intro w' hSw
  have sz3:=qcq hSw z3
  have szn:=qcq hSw zn
  clear hSw
  go_simp
  try with_reducible rfl
 simp only [Act.put,q1q,q2q,q3q]
 refine wpAnyH_take2 7 (v:=?v7m) (by rfl) (by kernel_rfl) (by intro _ _ _ h;exact h) HS0.out (by rfl) ?hy7m ?rest7m
 case hy7m =>
  intro w' hSw
  have sz3:=qcq hSw z3
  have szn:=qcq hSw zn
  clear hSw
  go_simp
  try with_reducible rfl
 simp only [Act.put,q1q,q2q,q3q]
 refine wpAnyH_done (by kernel_rfl) ?_ _
 simp only [List.getElem_toArray,List.getElem_cons_zero,List.getElem_cons_succ,q1q,q2q,q3q]
 clear HS0
 by_cases hc:L.ss.length ≤ i
 ·have hci:(L.ss.length:Int) ≤ (i:Int):=by omega
  have hu:doClear L ⟨2,n,nm,st⟩=(td0,L,2):=by
   show (if (L.ss.length:Int) ≤ n then (td0,L,(2:Int)) else _)=_
   rw [if_pos (by rw [HI.out];omega)]
  have r0:=HRS.out.cell (j:=0) (by omega)
  have e0:=HRS.out.free 0
  have o0:=HO.out.cell (j:=0) (by omega)
  have g0:=HO.out.free 0
  have r1:=HRS.out.cell (j:=1) (by omega)
  have e1:=HRS.out.free 1
  have o1:=HO.out.cell (j:=1) (by omega)
  have g1:=HO.out.free 1
  have r2:=HRS.out.cell (j:=2) (by omega)
  have e2:=HRS.out.free 2
  have o2:=HO.out.cell (j:=2) (by omega)
  have g2:=HO.out.free 2
  have r3:=HRS.out.cell (j:=3) (by omega)
  have e3:=HRS.out.free 3
  have o3:=HO.out.cell (j:=3) (by omega)
  have g3:=HO.out.free 3
  have r4:=HRS.out.cell (j:=4) (by omega)
  have e4:=HRS.out.free 4
  have o4:=HO.out.cell (j:=4) (by omega)
  have g4:=HO.out.free 4
  have r5:=HRS.out.cell (j:=5) (by omega)
  have e5:=HRS.out.free 5
  have o5:=HO.out.cell (j:=5) (by omega)
  have g5:=HO.out.free 5
  simp only [tdF] at r0 r1 r2 r3 r4 r5 o0 o1 o2 o3 o4 o5
  go_wp2_with fail
  refine bodyPost_ret (v:=.agg #[.int .i64 0,.int .i64 2,.int .i64 0,.string ⟨#[]⟩,.slice none 0 0,.slice none 0 0]) (by simp [results,Tryz.results37,go_sem,r0,r1,r2,r3,r4,r5,o0,o1,o2,o3,o4,o5,td0]) rfl ?_
  rw [hu];exact ans_end (q:={ td0 with code:=2 }) (by rfl) (HS.out.farT HO.out 1 _) (HRS.out.far (show q + 1 ≠ q + 1 + 1 by omega) _) OwR.nil (owr_z OwR.nil) (HMV.out.setNew (p:=⟨q + 1 + 1,1,none⟩) (by dsimp only;omega) (by rw [HQ.out];dsimp only;omega) (.int .i64 2)) (by rw [HQ.out];omega) (by rw [HQ.out];exact hlw)
 ·have hci:(i:Int) < (L.ss.length:Int):=by omega
  have hu:doClear L ⟨2,n,nm,st⟩=(td0,⟨L.place,L.ss.eraseIdx i,L.past⟩,0):=by
   show (if (L.ss.length:Int) ≤ n then (td0,L,(2:Int)) else (td0,⟨L.place,L.ss.eraseIdx n.toNat,L.past⟩,0))=_
   rw [if_neg (by rw [HI.out];omega),HI.out,Int.toNat_natCast]
  have HU:=qhq hu
  obtain ⟨f,hOa,hRw⟩:=HS.out.hits
  have HOA:=qhq hOa
  have HRW:=qhq hRw
  clear hOa hRw hu
  try rw [show decide (L.ss.length ≤ i)=false from decide_eq_false hc]
  go_wp2_with fail
  clear z3 zn
  go_loopw [6,72] (fun o x wr=>∃ k:Nat,k ≤ L.ss.length ∧ x=.int .i64 k ∧ OwR wr W2.heap.size 165 1 (if k ≤ i then k else k - 1) (fun a _=>f (if a < i then a else a + 1)) o ∧ Below W2.heap.size W2 wr) (fun _ x _=>L.ss.length - (intOf x).toNat)
  case atStart=>exact ⟨0,Nat.zero_le _,rfl,by rw [if_pos (Nat.zero_le _)];exact OwR.nil,qrq _ _⟩
  case round =>
   obtain ⟨k,hk,rfl,hO9,hb⟩:=hrel
   have HLO:=qhq hO9
   have HB:=qhq hb
   obtain ⟨Al,cl,rfl,-⟩:=hO9.cap
   have hszw:=hb.size
   clear hO9
   by_cases hlt:k < L.ss.length
   ·have hlt':(k:Int) < (L.ss.length:Int):=by omega
    obtain ⟨Ah,ch,hvh,hop⟩:=(HOA.out.later hb).open'
    obtain ⟨rfl,rfl⟩:A3=Ah ∧ c3=ch:=by simpa using hvh
    obtain ⟨bh,rfl,-,-,hch,-⟩:=hop (by omega)
    obtain ⟨Af,cf,hfv,-,-⟩:=(HRW.out k hlt).cap
    have xk:wr.cell? ⟨bh,k,none⟩=some (.slice Af t.moms.length cf):=by
     have h:=hch k hlt 0 (by omega)
     rw [Nat.mul_one,Nat.add_zero] at h
     rw [h,hfv]
    have xn:wr.cell? ⟨q,1,none⟩=some (.int .i64 (i:Int)):=((HA.out.later hb).cell (j:=1) (by omega)).trans (by rw [← HI.out];rfl)
    have HFV:=qhq hfv
    clear hop hch hvh hfv hb
    obtain ⟨m,hm⟩:∃ m,(if k ≤ i then k else k - 1)=m:=⟨_,rfl⟩
    rw [hm] at HLO ⊢
    have hm2:m ≤ 50:=by rw [← hm];split <;> omega
    by_cases hki:k=i
    ·have hkb:((k:Int) == (i:Int))=true:=by rw [beq_iff_eq];omega
     have hm3:(if k + 1 ≤ i then k + 1 else k + 1 - 1)=m:=by rw [← hm,hki];split <;> split <;> omega
     have HM3:=qhq hm3
     clear hm hm3 hki
     go_wp2_with fail
     go_roundw
     case rel =>
      refine ⟨k + 1,by omega,by go_num,?_,HB.out⟩
      rw [HM3.out]
      exact HLO.out
     case measure=>simp [intOf];omega
    ·have hkb:((k:Int) == (i:Int))=false:=by rw [beq_eq_false_iff_ne];omega
     have hm1:(if m < i then m else m + 1)=k:=by rw [← hm];split <;> split <;> omega
     have hm3:(if k + 1 ≤ i then k + 1 else k + 1 - 1)=m + 1:=by rw [← hm];split <;> split <;> omega
     have HM1:=qhq hm1
     have HM3:=qhq hm3
     clear hm hm1 hm3 hki
     go_wp2_with (at_builtin;refine stopped ?_)
     unfold Stopped
     refine wpList_append1 _ (by rfl) _ _ 78 (by rfl) W2.heap.size 165 _ 1 24 Tryz.underlying78 i_bools rfl (by omega) _ m _ (fun a _=>f (if a < i then a else a + 1)) (by rfl) HLO.out [.slice Af t.moms.length cf] rfl (by simp [Value.oneCell']) (by rfl) (fun a ha j _=>rfl) ?_ hszw (by omega) (by omega) ?_
     ·intro j hj
      obtain rfl:j=0:=by omega
      show some (Value.slice Af t.moms.length cf)=some (f (if m < i then m else m + 1))
      rw [HM1.out,HFV.out]
     intro g cap w5 hO5 hG5 _ _
     go_wp2
     go_roundw
     case rel=>exact ⟨k + 1,by omega,by go_num,by rw [HM3.out];exact hO5,bl_own HB.out hszw HLO.out hG5⟩
     case measure=>simp [intOf];omega
   ·obtain rfl:k=L.ss.length:=by omega
    rw [if_neg (by omega)] at HLO
    have HS2:=qhq (HS.out.later hb)
    have HRS2:=qhq (HRS.out.later hb)
    have HO2:=qhq (HO.out.later hb)
    have HMV2:=qhq (HMV.out.trans (Mv.of_below hb (Nat.le_trans hlw hw2)))
    have HH:Hid (AllH wr lo t.moms.length t.moms (L.ss.eraseIdx i) (L.ss.eraseIdx i).length (.slice Al (L.ss.length - 1) cl)):=qhq ⟨_,by rw [eraseQ_len (by omega)];exact HLO.out.lower (Nat.le_trans hlw hw2),fun a ha=>by
     rw [eraseQ_len (by omega)] at ha
     rw [elt_erase (by omega) ha]
     exact (HRW.out _ (by split <;> omega)).later hb⟩
    have z3:wr.cell? ⟨l,3,none⟩=some (.slice A3 L.ss.length c3):=HS2.out.blk.cell (j:=3) (by omega)
    have f3:=HS2.out.blk.free 3
    clear hb HS HRS HO HMV HOA HRW HA HLO
    go_upto_region 67 with fail
    have HS8:=qhq (SpL.ofHits HS2.out.blk HH.out HS2.out.past)
    have HRS:=qhq (HRS2.out.far (p:=⟨l,3,none⟩) (HRS2.out.ne HS2.out.blk (by decide)) (.slice Al (L.ss.length - 1) cl))
    have HO:=qhq (HO2.out.far (p:=⟨l,3,none⟩) (HO2.out.ne HS2.out.blk (by decide)) (.slice Al (L.ss.length - 1) cl))
    have HMV:=qhq (HMV2.out.set (p:=⟨l,3,none⟩) hlo HS2.out.blk (by decide) (.slice Al (L.ss.length - 1) cl))
    clear z3 f3 HS2 HRS2 HO2 HMV2 HH
    generalize World.setCell wr _ _=w8 at HS8 HRS HO HMV ⊢
    have r0:=HRS.out.cell (j:=0) (by omega)
    have e0:=HRS.out.free 0
    have o0:=HO.out.cell (j:=0) (by omega)
    have g0:=HO.out.free 0
    have r1:=HRS.out.cell (j:=1) (by omega)
    have e1:=HRS.out.free 1
    have o1:=HO.out.cell (j:=1) (by omega)
    have g1:=HO.out.free 1
    have r2:=HRS.out.cell (j:=2) (by omega)
    have e2:=HRS.out.free 2
    have o2:=HO.out.cell (j:=2) (by omega)
    have g2:=HO.out.free 2
    have r3:=HRS.out.cell (j:=3) (by omega)
    have e3:=HRS.out.free 3
    have o3:=HO.out.cell (j:=3) (by omega)
    have g3:=HO.out.free 3
    have r4:=HRS.out.cell (j:=4) (by omega)
    have e4:=HRS.out.free 4
    have o4:=HO.out.cell (j:=4) (by omega)
    have g4:=HO.out.free 4
    have r5:=HRS.out.cell (j:=5) (by omega)
    have e5:=HRS.out.free 5
    have o5:=HO.out.cell (j:=5) (by omega)
    have g5:=HO.out.free 5
    simp only [tdF] at r0 r1 r2 r3 r4 r5 o0 o1 o2 o3 o4 o5
    go_wp2_with fail
    refine bodyPost_ret (v:=.agg #[.int .i64 0,.int .i64 0,.int .i64 0,.string ⟨#[]⟩,.slice none 0 0,.slice none 0 0]) (by simp [results,Tryz.results37,go_sem,r0,r1,r2,r3,r4,r5,o0,o1,o2,o3,o4,o5,td0]) rfl ?_
    rw [HU.out];exact ans_end (q:=td0) (by rfl) HS8.out HRS.out OwR.nil (owr_z OwR.nil) HMV.out (by rw [HQ.out];omega) (by rw [HQ.out];exact hlw)
def askRs (t:PTr) (L:Lk) (a:PAsk):PTold × Lk × Int:=if askOk a=true then doP t L a else (td0,L,1)
theorem askP_Rs (t:PTr) (L:Lk) (a:PAsk):askP t L a=({ askQs (askRs t L a) with place:=(askRs t L a).2.1.place },(askRs t L a).2.1):=by
 unfold askP askRs
 by_cases ha:askOk a=true
 ·rw [if_pos ha,if_pos ha]
  unfold askQs
  split
  ·rfl
  ·rfl
 ·rw [if_neg ha,if_neg ha]
  unfold askQs
  rw [if_neg (show ¬ (1:Int)=0 by decide)]
theorem ask_calls (lo l:Nat) (v1 v2:Value) (t:PTr) (L:Lk) (hv pv:Value) (a:PAsk) (w:World) (h:SpL w lo l t.moms.length t.moms v1 v2 L hv pv) (wb:World) (hrb:RdTr wb v1 v2 t) (hbb:Below wb.heap.size wb w) (hbl:wb.heap.size ≤ lo) (hsm:smTr t) (hso:soundP t=true) (hok:LkOk t L) (hlo:lo ≤ l) (hl:L.past.length ≤ 1000000) (hz:a.nm.size ≤ 9223372036854775807) :
  Calls Tryz.prog 37 #[.pointer (some ⟨l,0,none⟩),.agg #[.int .i64 a.op,.int .i64 a.n,.string a.nm,.int .i64 a.stop.kind,.int .i64 a.stop.fn,.int .i64 a.stop.line,.string a.stop.nm]] w (AnsPost (askRs t L a) lo l t.moms.length t.moms v1 v2 w):=by
 cases ha:askOk a with
 | false =>
  have e:askRs t L a=(td0,L,1):=by unfold askRs;rw [if_neg (by rw [ha];simp)]
  rw [e]
  exact q0_calls lo l v1 v2 t L hv pv a w h wb hrb hbb hbl hsm hso hok hlo hl ha hz
 | true =>
  have e:askRs t L a=doP t L a:=by unfold askRs;rw [if_pos ha]
  rw [e]
  have hop:=askOk_op ha
  have hc:a.op=1 ∨ a.op=2 ∨ a.op=3 ∨ a.op=4 ∨ a.op=5 ∨ a.op=6 ∨ a.op=7 ∨ a.op=8 ∨ a.op=9 ∨ a.op=10 ∨ a.op=11 ∨ a.op=12 ∨ a.op=13:=by omega
  rcases hc with h1 | h1 | h1 | h1 | h1 | h1 | h1 | h1 | h1 | h1 | h1 | h1 | h1
  ·have e2:doP t L a=doStop L a:=by unfold doP;simp [h1]
   rw [e2]
   exact q1_calls lo l v1 v2 t L hv pv a w h wb hrb hbb hbl hsm hso hok hlo hl h1 ha hz
  ·have e2:doP t L a=doClear L a:=by unfold doP;simp [h1]
   rw [e2]
   exact q2_calls lo l v1 v2 t L hv pv a w h wb hrb hbb hbl hsm hso hok hlo hl h1 ha hz
  ·have e2:doP t L a=doMove L (nextP t L.ss L.place):=by unfold doP;simp [h1]
   rw [e2]
   exact q3_calls lo l v1 v2 t L hv pv a w h wb hrb hbb hbl hsm hso hok hlo hl h1 ha hz
  ·have e2:doP t L a=doMove L (lastP t L.ss L.place):=by unfold doP;simp [h1]
   rw [e2]
   exact q4_calls lo l v1 v2 t L hv pv a w h wb hrb hbb hbl hsm hso hok hlo hl h1 ha hz
  ·have e2:doP t L a=doMove L (intoP t L.place):=by unfold doP;simp [h1]
   rw [e2]
   exact q5_calls lo l v1 v2 t L hv pv a w h wb hrb hbb hbl hsm hso hok hlo hl h1 ha hz
  ·have e2:doP t L a=doMove L (overP t L.place):=by unfold doP;simp [h1]
   rw [e2]
   exact q6_calls lo l v1 v2 t L hv pv a w h wb hrb hbb hbl hsm hso hok hlo hl h1 ha hz
  ·have e2:doP t L a=doMove L (outP t L.place):=by unfold doP;simp [h1]
   rw [e2]
   exact q7_calls lo l v1 v2 t L hv pv a w h wb hrb hbb hbl hsm hso hok hlo hl h1 ha hz
  ·have e2:doP t L a=doUndo L:=by unfold doP;simp [h1]
   rw [e2]
   exact q8_calls lo l v1 v2 t L hv pv a w h wb hrb hbb hbl hsm hso hok hlo hl h1 ha hz
  ·have e2:doP t L a=doTo t L a:=by unfold doP;simp [h1]
   rw [e2]
   exact q9_calls lo l v1 v2 t L hv pv a w h wb hrb hbb hbl hsm hso hok hlo hl h1 ha hz
  ·have e2:doP t L a=doWhere t L a:=by unfold doP;simp [h1]
   rw [e2]
   exact q10_calls lo l v1 v2 t L hv pv a w h wb hrb hbb hbl hsm hso hok hlo hl h1 ha hz
  ·have e2:doP t L a=doVars t L:=by unfold doP;simp [h1]
   rw [e2]
   exact q11_calls lo l v1 v2 t L hv pv a w h wb hrb hbb hbl hsm hso hok hlo hl h1 ha hz
  ·have e2:doP t L a=doValue t L a:=by unfold doP;simp [h1]
   rw [e2]
   exact q12_calls lo l v1 v2 t L hv pv a w h wb hrb hbb hbl hsm hso hok hlo hl h1 ha hz
  ·have e2:doP t L a=doCount t L a:=by unfold doP;simp [h1]
   rw [e2]
   exact q13_calls lo l v1 v2 t L hv pv a w h wb hrb hbb hbl hsm hso hok hlo hl h1 ha hz
end Go.Proofs.YtcklnjjbhngbcaaGreatDoor
