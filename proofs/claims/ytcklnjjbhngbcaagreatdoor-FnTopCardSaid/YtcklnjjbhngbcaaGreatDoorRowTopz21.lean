/- Lemmas and contracts of functions that the theorem of this claim leans on (texts Q8, Q9). -/
import Derived.Test.YtcklnjjbhngbcaaGreatDoorRowTopz00
import Derived.Test.YtcklnjjbhngbcaaGreatDoorRowTopz20
namespace Go.Proofs.YtcklnjjbhngbcaaGreatDoor
open Go.RowKit Go.Proofs.Lens
set_option linter.unusedSimpArgs false
theorem askOk_st {n:Int} {nm:ByteArray} {st:PStop} (h:askOk ⟨1,n,nm,st⟩=true):stopOk st=true:=by
 unfold askOk at h
 simp at h
 exact h.2
set_option maxRecDepth 100000 in
set_option maxHeartbeats 4000000 in
theorem q1_calls (lo l:Nat) (v1 v2:Value) (t:PTr) (L:Lk) (hv pv:Value) (a:PAsk) (w:World) (h:SpL w lo l t.moms.length t.moms v1 v2 L hv pv) (wb:World) (hrb:RdTr wb v1 v2 t) (hbb:Below wb.heap.size wb w) (hbl:wb.heap.size ≤ lo) (hsm:smTr t) (hso:soundP t=true) (hok:LkOk t L) (hlo:lo ≤ l) (hl:L.past.length ≤ 1000000)
  (h1:a.op=1) (ha:askOk a=true) (hz:a.nm.size ≤ 9223372036854775807) :
  Calls Tryz.prog 37 #[.pointer (some ⟨l,0,none⟩),.agg #[.int .i64 a.op,.int .i64 a.n,.string a.nm,.int .i64 a.stop.kind,.int .i64 a.stop.fn,.int .i64 a.stop.line,.string a.stop.nm]] w (AnsPost (doStop L a) lo l t.moms.length t.moms v1 v2 w):=by
 have hl9:=hl
 clear hl9
 obtain ⟨op,n,nm,st⟩:=a
 have h1:op=1:=h1
 subst h1
 have hlw:lo ≤ w.heap.size:=Nat.le_trans hlo (Nat.le_of_lt h.blk.lt)
 obtain ⟨A4,c4,rfl,-,-⟩:=h.past.cap
 obtain ⟨A3,c3,rfl,hc3⟩:=h.hits.cap
 have HS:=qhq h
 have HRB:=qhq hrb
 have HBB:=qhq hbb
 have HSM:=qhq hsm
 have HSO:=qhq hso
 have HOK:=qhq hok
 have hok':=qhq ha
 have hln:=hok.ln
 have hpl:=hok.lo
 have hph:=hok.hi
 have hmn:=(sound_fns (sound_iff hso)).2.2
 obtain ⟨⟨A1,c1,rfl,hn1,-⟩,⟨vv,⟨A2,c2,rfl,hn2,-⟩,-⟩⟩:=hrb
 have hba:=qaq (qaq (qaq (qrq _ w) (.cells #[.int .i64 1,.int .i64 n,.string nm,.int .i64 st.kind,.int .i64 st.fn,.int .i64 st.line,.string st.nm] 47)) (.cells #[.int .i64 0,.int .i64 0,.int .i64 0,.string ⟨#[]⟩,.slice none 0 0,.slice none 0 0] 38)) (.cells #[.int .i64 0,.int .i64 0,.int .i64 0,.string ⟨#[]⟩,.slice none 0 0,.slice none 0 0] 38)
 have hA:=((ask_box w 1 n nm st).alloc (.cells #[.int .i64 0,.int .i64 0,.int .i64 0,.string ⟨#[]⟩,.slice none 0 0,.slice none 0 0] 38)).alloc (.cells #[.int .i64 0,.int .i64 0,.int .i64 0,.string ⟨#[]⟩,.slice none 0 0,.slice none 0 0] 38)
 have hR:=(told_box (w.alloc (.cells #[.int .i64 1,.int .i64 n,.string nm,.int .i64 st.kind,.int .i64 st.fn,.int .i64 st.line,.string st.nm] 47))).alloc (.cells #[.int .i64 0,.int .i64 0,.int .i64 0,.string ⟨#[]⟩,.slice none 0 0,.slice none 0 0] 38)
 have hO:=told_box ((w.alloc (.cells #[.int .i64 1,.int .i64 n,.string nm,.int .i64 st.kind,.int .i64 st.fn,.int .i64 st.line,.string st.nm] 47)).alloc (.cells #[.int .i64 0,.int .i64 0,.int .i64 0,.string ⟨#[]⟩,.slice none 0 0,.slice none 0 0] 38))
 rw [World.size_alloc] at hR
 rw [World.size_alloc,World.size_alloc] at hO
 have HA:=qhq hA
 have HRS:=qhq hR
 have HO:=qhq hO
 have HW:=qhq hba
 clear h hsm hso hok hA hR hO hba hbb ha
 go_enter Tryz.func37,Tryz.ntmps37
 go_wp2_with fail
 refine (l5askOk_calls ⟨1,n,nm,st⟩ _ hz).mono ?_;rintro e w1 ⟨rfl,hb⟩
 rw [hok'.out]
 have hbw:=qtq HW.out hb
 have HMV:=qhq (Mv.of_below (ts:=qTys) hbw hlw)
 replace HA:=qhq (HA.out.later hb);replace HRS:=qhq (HRS.out.later hb);replace HO:=qhq (HO.out.later hb);clear hb
 replace HS:=qhq (HS.out.later hbw)
 have HR:=qhq (HRB.out.later (bl_trans9 HBB.out (bl_low9 hbw (Nat.le_trans hbl hlw))))
 clear hbw HW
 obtain ⟨q,hq⟩:∃ q,w.heap.size=q:=⟨_,rfl⟩
 have HQ:=qhq hq
 rw [hq] at HA HRS HO hlw ⊢
 clear hq
 have x0:w1.cell? ⟨q,0,none⟩=some (.int .i64 1):=HA.out.cell (j:=0) (by omega)
 have z3:w1.cell? ⟨l,3,none⟩=some (.slice A3 L.ss.length c3):=HS.out.blk.cell (j:=3) (by omega)
 have hw1:q ≤ w1.heap.size:=by have:=HA.out.lt;omega
 have hsto:=askOk_st hok'.out
 have HSTO:=qhq hsto
 clear hsto
 by_cases hc:L.ss.length=50
 ·have hci:((L.ss.length:Nat):Int)=50:=by omega
  have hu:doStop L ⟨1,n,nm,st⟩=(td0,L,2):=by unfold doStop;rw [if_pos hc]
  have r0:=HRS.out.cell (j:=0) (by omega)
  have e0:=HRS.out.free 0
  have o0:=HO.out.cell (j:=0) (by omega)
  have g0:=HO.out.free 0
  have r1:=HRS.out.cell (j:=1) (by omega)
  have e1:=HRS.out.free 1
  have o1:=HO.out.cell (j:=1) (by omega)
  have g1:=HO.out.free 1
  have r2:=HRS.out.cell (j:=2) (by omega)
  have e2:=HRS.out.free 2
  have o2:=HO.out.cell (j:=2) (by omega)
  have g2:=HO.out.free 2
  have r3:=HRS.out.cell (j:=3) (by omega)
  have e3:=HRS.out.free 3
  have o3:=HO.out.cell (j:=3) (by omega)
  have g3:=HO.out.free 3
  have r4:=HRS.out.cell (j:=4) (by omega)
  have e4:=HRS.out.free 4
  have o4:=HO.out.cell (j:=4) (by omega)
  have g4:=HO.out.free 4
  have r5:=HRS.out.cell (j:=5) (by omega)
  have e5:=HRS.out.free 5
  have o5:=HO.out.cell (j:=5) (by omega)
  have g5:=HO.out.free 5
  simp only [tdF] at r0 r1 r2 r3 r4 r5 o0 o1 o2 o3 o4 o5
  go_wp2_with fail
  refine bodyPost_ret (v:=.agg #[.int .i64 0,.int .i64 2,.int .i64 0,.string ⟨#[]⟩,.slice none 0 0,.slice none 0 0]) (by simp [results,Tryz.results37,go_sem,r0,r1,r2,r3,r4,r5,o0,o1,o2,o3,o4,o5,td0]) rfl ?_
  rw [hu];exact ans_end (q:={ td0 with code:=2 }) (by rfl) (HS.out.farT HO.out 1 _) (HRS.out.far (show q + 1 ≠ q + 1 + 1 by omega) _) OwR.nil (owr_z OwR.nil) (HMV.out.setNew (p:=⟨q + 1 + 1,1,none⟩) (by dsimp only;omega) (by rw [HQ.out];dsimp only;omega) (.int .i64 2)) (by rw [HQ.out];omega) (by rw [HQ.out];exact hlw)
 ·have hci:¬ ((L.ss.length:Nat):Int)=50:=by omega
  go_upto_region 10 with fail
  clear x0 z3
  have hbd:Below w1.heap.size w1 w1.drew:=bl_drew (qrq _ _)
  replace HMV:=qhq HMV.out.drew
  replace HS:=qhq (HS.out.later hbd);replace HA:=qhq (HA.out.later hbd);replace HRS:=qhq (HRS.out.later hbd);replace HO:=qhq (HO.out.later hbd);replace HR:=qhq (HR.out.later hbd);clear hbd
  have hw2:q ≤ w1.drew.heap.size:=hw1
  refine wp_region_F 16 (fun w':World=>w'.cell? ⟨l,3,none⟩=some (.slice A3 L.ss.length c3) ∧ w'.cell? ⟨l,0,none⟩=some (.slice A1 t.fns.length c1) ∧ w'.cell? ⟨l,1,none⟩=some (.slice A2 t.moms.length c2) ∧ w'.cell? ⟨q,3,none⟩=some (.int .i64 st.kind) ∧ w'.cell? ⟨q,4,none⟩=some (.int .i64 st.fn) ∧ w'.cell? ⟨q,5,none⟩=some (.int .i64 st.line) ∧ w'.cell? ⟨q,6,none⟩=some (.string st.nm)) (by kernel_rfl) ?_
  generalize w1.drew=W2 at HMV HS HA HRS HO HR hw2 ⊢
  have HS0:Hid (W2.cell? ⟨l,3,none⟩=some (.slice A3 L.ss.length c3) ∧ W2.cell? ⟨l,0,none⟩=some (.slice A1 t.fns.length c1) ∧ W2.cell? ⟨l,1,none⟩=some (.slice A2 t.moms.length c2) ∧ W2.cell? ⟨q,3,none⟩=some (.int .i64 st.kind) ∧ W2.cell? ⟨q,4,none⟩=some (.int .i64 st.fn) ∧ W2.cell? ⟨q,5,none⟩=some (.int .i64 st.line) ∧ W2.cell? ⟨q,6,none⟩=some (.string st.nm)):=qhq ⟨(HS.out.blk).cell (j:=3) (by omega),(HS.out.blk).cell (j:=0) (by omega),(HS.out.blk).cell (j:=1) (by omega),(HA.out).cell (j:=3) (by omega),(HA.out).cell (j:=4) (by omega),(HA.out).cell (j:=5) (by omega),(HA.out).cell (j:=6) (by omega)⟩
  refine wpAnyF_takeC 0 [] (v:=?v0k) (by rfl) (by kernel_rfl) (by intro _ _ _ h;exact h) HS0.out (by rfl) ?hy0k ?rest0k
  case hy0k =>
   intro w' hSw
   obtain ⟨s0,s1,s2,s3,s4,s5,s6⟩:=hSw
   go_simp
   try with_reducible rfl
  simp only [Act.put,q1q,q2q,q3q]
  refine wpAnyF_takeC 1 [] (v:=?v1k) (by rfl) (by kernel_rfl) (by intro _ _ _ h;exact h) HS0.out (by rfl) ?hy1k ?rest1k
  case hy1k =>
   intro w' hSw
   obtain ⟨s0,s1,s2,s3,s4,s5,s6⟩:=hSw
   go_simp
   try with_reducible rfl
  simp only [Act.put,q1q,q2q,q3q]
  refine wpAnyF_takeC 2 [] (v:=?v2k) (by rfl) (by kernel_rfl) (by intro _ _ _ h;exact h) HS0.out (by rfl) ?hy2k ?rest2k
  case hy2k =>
   intro w' hSw
   obtain ⟨s0,s1,s2,s3,s4,s5,s6⟩:=hSw
   go_simp
   try with_reducible rfl
  simp only [Act.put,q1q,q2q,q3q]
  refine wpAnyF_takeC 3 [] (v:=?v3k) (by rfl) (by kernel_rfl) (by intro _ _ _ h;exact h) HS0.out (by rfl) ?hy3k ?rest3k
  case hy3k =>
   intro w' hSw
   obtain ⟨s0,s1,s2,s3,s4,s5,s6⟩:=hSw
   go_simp
   try with_reducible rfl
  simp only [Act.put,q1q,q2q,q3q]
  refine wpAnyF_takeC 4 [] (v:=?v4k) (by rfl) (by kernel_rfl) (by intro _ _ _ h;exact h) HS0.out (by rfl) ?hy4k ?rest4k
  case hy4k =>
   intro w' hSw
   obtain ⟨s0,s1,s2,s3,s4,s5,s6⟩:=hSw
   go_simp
   try with_reducible rfl
  simp only [Act.put,q1q,q2q,q3q]
  refine wpAnyF_takeC 5 [] (v:=?v5k) (by rfl) (by kernel_rfl) (by intro _ _ _ h;exact h) HS0.out (by rfl) ?hy5k ?rest5k
  case hy5k =>
   intro w' hSw
   obtain ⟨s0,s1,s2,s3,s4,s5,s6⟩:=hSw
   go_simp
   try with_reducible rfl
  simp only [Act.put,q1q,q2q,q3q]
  refine wpAnyF_takeC 6 [] (v:=?v6k) (by rfl) (by kernel_rfl) (by intro _ _ _ h;exact h) HS0.out (by rfl) ?hy6k ?rest6k
  case hy6k =>
   intro w' hSw
   obtain ⟨s0,s1,s2,s3,s4,s5,s6⟩:=hSw
   go_simp
   try with_reducible rfl
  simp only [Act.put,q1q,q2q,q3q]
  refine wpAnyF_takeC 7 [] (v:=?v7k) (by rfl) (by kernel_rfl) (by intro _ _ _ h;exact h) HS0.out (by rfl) ?hy7k ?rest7k
  case hy7k =>
   intro w' hSw
   obtain ⟨s0,s1,s2,s3,s4,s5,s6⟩:=hSw
   go_simp
   try with_reducible rfl
  simp only [Act.put,q1q,q2q,q3q]
  refine wpAnyF_takeC 8 [] (v:=?v8k) (by rfl) (by kernel_rfl) (by intro _ _ _ h;exact h) HS0.out (by rfl) ?hy8k ?rest8k
  case hy8k =>
   intro w' hSw
   obtain ⟨s0,s1,s2,s3,s4,s5,s6⟩:=hSw
   go_simp
   try with_reducible rfl
  simp only [Act.put,q1q,q2q,q3q]
  refine wpAnyF_takeC 9 [] (v:=?v9k) (by rfl) (by kernel_rfl) (by intro _ _ _ h;exact h) HS0.out (by rfl) ?hy9k ?rest9k
  case hy9k =>
   intro w' hSw
   obtain ⟨s0,s1,s2,s3,s4,s5,s6⟩:=hSw
   go_simp
   try with_reducible rfl
  simp only [Act.put,q1q,q2q,q3q]
  refine wpAnyF_takeC 10 [] (v:=?v10k) (by rfl) (by kernel_rfl) (by intro _ _ _ h;exact h) HS0.out (by rfl) ?hy10k ?rest10k
  case hy10k =>
   intro w' hSw
   obtain ⟨s0,s1,s2,s3,s4,s5,s6⟩:=hSw
   go_simp
   try with_reducible rfl
  simp only [Act.put,q1q,q2q,q3q]
  refine wpAnyF_one 11 (by rfl) (by kernel_rfl) rfl ?_
  intro K hK
  go_simp
  refine (l3hits_un _ _ t st _ HR.out HSM.out HSO.out HSTO.out).mono ?_;rintro e w3 ⟨u,rfl,hOh,hb⟩
  have HOH:=qhq (hOh.lower (lo':=lo) (Nat.le_trans hlw hw2))
  obtain ⟨A9,c9,rfl,-⟩:=hOh.cap
  replace HMV:=qhq (HMV.out.trans (Mv.of_below hb (Nat.le_trans hlw hw2)))
  have hw3:q ≤ w3.heap.size:=Nat.le_trans hw2 hb.size
  replace HS:=qhq (HS.out.later hb);replace HA:=qhq (HA.out.later hb);replace HRS:=qhq (HRS.out.later hb);replace HO:=qhq (HO.out.later hb);clear hb
  dsimp only
  refine hK.out _ _ (fun _=>⟨(HS.out.blk).cell (j:=3) (by omega),(HS.out.blk).cell (j:=0) (by omega),(HS.out.blk).cell (j:=1) (by omega),(HA.out).cell (j:=3) (by omega),(HA.out).cell (j:=4) (by omega),(HA.out).cell (j:=5) (by omega),(HA.out).cell (j:=6) (by omega)⟩) ?_
  clear hK K hOh HS0 HR
  refine wpAnyF_one 12 (by rfl) (by kernel_rfl) rfl ?_
  intro K hK
  go_simp
  have hba:=qaq (qrq _ w3) (.cells #[.slice A9 t.moms.length c9] 165)
  refine hK.out _ _ (fun _=>⟨(HS.out.blk.later hba).cell (j:=3) (by omega),(HS.out.blk.later hba).cell (j:=0) (by omega),(HS.out.blk.later hba).cell (j:=1) (by omega),(HA.out.later hba).cell (j:=3) (by omega),(HA.out.later hba).cell (j:=4) (by omega),(HA.out.later hba).cell (j:=5) (by omega),(HA.out.later hba).cell (j:=6) (by omega)⟩) ?_
  clear hK K
  refine wpAnyF_one 13 (by rfl) (by kernel_rfl) rfl ?_
  intro K hK
  obtain ⟨f,hOa,hRw⟩:=HS.out.hits
  have hlo3:lo ≤ w3.heap.size:=Nat.le_trans hlw hw3
  refine wp_appendG _ _ _ 78 (by rfl) lo 165 _ 1 24 1 Tryz.underlying78 i_bools rfl (by omega) _ L.ss.length (fun i _=>f i) (fun i _=>snocV f L.ss.length (.slice A9 t.moms.length c9) i) (by rfl) (hOa.later hba)
   [Value.slice A9 t.moms.length c9] rfl (by omega) (fun u hu=>by rw [List.mem_singleton.1 hu];rfl) w3.heap.size 0 1 (by rfl) (new_at w3 [Value.slice A9 t.moms.length c9] 165) (fun i hi j _=>by unfold snocV;rw [if_neg (by omega)]) (fun i hi j hj=>?_) (by rw [World.size_alloc];omega) (by omega) (by omega) ?_
  ·obtain rfl:i=0:=by omega
   obtain rfl:j=0:=by omega
   show some (Value.slice A9 t.moms.length c9)=some (snocV f L.ss.length (.slice A9 t.moms.length c9) (L.ss.length + 0))
   unfold snocV
   rw [if_pos (by omega)]
  intro g9 cap9 w7 hO7 hg7 hat7 hlt7
  have hmv:Mv [165] lo (w3.alloc (.cells #[.slice A9 t.moms.length c9] 165)) w7:=(Mv.refl _ _ _).grown (by rw [World.size_alloc];omega) hg7 (fun b hb=>by
   have hOa2:=hOa.later hba
   obtain ⟨N,F,hB⟩:=hOa2.block hb;exact ⟨(hOa2.lt b hb).1,_,N,F,hB,by simp⟩)
  have e9:(L.ss ++ [st]).length=L.ss.length + 1:=by simp
  have HH7:Hid (AllH w7 lo t.moms.length t.moms (L.ss ++ [st]) (L.ss ++ [st]).length (.slice (some ⟨g9,0,none⟩) (L.ss.length + 1) cap9)):=qhq ⟨_,by rw [e9];exact hO7,fun i hi=>by
   rw [e9] at hi
   unfold snocV
   by_cases h:i=L.ss.length
   ·subst h
    rw [if_pos rfl,elt_last]
    exact (HOH.out.later hba).mv hmv (by decide)
   ·rw [if_neg h,elt_app _ _ (by omega)]
    exact ((hRw i (by omega)).later hba).mv hmv (by decide)⟩
  have HBK:=qhq ((HS.out.blk.later hba).mv hmv (by decide))
  have HP7:=qhq ((HS.out.past.later hba).mv hmv (by decide))
  have HA7:=qhq ((HA.out.later hba).mv hmv (by decide))
  have HRS7:=qhq ((HRS.out.later hba).mv hmv (by decide))
  have HO7:=qhq ((HO.out.later hba).mv hmv (by decide))
  have HM7:=qhq ((HMV.out.trans (Mv.of_below hba hlo3)).trans (hmv.mono (ts':=qTys) (fun e he=>by rw [List.mem_singleton.1 he];decide)))
  have hS7:w7.cell? ⟨l,3,none⟩=some (.slice A3 L.ss.length c3) ∧ w7.cell? ⟨l,0,none⟩=some (.slice A1 t.fns.length c1) ∧ w7.cell? ⟨l,1,none⟩=some (.slice A2 t.moms.length c2) ∧ w7.cell? ⟨q,3,none⟩=some (.int .i64 st.kind) ∧ w7.cell? ⟨q,4,none⟩=some (.int .i64 st.fn) ∧ w7.cell? ⟨q,5,none⟩=some (.int .i64 st.line) ∧ w7.cell? ⟨q,6,none⟩=some (.string st.nm):=⟨(HBK.out).cell (j:=3) (by omega),(HBK.out).cell (j:=0) (by omega),(HBK.out).cell (j:=1) (by omega),(HA7.out).cell (j:=3) (by omega),(HA7.out).cell (j:=4) (by omega),(HA7.out).cell (j:=5) (by omega),(HA7.out).cell (j:=6) (by omega)⟩
  have HS7:=qhq hS7
  refine hK.out _ _ (fun _=>HS7.out) ?_
  clear hK K hba hOa hRw hO7 hg7 hat7 hlt7 hmv HS HA HRS HO HMV HOH
  obtain ⟨y3,-⟩:=hS7
  have f3:=HBK.out.free 3
  refine wpAnyF_one 14 (by rfl) (by kernel_rfl) rfl ?_
  intro K hK
  go_simp
  refine hK.out _ _ (fun _=>HS7.out) ?_
  clear hK K
  refine wpAnyF_one 15 (by rfl) (by kernel_rfl) rfl ?_
  intro K hK
  go_simp
  refine hK.out _ _ (fun _=>HS7.out) ?_
  clear hK K
  refine wpAnyF_one 16 (by rfl) (by kernel_rfl) rfl ?_
  intro K hK
  go_simp
  refine hK.out _ _ (fun h=>absurd rfl h) ?_
  clear hK K
  refine wpAnyF_done (by kernel_rfl) ?_ _
  have HS8:=qhq (SpL.ofHits HBK.out HH7.out HP7.out)
  have HRS:=qhq (HRS7.out.far (p:=⟨l,3,none⟩) (HRS7.out.ne HBK.out (by decide)) (.slice (some ⟨g9,0,none⟩) (L.ss.length + 1) cap9))
  have HO:=qhq (HO7.out.far (p:=⟨l,3,none⟩) (HO7.out.ne HBK.out (by decide)) (.slice (some ⟨g9,0,none⟩) (L.ss.length + 1) cap9))
  have HMV:=qhq (HM7.out.set (p:=⟨l,3,none⟩) hlo HBK.out (by decide) (.slice (some ⟨g9,0,none⟩) (L.ss.length + 1) cap9))
  clear y3 f3 HBK HH7 HP7 HA7 HRS7 HO7 HM7 HS7
  generalize World.setCell w7 _ _=w8 at HS8 HRS HO HMV ⊢
  have z3:w8.cell? ⟨l,3,none⟩=some (.slice (some ⟨g9,0,none⟩) (L.ss.length + 1) cap9):=HS8.out.blk.cell (j:=3) (by omega)
  have hu:doStop L ⟨1,n,nm,st⟩=(⟨0,0,L.ss.length,⟨#[]⟩,[],[]⟩,⟨L.place,L.ss ++ [st],L.past⟩,0):=by unfold doStop;rw [if_neg hc]
  have r0:=HRS.out.cell (j:=0) (by omega)
  have e0:=HRS.out.free 0
  have o0:=HO.out.cell (j:=0) (by omega)
  have g0:=HO.out.free 0
  have r1:=HRS.out.cell (j:=1) (by omega)
  have e1:=HRS.out.free 1
  have o1:=HO.out.cell (j:=1) (by omega)
  have g1:=HO.out.free 1
  have r2:=HRS.out.cell (j:=2) (by omega)
  have e2:=HRS.out.free 2
  have o2:=HO.out.cell (j:=2) (by omega)
  have g2:=HO.out.free 2
  have r3:=HRS.out.cell (j:=3) (by omega)
  have e3:=HRS.out.free 3
  have o3:=HO.out.cell (j:=3) (by omega)
  have g3:=HO.out.free 3
  have r4:=HRS.out.cell (j:=4) (by omega)
  have e4:=HRS.out.free 4
  have o4:=HO.out.cell (j:=4) (by omega)
  have g4:=HO.out.free 4
  have r5:=HRS.out.cell (j:=5) (by omega)
  have e5:=HRS.out.free 5
  have o5:=HO.out.cell (j:=5) (by omega)
  have g5:=HO.out.free 5
  simp only [tdF] at r0 r1 r2 r3 r4 r5 o0 o1 o2 o3 o4 o5
  go_wp2_with fail
  refine bodyPost_ret (v:=.agg #[.int .i64 0,.int .i64 0,.int .i64 (L.ss.length:Nat),.string ⟨#[]⟩,.slice none 0 0,.slice none 0 0]) (by simp [results,Tryz.results37,go_sem,r0,r1,r2,r3,r4,r5,o0,o1,o2,o3,o4,o5,td0]) rfl ?_
  rw [hu];exact ans_end (q:=⟨0,0,L.ss.length,⟨#[]⟩,[],[]⟩) (by rfl) (HS8.out.farT HO.out 2 _) (HRS.out.far (show q + 1 ≠ q + 1 + 1 by omega) _) OwR.nil (owr_z OwR.nil) (HMV.out.setNew (p:=⟨q + 1 + 1,2,none⟩) (by dsimp only;omega) (by rw [HQ.out];dsimp only;omega) _) (by rw [HQ.out];omega) (by rw [HQ.out];exact hlw)
set_option linter.unusedSimpArgs false
theorem askOk_in13 {n:Int} {nm:ByteArray} {st:PStop} (h:askOk ⟨13,n,nm,st⟩=true):0 ≤ n ∧ n ≤ 49:=by
 unfold askOk at h
 simp at h
 exact inB_true.1 h.1.1
set_option maxRecDepth 100000 in
set_option maxHeartbeats 4000000 in
theorem q13_calls (lo l:Nat) (v1 v2:Value) (t:PTr) (L:Lk) (hv pv:Value) (a:PAsk) (w:World) (h:SpL w lo l t.moms.length t.moms v1 v2 L hv pv) (wb:World) (hrb:RdTr wb v1 v2 t) (hbb:Below wb.heap.size wb w) (hbl:wb.heap.size ≤ lo) (hsm:smTr t) (hso:soundP t=true) (hok:LkOk t L) (hlo:lo ≤ l) (hl:L.past.length ≤ 1000000)
  (h1:a.op=13) (ha:askOk a=true) (hz:a.nm.size ≤ 9223372036854775807) :
  Calls Tryz.prog 37 #[.pointer (some ⟨l,0,none⟩),.agg #[.int .i64 a.op,.int .i64 a.n,.string a.nm,.int .i64 a.stop.kind,.int .i64 a.stop.fn,.int .i64 a.stop.line,.string a.stop.nm]] w (AnsPost (doCount t L a) lo l t.moms.length t.moms v1 v2 w):=by
 have hl9:=hl
 clear hl9
 obtain ⟨op,n,nm,st⟩:=a
 have h1:op=13:=h1
 subst h1
 have hlw:lo ≤ w.heap.size:=Nat.le_trans hlo (Nat.le_of_lt h.blk.lt)
 obtain ⟨A4,c4,rfl,-,-⟩:=h.past.cap
 obtain ⟨A3,c3,rfl,hc3⟩:=h.hits.cap
 have HS:=qhq h
 have HRB:=qhq hrb
 have HBB:=qhq hbb
 have HSM:=qhq hsm
 have HSO:=qhq hso
 have HOK:=qhq hok
 have hok':=qhq ha
 have hln:=hok.ln
 have hpl:=hok.lo
 have hph:=hok.hi
 have hmn:=(sound_fns (sound_iff hso)).2.2
 obtain ⟨⟨A1,c1,rfl,hn1,-⟩,⟨vv,⟨A2,c2,rfl,hn2,-⟩,-⟩⟩:=hrb
 have hba:=qaq (qaq (qaq (qrq _ w) (.cells #[.int .i64 13,.int .i64 n,.string nm,.int .i64 st.kind,.int .i64 st.fn,.int .i64 st.line,.string st.nm] 47)) (.cells #[.int .i64 0,.int .i64 0,.int .i64 0,.string ⟨#[]⟩,.slice none 0 0,.slice none 0 0] 38)) (.cells #[.int .i64 0,.int .i64 0,.int .i64 0,.string ⟨#[]⟩,.slice none 0 0,.slice none 0 0] 38)
 have hA:=((ask_box w 13 n nm st).alloc (.cells #[.int .i64 0,.int .i64 0,.int .i64 0,.string ⟨#[]⟩,.slice none 0 0,.slice none 0 0] 38)).alloc (.cells #[.int .i64 0,.int .i64 0,.int .i64 0,.string ⟨#[]⟩,.slice none 0 0,.slice none 0 0] 38)
 have hR:=(told_box (w.alloc (.cells #[.int .i64 13,.int .i64 n,.string nm,.int .i64 st.kind,.int .i64 st.fn,.int .i64 st.line,.string st.nm] 47))).alloc (.cells #[.int .i64 0,.int .i64 0,.int .i64 0,.string ⟨#[]⟩,.slice none 0 0,.slice none 0 0] 38)
 have hO:=told_box ((w.alloc (.cells #[.int .i64 13,.int .i64 n,.string nm,.int .i64 st.kind,.int .i64 st.fn,.int .i64 st.line,.string st.nm] 47)).alloc (.cells #[.int .i64 0,.int .i64 0,.int .i64 0,.string ⟨#[]⟩,.slice none 0 0,.slice none 0 0] 38))
 rw [World.size_alloc] at hR
 rw [World.size_alloc,World.size_alloc] at hO
 have HA:=qhq hA
 have HRS:=qhq hR
 have HO:=qhq hO
 have HW:=qhq hba
 clear h hsm hso hok hA hR hO hba hbb ha
 go_enter Tryz.func37,Tryz.ntmps37
 go_wp2_with fail
 refine (l5askOk_calls ⟨13,n,nm,st⟩ _ hz).mono ?_;rintro e w1 ⟨rfl,hb⟩
 rw [hok'.out]
 have hbw:=qtq HW.out hb
 have HMV:=qhq (Mv.of_below (ts:=qTys) hbw hlw)
 replace HA:=qhq (HA.out.later hb);replace HRS:=qhq (HRS.out.later hb);replace HO:=qhq (HO.out.later hb);clear hb
 replace HS:=qhq (HS.out.later hbw)
 have HR:=qhq (HRB.out.later (bl_trans9 HBB.out (bl_low9 hbw (Nat.le_trans hbl hlw))))
 clear hbw HW
 obtain ⟨q,hq⟩:∃ q,w.heap.size=q:=⟨_,rfl⟩
 have HQ:=qhq hq
 rw [hq] at HA HRS HO hlw ⊢
 clear hq
 have x0:w1.cell? ⟨q,0,none⟩=some (.int .i64 13):=HA.out.cell (j:=0) (by omega)
 have hw1:q ≤ w1.heap.size:=by have:=HA.out.lt;omega
 have hnr:=askOk_in13 hok'.out
 obtain ⟨i,hi⟩:∃ i:Nat,n=(i:Int):=⟨n.toNat,by omega⟩
 have HI:=qhq hi
 go_upto_region 59 with fail
 clear x0
 have hbd:Below w1.heap.size w1 w1.drew:=bl_drew (qrq _ _)
 replace HMV:=qhq HMV.out.drew
 replace HS:=qhq (HS.out.later hbd);replace HA:=qhq (HA.out.later hbd);replace HRS:=qhq (HRS.out.later hbd);replace HO:=qhq (HO.out.later hbd);replace HR:=qhq (HR.out.later hbd);clear hbd
 refine wp_region_H (fun w':World=>Below w1.drew.heap.size w1.drew w') (by kernel_rfl) ?_
 generalize w1.drew=W2 at HMV HS HA HRS HO HR ⊢
 have HS0:Hid (Below W2.heap.size W2 W2):=qhq (qrq _ _)
 have z3:W2.cell? ⟨l,3,none⟩=some (.slice A3 L.ss.length c3):=HS.out.blk.cell (j:=3) (by omega)
 have zn:W2.cell? ⟨q,1,none⟩=some (.int .i64 n):=HA.out.cell (j:=1) (by omega)
 rw [hi] at zn
 clear hi hnr
 refine wpAnyH_take2 0 (v:=?v0m) (by rfl) (by kernel_rfl) (by intro _ _ _ h;exact h) HS0.out (by rfl) ?hy0m ?rest0m
 case hy0m =>
  intro w' hSw
  have sz3:=qcq hSw z3
  have szn:=qcq hSw zn
  clear hSw
  go_simp
  try with_reducible rfl
 simp only [Act.put,q1q,q2q,q3q]
 refine wpAnyH_take2 1 (v:=?v1m) (by rfl) (by kernel_rfl) (by intro _ _ _ h;exact h) HS0.out (by rfl) ?hy1m ?rest1m
 case hy1m =>
  intro w' hSw
  have sz3:=qcq hSw z3
  have szn:=qcq hSw zn
  clear hSw
  go_simp
  try with_reducible rfl
 simp only [Act.put,q1q,q2q,q3q]
 refine wpAnyH_take2 2 (v:=?v2m) (by rfl) (by kernel_rfl) (by intro _ _ _ h;exact h) HS0.out (by rfl) ?hy2m ?rest2m
 case hy2m =>
  intro w' hSw
  have sz3:=qcq hSw z3
  have szn:=qcq hSw zn
  clear hSw
  go_simp
  try with_reducible rfl
 simp only [Act.put,q1q,q2q,q3q]
 refine wpAnyH_take2 3 (v:=?v3m) (by rfl) (by kernel_rfl) (by intro _ _ _ h;exact h) HS0.out (by rfl) ?hy3m ?rest3m
 case hy3m =>
  intro w' hSw
  have sz3:=qcq hSw z3
  have szn:=qcq hSw zn
  clear hSw
  go_simp
  try with_reducible rfl
 simp only [Act.put,q1q,q2q,q3q]
 refine wpAnyH_take2 4 (v:=?v4m) (by rfl) (by kernel_rfl) (by intro _ _ _ h;exact h) HS0.out (by rfl) ?hy4m ?rest4m
 case hy4m =>
  intro w' hSw
  have sz3:=qcq hSw z3
  have szn:=qcq hSw zn
  clear hSw
  go_simp
  try with_reducible rfl
 simp only [Act.put,q1q,q2q,q3q]
 refine wpAnyH_take2 5 (v:=?v5m) (by rfl) (by kernel_rfl) (by intro _ _ _ h;exact h) HS0.out (by rfl) ?hy5m ?rest5m
 case hy5m =>
  intro w' hSw
  have sz3:=qcq hSw z3
  have szn:=qcq hSw zn
  clear hSw
  go_simp
  try with_reducible rfl
 simp only [Act.put,q1q,q2q,q3q]
 refine wpAnyH_take2 6 (v:=?v6m) (by rfl) (by kernel_rfl) (by intro _ _ _ h;exact h) HS0.out (by rfl) ?hy6m ?rest6m
 case hy6m =>
  intro w' hSw
  have sz3:=qcq hSw z3
  have szn:=qcq hSw zn
  clear hSw
  go_simp
  try with_reducible rfl
 simp only [Act.put,q1q,q2q,q3q]
 refine wpAnyH_take2 7 (v:=?v7m) (by rfl) (by kernel_rfl) (by intro _ _ _ h;exact h) HS0.out (by rfl) ?hy7m ?rest7m
 case hy7m =>
  intro w' hSw
  have sz3:=qcq hSw z3
  have szn:=qcq hSw zn
  clear hSw
  go_simp
  try with_reducible rfl
 simp only [Act.put,q1q,q2q,q3q]
 refine wpAnyH_done (by kernel_rfl) ?_ _
 simp only [List.getElem_toArray,List.getElem_cons_zero,List.getElem_cons_succ,q1q,q2q,q3q]
 clear HS0
 by_cases hc:L.ss.length ≤ i
 ·have hci:(L.ss.length:Int) ≤ (i:Int):=by omega
  have hu:doCount t L ⟨13,n,nm,st⟩=(td0,L,2):=by
   show (if (L.ss.length:Int) ≤ n then (td0,L,(2:Int)) else _)=_
   rw [if_pos (by rw [HI.out];omega)]
  have r0:=HRS.out.cell (j:=0) (by omega)
  have e0:=HRS.out.free 0
  have o0:=HO.out.cell (j:=0) (by omega)
  have g0:=HO.out.free 0
  have r1:=HRS.out.cell (j:=1) (by omega)
  have e1:=HRS.out.free 1
  have o1:=HO.out.cell (j:=1) (by omega)
  have g1:=HO.out.free 1
  have r2:=HRS.out.cell (j:=2) (by omega)
  have e2:=HRS.out.free 2
  have o2:=HO.out.cell (j:=2) (by omega)
  have g2:=HO.out.free 2
  have r3:=HRS.out.cell (j:=3) (by omega)
  have e3:=HRS.out.free 3
  have o3:=HO.out.cell (j:=3) (by omega)
  have g3:=HO.out.free 3
  have r4:=HRS.out.cell (j:=4) (by omega)
  have e4:=HRS.out.free 4
  have o4:=HO.out.cell (j:=4) (by omega)
  have g4:=HO.out.free 4
  have r5:=HRS.out.cell (j:=5) (by omega)
  have e5:=HRS.out.free 5
  have o5:=HO.out.cell (j:=5) (by omega)
  have g5:=HO.out.free 5
  simp only [tdF] at r0 r1 r2 r3 r4 r5 o0 o1 o2 o3 o4 o5
  go_wp2_with fail
  refine bodyPost_ret (v:=.agg #[.int .i64 0,.int .i64 2,.int .i64 0,.string ⟨#[]⟩,.slice none 0 0,.slice none 0 0]) (by simp [results,Tryz.results37,go_sem,r0,r1,r2,r3,r4,r5,o0,o1,o2,o3,o4,o5,td0]) rfl ?_
  rw [hu];exact ans_end (q:={ td0 with code:=2 }) (by rfl) (HS.out.farT HO.out 1 _) (HRS.out.far (show q + 1 ≠ q + 1 + 1 by omega) _) OwR.nil (owr_z OwR.nil) (HMV.out.setNew (p:=⟨q + 1 + 1,1,none⟩) (by dsimp only;omega) (by rw [HQ.out];dsimp only;omega) (.int .i64 2)) (by rw [HQ.out];omega) (by rw [HQ.out];exact hlw)
 ·have hci:(i:Int) < (L.ss.length:Int):=by omega
  obtain ⟨s9,hs9⟩:∃ s9,elt L.ss i=s9:=⟨_,rfl⟩
  have hu:doCount t L ⟨13,n,nm,st⟩=(⟨0,0,cntN t.moms s9 L.place t.moms.length,⟨#[]⟩,[],[]⟩,L,0):=by
   show (if (L.ss.length:Int) ≤ n then (td0,L,(2:Int)) else (⟨0,0,cntN t.moms (elt L.ss n.toNat) L.place t.moms.length,⟨#[]⟩,[],[]⟩,L,0))=_
   rw [if_neg (by rw [HI.out];omega),HI.out,Int.toNat_natCast,hs9]
  have HU:=qhq hu
  obtain ⟨f,hOa,hRw⟩:=HS.out.hits
  have hRi:=hRw i (by omega)
  rw [hs9] at hRi
  have HRI:=qhq hRi
  have HOA:=qhq hOa
  clear hRw hOa hRi hs9 hu z3 zn HR
  go_wp2_with fail
  go_loopw [13] (fun k wr=>∃ j:Nat,j ≤ t.moms.length ∧ (j:Int) ≤ L.place + 1 ∧ k=.int .i64 j ∧ Blk wr (q + 1 + 1) 38 6 (tdF ⟨0,0,cntN t.moms s9 L.place j,⟨#[]⟩,[],[]⟩ (.slice none 0 0) (.slice none 0 0)) ∧ SpL wr lo l t.moms.length t.moms (.slice A1 t.fns.length c1) (.slice A2 t.moms.length c2) L (.slice A3 L.ss.length c3) (.slice A4 L.past.length c4) ∧
   Blk wr (q + 1) 38 6 (tdF td0 (.slice none 0 0) (.slice none 0 0)) ∧ Blk wr q 47 7 (askC [⟨13,n,nm,st⟩] 0) ∧ OwR wr lo 165 1 L.ss.length (fun i _=>f i) (.slice A3 L.ss.length c3) ∧ OwR wr lo 4 1 t.moms.length (hdC t.moms s9) (f i) ∧ Mv qTys lo w wr) (fun k _=>t.moms.length - (intOf k).toNat)
  case atStart=>exact ⟨0,Nat.zero_le _,by omega,rfl,HO.out,HS.out,HRS.out,HA.out,HOA.out,HRI.out,HMV.out⟩
  case round =>
   obtain ⟨j,hj,hjp,rfl,hO,hS,hR1,hA,hOa,hRi,hM⟩:=hrel
   clear HO HS HRS HA HOA HRI HMV
   have HO:=qhq hO
   have HS:=qhq hS
   have HRS:=qhq hR1
   have HA:=qhq hA
   have HOA:=qhq hOa
   have HRI:=qhq hRi
   have HMV:=qhq hM
   clear hO hS hR1 hA hM
   have z1:wr.cell? ⟨l,1,none⟩=some (.slice A2 t.moms.length c2):=HS.out.blk.cell (j:=1) (by omega)
   have z2:wr.cell? ⟨l,2,none⟩=some (.int .i64 L.place):=HS.out.blk.cell (j:=2) (by omega)
   by_cases hp:(j:Int) ≤ L.place
   ·by_cases hlt:j < t.moms.length
    ·have hlt':(j:Int) < (t.moms.length:Int):=by omega
     go_upto_region 65 with fail
     have hbd:Below wr.heap.size wr wr.drew:=bl_drew (qrq _ _)
     replace HMV:=qhq HMV.out.drew
     replace HO:=qhq (HO.out.later hbd);replace HS:=qhq (HS.out.later hbd);replace HRS:=qhq (HRS.out.later hbd);replace HA:=qhq (HA.out.later hbd);replace HOA:=qhq (HOA.out.later hbd);replace HRI:=qhq (HRI.out.later hbd);clear hbd
     clear z1 z2 hOa hRi
     refine wp_region_H (fun w':World=>Below wr.drew.heap.size wr.drew w') (by kernel_rfl) ?_
     generalize wr.drew=W5 at HO HS HRS HA HOA HRI HMV ⊢
     have HS0:Hid (Below W5.heap.size W5 W5):=qhq (qrq _ _)
     have x3:W5.cell? ⟨l,3,none⟩=some (.slice A3 L.ss.length c3):=HS.out.blk.cell (j:=3) (by omega)
     have xn:W5.cell? ⟨q,1,none⟩=some (.int .i64 (i:Int)):=(HA.out.cell (j:=1) (by omega)).trans (by rw [← HI.out];rfl)
     obtain ⟨Ah,ch,hvh,hop⟩:=HOA.out.open'
     obtain ⟨rfl,rfl⟩:A3=Ah ∧ c3=ch:=by simpa using hvh
     obtain ⟨bh,rfl,-,-,hch,-⟩:=hop (by omega)
     obtain ⟨Af,cf,hfv,hcf,-⟩:=HRI.out.cap
     have xb:W5.cell? ⟨bh,i,none⟩=some (.slice Af t.moms.length cf):=by
      have h:=hch i (by omega) 0 (by omega)
      rw [Nat.mul_one,Nat.add_zero] at h
      rw [h,hfv]
     obtain ⟨Af',cf',hfv',hopf⟩:=HRI.out.open'
     obtain ⟨rfl,rfl⟩:Af=Af' ∧ cf=cf':=by rw [hfv] at hfv';simpa using hfv'
     obtain ⟨bf,rfl,-,-,hcf2,-⟩:=hopf (by omega)
     obtain ⟨hh,hhe⟩:∃ hh,holdsP t.moms s9 j=hh:=⟨_,rfl⟩
     have xh:W5.cell? ⟨bf,j,none⟩=some (.bool hh):=by
      have h:=hcf2 j hlt 0 (by omega)
      rw [Nat.mul_one,Nat.add_zero] at h
      rw [h,← hhe]
      rfl
     have HHE:=qhq hhe
     clear hop hch hvh hfv hfv' hopf hcf2 hhe
     refine wpAnyH_take2 0 (v:=?v0y) (by rfl) (by kernel_rfl) (by intro _ _ _ h;exact h) HS0.out (by rfl) ?hy0y ?rest0y
     case hy0y =>
      intro w' hSw
      have sx3:=qcq hSw x3
      have sxn:=qcq hSw xn
      have sxb:=qcq hSw xb
      have sxh:=qcq hSw xh
      clear hSw
      go_simp
      try with_reducible rfl
     simp only [Act.put,q1q,q2q,q3q]
     refine wpAnyH_take2 1 (v:=?v1y) (by rfl) (by kernel_rfl) (by intro _ _ _ h;exact h) HS0.out (by rfl) ?hy1y ?rest1y
     case hy1y =>
      intro w' hSw
      have sx3:=qcq hSw x3
      have sxn:=qcq hSw xn
      have sxb:=qcq hSw xb
      have sxh:=qcq hSw xh
      clear hSw
      go_simp
      try with_reducible rfl
     simp only [Act.put,q1q,q2q,q3q]
     refine wpAnyH_take2 2 (v:=?v2y) (by rfl) (by kernel_rfl) (by intro _ _ _ h;exact h) HS0.out (by rfl) ?hy2y ?rest2y
     case hy2y =>
      intro w' hSw
      have sx3:=qcq hSw x3
      have sxn:=qcq hSw xn
      have sxb:=qcq hSw xb
      have sxh:=qcq hSw xh
      clear hSw
      go_simp
      try with_reducible rfl
     simp only [Act.put,q1q,q2q,q3q]
     refine wpAnyH_take2 3 (v:=?v3y) (by rfl) (by kernel_rfl) (by intro _ _ _ h;exact h) HS0.out (by rfl) ?hy3y ?rest3y
     case hy3y =>
      intro w' hSw
      have sx3:=qcq hSw x3
      have sxn:=qcq hSw xn
      have sxb:=qcq hSw xb
      have sxh:=qcq hSw xh
      clear hSw
      go_simp
      try with_reducible rfl
     simp only [Act.put,q1q,q2q,q3q]
     refine wpAnyH_take2 4 (v:=?v4y) (by rfl) (by kernel_rfl) (by intro _ _ _ h;exact h) HS0.out (by rfl) ?hy4y ?rest4y
     case hy4y =>
      intro w' hSw
      have sx3:=qcq hSw x3
      have sxn:=qcq hSw xn
      have sxb:=qcq hSw xb
      have sxh:=qcq hSw xh
      clear hSw
      go_simp
      try with_reducible rfl
     simp only [Act.put,q1q,q2q,q3q]
     refine wpAnyH_take2 5 (v:=?v5y) (by rfl) (by kernel_rfl) (by intro _ _ _ h;exact h) HS0.out (by rfl) ?hy5y ?rest5y
     case hy5y =>
      intro w' hSw
      have sx3:=qcq hSw x3
      have sxn:=qcq hSw xn
      have sxb:=qcq hSw xb
      have sxh:=qcq hSw xh
      clear hSw
      go_simp
      try with_reducible rfl
     simp only [Act.put,q1q,q2q,q3q]
     refine wpAnyH_take2 6 (v:=?v6y) (by rfl) (by kernel_rfl) (by intro _ _ _ h;exact h) HS0.out (by rfl) ?hy6y ?rest6y
     case hy6y =>
      intro w' hSw
      have sx3:=qcq hSw x3
      have sxn:=qcq hSw xn
      have sxb:=qcq hSw xb
      have sxh:=qcq hSw xh
      clear hSw
      go_simp
      first | rfl | (rw [if_pos ⟨by omega,by omega⟩];try with_reducible rfl) | with_reducible rfl
     simp only [Act.put,q1q,q2q,q3q]
     refine wpAnyH_take2 7 (v:=?v7y) (by rfl) (by kernel_rfl) (by intro _ _ _ h;exact h) HS0.out (by rfl) ?hy7y ?rest7y
     case hy7y =>
      intro w' hSw
      have sx3:=qcq hSw x3
      have sxn:=qcq hSw xn
      have sxb:=qcq hSw xb
      have sxh:=qcq hSw xh
      clear hSw
      go_simp
      try with_reducible rfl
     simp only [Act.put,q1q,q2q,q3q]
     refine wpAnyH_take2 8 (v:=?v8y) (by rfl) (by kernel_rfl) (by intro _ _ _ h;exact h) HS0.out (by rfl) ?hy8y ?rest8y
     case hy8y =>
      intro w' hSw
      have sx3:=qcq hSw x3
      have sxn:=qcq hSw xn
      have sxb:=qcq hSw xb
      have sxh:=qcq hSw xh
      clear hSw
      go_simp
      try with_reducible rfl
     simp only [Act.put,q1q,q2q,q3q]
     refine wpAnyH_take2 9 (v:=?v9y) (by rfl) (by kernel_rfl) (by intro _ _ _ h;exact h) HS0.out (by rfl) ?hy9y ?rest9y
     case hy9y =>
      intro w' hSw
      have sx3:=qcq hSw x3
      have sxn:=qcq hSw xn
      have sxb:=qcq hSw xb
      have sxh:=qcq hSw xh
      clear hSw
      go_simp
      first | rfl | (rw [if_pos ⟨by omega,by omega⟩];try with_reducible rfl)
     simp only [Act.put,q1q,q2q,q3q]
     refine wpAnyH_take2 10 (v:=?v10y) (by rfl) (by kernel_rfl) (by intro _ _ _ h;exact h) HS0.out (by rfl) ?hy10y ?rest10y
     case hy10y =>
      intro w' hSw
      have sx3:=qcq hSw x3
      have sxn:=qcq hSw xn
      have sxb:=qcq hSw xb
      have sxh:=qcq hSw xh
      clear hSw
      go_simp
      try with_reducible rfl
     simp only [Act.put,q1q,q2q,q3q]
     refine wpAnyH_done (by kernel_rfl) ?_ _
     simp only [List.getElem_toArray,List.getElem_cons_zero,List.getElem_cons_succ,q1q,q2q,q3q]
     clear HS0 x3 xn xb xh
     have hcr:=cntN_rng t.moms s9 L.place j
     obtain ⟨cn,hcn⟩:∃ cn,cntN t.moms s9 L.place j=cn:=⟨_,rfl⟩
     rw [hcn] at hcr
     have xc:W5.cell? ⟨q + 1 + 1,2,none⟩=some (.int .i64 cn):=(HO.out.cell (j:=2) (by omega)).trans (by rw [← hcn];rfl)
     have xf:=HO.out.free 2
     have HCN:=qhq hcn
     clear hcn
     cases hh with
     | false =>
      have e9:cntN t.moms s9 L.place (j + 1)=cntN t.moms s9 L.place j:=by
       show cntN t.moms s9 L.place j + (if (decide ((j:Int) ≤ L.place) && holdsP t.moms s9 j)=true then 1 else 0)=_
       rw [HHE.out]
       simp
      have HE9:=qhq e9
      clear e9
      go_wp2_with fail
      go_roundw
      case rel=>exact ⟨j + 1,by omega,by omega,by go_num,by rw [HE9.out];exact HO.out,HS.out,HRS.out,HA.out,HOA.out,HRI.out,HMV.out⟩
      case measure=>simp [intOf];omega
     | true =>
      have e9:cntN t.moms s9 L.place (j + 1)=cn + 1:=by
       show cntN t.moms s9 L.place j + (if (decide ((j:Int) ≤ L.place) && holdsP t.moms s9 j)=true then 1 else 0)=_
       rw [HHE.out,decide_eq_true hp,HCN.out]
       rfl
      have HE9:=qhq e9
      clear e9
      go_wp2_with fail
      have hmT:Mv [38] (q + 1 + 1) W5 (W5.setCell ⟨q + 1 + 1,2,none⟩ (.int .i64 (cn + 1))):=(Mv.refl _ _ _).set (p:=⟨q + 1 + 1,2,none⟩) (Nat.le_refl _) HO.out (by simp) _
      have HM9:=qhq (HMV.out.setNew (p:=⟨q + 1 + 1,2,none⟩) (by dsimp only;omega) (by rw [HQ.out];dsimp only;omega) (.int .i64 (cn + 1)))
      go_roundw
      case rel =>
       refine ⟨j + 1,by omega,by omega,by go_num,?_,HS.out.farT HO.out 2 _,HRS.out.far (show q + 1 ≠ q + 1 + 1 by omega) _,HA.out.far (show q ≠ q + 1 + 1 by omega) _,HOA.out.mv hmT (by decide),HRI.out.mv hmT (by decide),HM9.out⟩
       rw [HE9.out]
       exact (HO.out.set (j:=2) (by omega) _).congr fun j hj=>by
        match j,hj with
        | 0,_=>rfl
        | 1,_=>rfl
        | 2,_=>rfl
        | 3,_=>rfl
        | 4,_=>rfl
        | 5,_=>rfl
      case measure=>simp [intOf];omega
    ·have hlt':¬ (j:Int) < (t.moms.length:Int):=by omega
     obtain rfl:j=t.moms.length:=by omega
     clear hOa hRi
     have r0:=HRS.out.cell (j:=0) (by omega)
     have e0:=HRS.out.free 0
     have o0:=HO.out.cell (j:=0) (by omega)
     have g0:=HO.out.free 0
     have r1:=HRS.out.cell (j:=1) (by omega)
     have e1:=HRS.out.free 1
     have o1:=HO.out.cell (j:=1) (by omega)
     have g1:=HO.out.free 1
     have r2:=HRS.out.cell (j:=2) (by omega)
     have e2:=HRS.out.free 2
     have o2:=HO.out.cell (j:=2) (by omega)
     have g2:=HO.out.free 2
     have r3:=HRS.out.cell (j:=3) (by omega)
     have e3:=HRS.out.free 3
     have o3:=HO.out.cell (j:=3) (by omega)
     have g3:=HO.out.free 3
     have r4:=HRS.out.cell (j:=4) (by omega)
     have e4:=HRS.out.free 4
     have o4:=HO.out.cell (j:=4) (by omega)
     have g4:=HO.out.free 4
     have r5:=HRS.out.cell (j:=5) (by omega)
     have e5:=HRS.out.free 5
     have o5:=HO.out.cell (j:=5) (by omega)
     have g5:=HO.out.free 5
     simp only [tdF] at r0 r1 r2 r3 r4 r5 o0 o1 o2 o3 o4 o5
     go_wp2_with fail
     refine bodyPost_ret (v:=.agg #[.int .i64 0,.int .i64 0,.int .i64 (cntN t.moms s9 L.place t.moms.length),.string ⟨#[]⟩,.slice none 0 0,.slice none 0 0]) (by simp [results,Tryz.results37,go_sem,r0,r1,r2,r3,r4,r5,o0,o1,o2,o3,o4,o5,td0]) rfl ?_
     rw [HU.out];exact ans_end (q:=⟨0,0,cntN t.moms s9 L.place t.moms.length,⟨#[]⟩,[],[]⟩) (by rfl) HS.out HRS.out OwR.nil (owr_z OwR.nil) HMV.out (by rw [HQ.out];omega) (by rw [HQ.out];exact hlw)
   ·have hp':L.place < (j:Int):=by omega
    rw [← cntN_cut t.moms s9 hp' t.moms.length hj] at HO
    clear hOa hRi
    have r0:=HRS.out.cell (j:=0) (by omega)
    have e0:=HRS.out.free 0
    have o0:=HO.out.cell (j:=0) (by omega)
    have g0:=HO.out.free 0
    have r1:=HRS.out.cell (j:=1) (by omega)
    have e1:=HRS.out.free 1
    have o1:=HO.out.cell (j:=1) (by omega)
    have g1:=HO.out.free 1
    have r2:=HRS.out.cell (j:=2) (by omega)
    have e2:=HRS.out.free 2
    have o2:=HO.out.cell (j:=2) (by omega)
    have g2:=HO.out.free 2
    have r3:=HRS.out.cell (j:=3) (by omega)
    have e3:=HRS.out.free 3
    have o3:=HO.out.cell (j:=3) (by omega)
    have g3:=HO.out.free 3
    have r4:=HRS.out.cell (j:=4) (by omega)
    have e4:=HRS.out.free 4
    have o4:=HO.out.cell (j:=4) (by omega)
    have g4:=HO.out.free 4
    have r5:=HRS.out.cell (j:=5) (by omega)
    have e5:=HRS.out.free 5
    have o5:=HO.out.cell (j:=5) (by omega)
    have g5:=HO.out.free 5
    simp only [tdF] at r0 r1 r2 r3 r4 r5 o0 o1 o2 o3 o4 o5
    go_wp2_with fail
    refine bodyPost_ret (v:=.agg #[.int .i64 0,.int .i64 0,.int .i64 (cntN t.moms s9 L.place t.moms.length),.string ⟨#[]⟩,.slice none 0 0,.slice none 0 0]) (by simp [results,Tryz.results37,go_sem,r0,r1,r2,r3,r4,r5,o0,o1,o2,o3,o4,o5,td0]) rfl ?_
    rw [HU.out];exact ans_end (q:=⟨0,0,cntN t.moms s9 L.place t.moms.length,⟨#[]⟩,[],[]⟩) (by rfl) HS.out HRS.out OwR.nil (owr_z OwR.nil) HMV.out (by rw [HQ.out];omega) (by rw [HQ.out];exact hlw)
end Go.Proofs.YtcklnjjbhngbcaaGreatDoor
