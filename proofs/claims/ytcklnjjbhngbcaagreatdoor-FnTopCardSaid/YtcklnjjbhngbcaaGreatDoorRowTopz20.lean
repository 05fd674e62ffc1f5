/- Lemmas and contracts of functions that the theorem of this claim leans on (texts Q6, Q7). -/
import Derived.Test.YtcklnjjbhngbcaaGreatDoorRowTopz00
import Derived.Deep.RegionHeld3
import Derived.Test.YtcklnjjbhngbcaaGreatDoorRowTopz19
namespace Go.Proofs.YtcklnjjbhngbcaaGreatDoor
open Go.RowKit Go.Proofs.Lens
set_option linter.unusedSimpArgs false
set_option maxRecDepth 100000 in
set_option maxHeartbeats 4000000 in
theorem q11_calls (lo l:Nat) (v1 v2:Value) (t:PTr) (L:Lk) (hv pv:Value) (a:PAsk) (w:World) (h:SpL w lo l t.moms.length t.moms v1 v2 L hv pv) (wb:World) (hrb:RdTr wb v1 v2 t) (hbb:Below wb.heap.size wb w) (hbl:wb.heap.size ≤ lo) (hsm:smTr t) (hso:soundP t=true) (hok:LkOk t L) (hlo:lo ≤ l) (_hl:L.past.length ≤ 1000000)
  (h1:a.op=11) (ha:askOk a=true) (hz:a.nm.size ≤ 9223372036854775807) :
  Calls Tryz.prog 37 #[.pointer (some ⟨l,0,none⟩),.agg #[.int .i64 a.op,.int .i64 a.n,.string a.nm,.int .i64 a.stop.kind,.int .i64 a.stop.fn,.int .i64 a.stop.line,.string a.stop.nm]] w (AnsPost (doVars t L) lo l t.moms.length t.moms v1 v2 w):=by
 obtain ⟨op,n,nm,st⟩:=a
 have h1:op=11:=h1
 subst h1
 have hlw:lo ≤ w.heap.size:=Nat.le_trans hlo (Nat.le_of_lt h.blk.lt)
 obtain ⟨A4,c4,rfl,-,-⟩:=h.past.cap
 obtain ⟨A3,c3,rfl,hc3⟩:=h.hits.cap
 have HS:=qhq h
 have HRB:=qhq hrb
 have HBB:=qhq hbb
 have HSM:=qhq hsm
 have HSO:=qhq hso
 have HOK:=qhq hok
 have hok':=qhq ha
 have hln:=hok.ln
 have hpl:=hok.lo
 have hph:=hok.hi
 have hmn:=(sound_fns (sound_iff hso)).2.2
 obtain ⟨⟨A1,c1,rfl,hn1,-⟩,⟨vv,⟨A2,c2,rfl,hn2,-⟩,-⟩⟩:=hrb
 have hba:=qaq (qaq (qaq (qrq _ w) (.cells #[.int .i64 11,.int .i64 n,.string nm,.int .i64 st.kind,.int .i64 st.fn,.int .i64 st.line,.string st.nm] 47)) (.cells #[.int .i64 0,.int .i64 0,.int .i64 0,.string ⟨#[]⟩,.slice none 0 0,.slice none 0 0] 38)) (.cells #[.int .i64 0,.int .i64 0,.int .i64 0,.string ⟨#[]⟩,.slice none 0 0,.slice none 0 0] 38)
 have hA:=((ask_box w 11 n nm st).alloc (.cells #[.int .i64 0,.int .i64 0,.int .i64 0,.string ⟨#[]⟩,.slice none 0 0,.slice none 0 0] 38)).alloc (.cells #[.int .i64 0,.int .i64 0,.int .i64 0,.string ⟨#[]⟩,.slice none 0 0,.slice none 0 0] 38)
 have hR:=(told_box (w.alloc (.cells #[.int .i64 11,.int .i64 n,.string nm,.int .i64 st.kind,.int .i64 st.fn,.int .i64 st.line,.string st.nm] 47))).alloc (.cells #[.int .i64 0,.int .i64 0,.int .i64 0,.string ⟨#[]⟩,.slice none 0 0,.slice none 0 0] 38)
 have hO:=told_box ((w.alloc (.cells #[.int .i64 11,.int .i64 n,.string nm,.int .i64 st.kind,.int .i64 st.fn,.int .i64 st.line,.string st.nm] 47)).alloc (.cells #[.int .i64 0,.int .i64 0,.int .i64 0,.string ⟨#[]⟩,.slice none 0 0,.slice none 0 0] 38))
 rw [World.size_alloc] at hR
 rw [World.size_alloc,World.size_alloc] at hO
 have HA:=qhq hA
 have HRS:=qhq hR
 have HO:=qhq hO
 have HW:=qhq hba
 clear h hsm hso hok hA hR hO hba hbb ha
 go_enter Tryz.func37,Tryz.ntmps37
 go_wp2_with fail
 refine (l5askOk_calls ⟨11,n,nm,st⟩ _ hz).mono ?_;rintro e w1 ⟨rfl,hb⟩
 rw [hok'.out]
 have hbw:=qtq HW.out hb
 have HMV:=qhq (Mv.of_below (ts:=qTys) hbw hlw)
 replace HA:=qhq (HA.out.later hb);replace HRS:=qhq (HRS.out.later hb);replace HO:=qhq (HO.out.later hb);clear hb
 replace HS:=qhq (HS.out.later hbw)
 have HR:=qhq (HRB.out.later (bl_trans9 HBB.out (bl_low9 hbw (Nat.le_trans hbl hlw))))
 clear hbw HW
 obtain ⟨q,hq⟩:∃ q,w.heap.size=q:=⟨_,rfl⟩
 have HQ:=qhq hq
 rw [hq] at HA HRS HO hlw ⊢
 clear hq
 have x0:w1.cell? ⟨q,0,none⟩=some (.int .i64 11):=HA.out.cell (j:=0) (by omega)
 have hw1:q ≤ w1.heap.size:=by have:=HA.out.lt;omega
 have hpl2:L.place ≤ 3000:=by omega
 go_wp2_with fail
 refine (l5vars_calls lo l _ t.moms _ _ t L _ _ _ HS.out HR.out HSM.out hmn hpl2 hpl).mono ?_;rintro e w2 ⟨u,rfl,hOv,hb⟩
 have HOV:=qhq (hOv.lower hw1)
 obtain ⟨A9,c9,rfl,-⟩:=hOv.cap
 replace HMV:=qhq (HMV.out.trans (Mv.of_below hb (Nat.le_trans hlw hw1)))
 replace HS:=qhq (HS.out.later hb);replace HA:=qhq (HA.out.later hb);replace HRS:=qhq (HRS.out.later hb);replace HO:=qhq (HO.out.later hb);clear hb
 clear hOv x0
 have r0:=HRS.out.cell (j:=0) (by omega)
 have e0:=HRS.out.free 0
 have o0:=HO.out.cell (j:=0) (by omega)
 have g0:=HO.out.free 0
 have r1:=HRS.out.cell (j:=1) (by omega)
 have e1:=HRS.out.free 1
 have o1:=HO.out.cell (j:=1) (by omega)
 have g1:=HO.out.free 1
 have r2:=HRS.out.cell (j:=2) (by omega)
 have e2:=HRS.out.free 2
 have o2:=HO.out.cell (j:=2) (by omega)
 have g2:=HO.out.free 2
 have r3:=HRS.out.cell (j:=3) (by omega)
 have e3:=HRS.out.free 3
 have o3:=HO.out.cell (j:=3) (by omega)
 have g3:=HO.out.free 3
 have r4:=HRS.out.cell (j:=4) (by omega)
 have e4:=HRS.out.free 4
 have o4:=HO.out.cell (j:=4) (by omega)
 have g4:=HO.out.free 4
 have r5:=HRS.out.cell (j:=5) (by omega)
 have e5:=HRS.out.free 5
 have o5:=HO.out.cell (j:=5) (by omega)
 have g5:=HO.out.free 5
 simp only [tdF] at r0 r1 r2 r3 r4 r5 o0 o1 o2 o3 o4 o5
 go_wp2_with fail
 refine bodyPost_ret (v:=.agg #[.int .i64 0,.int .i64 0,.int .i64 0,.string ⟨#[]⟩,.slice none 0 0,.slice A9 (varsAt t L.place).length c9]) (by simp [results,Tryz.results37,go_sem,r0,r1,r2,r3,r4,r5,o0,o1,o2,o3,o4,o5,td0]) rfl ?_
 unfold doVars;exact ans_end (q:=⟨0,0,0,⟨#[]⟩,[],varsAt t L.place⟩) (by rfl) (HS.out.farT HO.out 5 _) (HRS.out.far (show q + 1 ≠ q + 1 + 1 by omega) _) OwR.nil (owr_z (by rw [HQ.out];exact HOV.out.other HO.out (by decide) 5 _)) (HMV.out.setNew (p:=⟨q + 1 + 1,5,none⟩) (by dsimp only;omega) (by rw [HQ.out];dsimp only;omega) _) (by rw [HQ.out];omega) (by rw [HQ.out];exact hlw)
set_option maxRecDepth 100000 in
set_option maxHeartbeats 4000000 in
theorem q12_calls (lo l:Nat) (v1 v2:Value) (t:PTr) (L:Lk) (hv pv:Value) (a:PAsk) (w:World) (h:SpL w lo l t.moms.length t.moms v1 v2 L hv pv) (wb:World) (hrb:RdTr wb v1 v2 t) (hbb:Below wb.heap.size wb w) (hbl:wb.heap.size ≤ lo) (hsm:smTr t) (hso:soundP t=true) (hok:LkOk t L) (hlo:lo ≤ l) (_hl:L.past.length ≤ 1000000)
  (h1:a.op=12) (ha:askOk a=true) (hz:a.nm.size ≤ 9223372036854775807) :
  Calls Tryz.prog 37 #[.pointer (some ⟨l,0,none⟩),.agg #[.int .i64 a.op,.int .i64 a.n,.string a.nm,.int .i64 a.stop.kind,.int .i64 a.stop.fn,.int .i64 a.stop.line,.string a.stop.nm]] w (AnsPost (doValue t L a) lo l t.moms.length t.moms v1 v2 w):=by
 obtain ⟨op,n,nm,st⟩:=a
 have h1:op=12:=h1
 subst h1
 have hlw:lo ≤ w.heap.size:=Nat.le_trans hlo (Nat.le_of_lt h.blk.lt)
 obtain ⟨A4,c4,rfl,-,-⟩:=h.past.cap
 obtain ⟨A3,c3,rfl,hc3⟩:=h.hits.cap
 have HS:=qhq h
 have HRB:=qhq hrb
 have HBB:=qhq hbb
 have HSM:=qhq hsm
 have HSO:=qhq hso
 have HOK:=qhq hok
 have hok':=qhq ha
 have hln:=hok.ln
 have hpl:=hok.lo
 have hph:=hok.hi
 have hmn:=(sound_fns (sound_iff hso)).2.2
 obtain ⟨⟨A1,c1,rfl,hn1,-⟩,⟨vv,⟨A2,c2,rfl,hn2,-⟩,-⟩⟩:=hrb
 have hba:=qaq (qaq (qaq (qrq _ w) (.cells #[.int .i64 12,.int .i64 n,.string nm,.int .i64 st.kind,.int .i64 st.fn,.int .i64 st.line,.string st.nm] 47)) (.cells #[.int .i64 0,.int .i64 0,.int .i64 0,.string ⟨#[]⟩,.slice none 0 0,.slice none 0 0] 38)) (.cells #[.int .i64 0,.int .i64 0,.int .i64 0,.string ⟨#[]⟩,.slice none 0 0,.slice none 0 0] 38)
 have hA:=((ask_box w 12 n nm st).alloc (.cells #[.int .i64 0,.int .i64 0,.int .i64 0,.string ⟨#[]⟩,.slice none 0 0,.slice none 0 0] 38)).alloc (.cells #[.int .i64 0,.int .i64 0,.int .i64 0,.string ⟨#[]⟩,.slice none 0 0,.slice none 0 0] 38)
 have hR:=(told_box (w.alloc (.cells #[.int .i64 12,.int .i64 n,.string nm,.int .i64 st.kind,.int .i64 st.fn,.int .i64 st.line,.string st.nm] 47))).alloc (.cells #[.int .i64 0,.int .i64 0,.int .i64 0,.string ⟨#[]⟩,.slice none 0 0,.slice none 0 0] 38)
 have hO:=told_box ((w.alloc (.cells #[.int .i64 12,.int .i64 n,.string nm,.int .i64 st.kind,.int .i64 st.fn,.int .i64 st.line,.string st.nm] 47)).alloc (.cells #[.int .i64 0,.int .i64 0,.int .i64 0,.string ⟨#[]⟩,.slice none 0 0,.slice none 0 0] 38))
 rw [World.size_alloc] at hR
 rw [World.size_alloc,World.size_alloc] at hO
 have HA:=qhq hA
 have HRS:=qhq hR
 have HO:=qhq hO
 have HW:=qhq hba
 clear h hsm hso hok hA hR hO hba hbb ha
 go_enter Tryz.func37,Tryz.ntmps37
 go_wp2_with fail
 refine (l5askOk_calls ⟨12,n,nm,st⟩ _ hz).mono ?_;rintro e w1 ⟨rfl,hb⟩
 rw [hok'.out]
 have hbw:=qtq HW.out hb
 have HMV:=qhq (Mv.of_below (ts:=qTys) hbw hlw)
 replace HA:=qhq (HA.out.later hb);replace HRS:=qhq (HRS.out.later hb);replace HO:=qhq (HO.out.later hb);clear hb
 replace HS:=qhq (HS.out.later hbw)
 have HR:=qhq (HRB.out.later (bl_trans9 HBB.out (bl_low9 hbw (Nat.le_trans hbl hlw))))
 clear hbw HW
 obtain ⟨q,hq⟩:∃ q,w.heap.size=q:=⟨_,rfl⟩
 have HQ:=qhq hq
 rw [hq] at HA HRS HO hlw ⊢
 clear hq
 have x0:w1.cell? ⟨q,0,none⟩=some (.int .i64 12):=HA.out.cell (j:=0) (by omega)
 have hw1:q ≤ w1.heap.size:=by have:=HA.out.lt;omega
 have hpl2:L.place ≤ 3000:=by omega
 go_upto_region 53 with fail
 clear x0
 have hbd:Below w1.heap.size w1 w1.drew:=bl_drew (qrq _ _)
 replace HMV:=qhq HMV.out.drew
 replace HS:=qhq (HS.out.later hbd);replace HA:=qhq (HA.out.later hbd);replace HRS:=qhq (HRS.out.later hbd);replace HO:=qhq (HO.out.later hbd);replace HR:=qhq (HR.out.later hbd);clear hbd
 have hw2:q ≤ w1.drew.heap.size:=hw1
 refine wp_region_H (fun w':World=>Below w1.drew.heap.size w1.drew w') (by kernel_rfl) ?_
 generalize w1.drew=W2 at HMV HS HA HRS HO HR hw2 ⊢
 have HS0:Hid (Below W2.heap.size W2 W2):=qhq (qrq _ _)
 have zm:W2.cell? ⟨q,2,none⟩=some (.string nm):=HA.out.cell (j:=2) (by omega)
 refine wpAnyH_take2 0 (v:=?v0m) (by rfl) (by kernel_rfl) (by intro _ _ _ h;exact h) HS0.out (by rfl) ?hy0m ?rest0m
 case hy0m =>
  intro w' hSw
  have szm:=qcq hSw zm
  clear hSw
  go_simp
  try with_reducible rfl
 simp only [Act.put,q1q,q2q,q3q]
 refine wpAnyH_take2 2 (v:=?v2m) (by rfl) (by kernel_rfl) (by intro _ _ _ h;exact h) HS0.out (by rfl) ?hy2m ?rest2m
 case hy2m =>
  intro w' hSw
  have szm:=qcq hSw zm
  clear hSw
  go_simp
  try with_reducible rfl
 simp only [Act.put,q1q,q2q,q3q]
 refine wpAnyH_take2 3 (v:=?v3m) (by rfl) (by kernel_rfl) (by intro _ _ _ h;exact h) HS0.out (by rfl) ?hy3m ?rest3m
 case hy3m =>
  intro w' hSw
  have szm:=qcq hSw zm
  clear hSw
  go_simp
  try with_reducible rfl
 simp only [Act.put,q1q,q2q,q3q]
 refine wpAnyH_one 1 (by rfl) (by kernel_rfl) rfl ?_
 intro K hK
 go_simp
 refine (l5vars_calls lo l _ t.moms _ _ t L _ _ _ HS.out HR.out HSM.out hmn hpl2 hpl).mono ?_;rintro e w3 ⟨u,rfl,hOv,hb⟩
 have HS1:=qhq hb
 have HRV:=qhq hOv.rd
 obtain ⟨A9,c9,rfl,-⟩:=hOv.cap
 dsimp only
 refine hK.out _ _ HS1.out ?_
 clear hK K hOv
 refine wpAnyH_one 4 (by rfl) (by kernel_rfl) rfl ?_
 intro K hK
 go_simp
 refine (l3value_calls _ (varsAt t L.place) nm _ HRV.out).mono ?_;rintro e w4 ⟨rfl,hb⟩
 have HS2:=qhq (qtq HS1.out hb)
 obtain ⟨u,hu⟩:∃ u,valP (varsAt t L.place) nm=u:=⟨_,rfl⟩
 rw [hu]
 have HU:=qhq hu
 clear hu hb
 dsimp only
 refine hK.out _ _ HS2.out ?_
 clear hK K
 refine wpAnyH_take2 5 (v:=?v5n) (by rfl) (by kernel_rfl) (by intro _ _ _ h;exact h) HS2.out (by rfl) ?hy5n ?rest5n
 case hy5n =>
  intro w' hSw
  clear hSw
  go_simp
  try with_reducible rfl
 simp only [Act.put,q1q,q2q,q3q]
 refine wpAnyH_take2 6 (v:=?v6n) (by rfl) (by kernel_rfl) (by intro _ _ _ h;exact h) HS2.out (by rfl) ?hy6n ?rest6n
 case hy6n =>
  intro w' hSw
  clear hSw
  go_simp
  try with_reducible rfl
 simp only [Act.put,q1q,q2q,q3q]
 refine wpAnyH_take2 7 (v:=?v7n) (by rfl) (by kernel_rfl) (by intro _ _ _ h;exact h) HS2.out (by rfl) ?hy7n ?rest7n
 case hy7n =>
  intro w' hSw
  clear hSw
  go_simp
  try with_reducible rfl
 simp only [Act.put,q1q,q2q,q3q]
 refine wpAnyH_take2 8 (v:=?v8n) (by rfl) (by kernel_rfl) (by intro _ _ _ h;exact h) HS2.out (by rfl) ?hy8n ?rest8n
 case hy8n =>
  intro w' hSw
  clear hSw
  go_simp
  try with_reducible rfl
 simp only [Act.put,q1q,q2q,q3q]
 refine wpAnyH_take2 9 (v:=?v9n) (by rfl) (by kernel_rfl) (by intro _ _ _ h;exact h) HS2.out (by rfl) ?hy9n ?rest9n
 case hy9n =>
  intro w' hSw
  clear hSw
  go_simp
  try with_reducible rfl
 simp only [Act.put,q1q,q2q,q3q]
 refine wpAnyH_done (by kernel_rfl) ?_ _
 simp only [List.getElem_toArray,List.getElem_cons_zero,List.getElem_cons_succ,q1q,q2q,q3q]
 have hb:=HS2.out
 replace HMV:=qhq (HMV.out.trans (Mv.of_below hb (Nat.le_trans hlw hw2)))
 replace HS:=qhq (HS.out.later hb);replace HRS:=qhq (HRS.out.later hb);replace HO:=qhq (HO.out.later hb);clear hb
 clear zm HS0 HS1 HS2 HR HA
 cases u with
 | none =>
  simp only [Option.getD_none,Option.isSome_none]
  have hu:doValue t L ⟨12,n,nm,st⟩=(td0,L,3):=by unfold doValue;rw [show valP (varsAt t L.place) nm=none from HU.out]
  have r0:=HRS.out.cell (j:=0) (by omega)
  have e0:=HRS.out.free 0
  have o0:=HO.out.cell (j:=0) (by omega)
  have g0:=HO.out.free 0
  have r1:=HRS.out.cell (j:=1) (by omega)
  have e1:=HRS.out.free 1
  have o1:=HO.out.cell (j:=1) (by omega)
  have g1:=HO.out.free 1
  have r2:=HRS.out.cell (j:=2) (by omega)
  have e2:=HRS.out.free 2
  have o2:=HO.out.cell (j:=2) (by omega)
  have g2:=HO.out.free 2
  have r3:=HRS.out.cell (j:=3) (by omega)
  have e3:=HRS.out.free 3
  have o3:=HO.out.cell (j:=3) (by omega)
  have g3:=HO.out.free 3
  have r4:=HRS.out.cell (j:=4) (by omega)
  have e4:=HRS.out.free 4
  have o4:=HO.out.cell (j:=4) (by omega)
  have g4:=HO.out.free 4
  have r5:=HRS.out.cell (j:=5) (by omega)
  have e5:=HRS.out.free 5
  have o5:=HO.out.cell (j:=5) (by omega)
  have g5:=HO.out.free 5
  simp only [tdF] at r0 r1 r2 r3 r4 r5 o0 o1 o2 o3 o4 o5
  go_wp2_with fail
  refine bodyPost_ret (v:=.agg #[.int .i64 0,.int .i64 3,.int .i64 0,.string ⟨#[]⟩,.slice none 0 0,.slice none 0 0]) (by simp [results,Tryz.results37,go_sem,r0,r1,r2,r3,r4,r5,o0,o1,o2,o3,o4,o5,td0]) rfl ?_
  rw [hu];exact ans_end (q:={ td0 with code:=3 }) (by rfl) (HS.out.farT HO.out 1 _) (HRS.out.far (show q + 1 ≠ q + 1 + 1 by omega) _) OwR.nil (owr_z OwR.nil) (HMV.out.setNew (p:=⟨q + 1 + 1,1,none⟩) (by dsimp only;omega) (by rw [HQ.out];dsimp only;omega) (.int .i64 3)) (by rw [HQ.out];omega) (by rw [HQ.out];exact hlw)
 | some y =>
  simp only [Option.getD_some,Option.isSome_some]
  have hu:doValue t L ⟨12,n,nm,st⟩=(⟨0,0,0,y,[],[]⟩,L,0):=by unfold doValue;rw [show valP (varsAt t L.place) nm=some y from HU.out]
  have r0:=HRS.out.cell (j:=0) (by omega)
  have e0:=HRS.out.free 0
  have o0:=HO.out.cell (j:=0) (by omega)
  have g0:=HO.out.free 0
  have r1:=HRS.out.cell (j:=1) (by omega)
  have e1:=HRS.out.free 1
  have o1:=HO.out.cell (j:=1) (by omega)
  have g1:=HO.out.free 1
  have r2:=HRS.out.cell (j:=2) (by omega)
  have e2:=HRS.out.free 2
  have o2:=HO.out.cell (j:=2) (by omega)
  have g2:=HO.out.free 2
  have r3:=HRS.out.cell (j:=3) (by omega)
  have e3:=HRS.out.free 3
  have o3:=HO.out.cell (j:=3) (by omega)
  have g3:=HO.out.free 3
  have r4:=HRS.out.cell (j:=4) (by omega)
  have e4:=HRS.out.free 4
  have o4:=HO.out.cell (j:=4) (by omega)
  have g4:=HO.out.free 4
  have r5:=HRS.out.cell (j:=5) (by omega)
  have e5:=HRS.out.free 5
  have o5:=HO.out.cell (j:=5) (by omega)
  have g5:=HO.out.free 5
  simp only [tdF] at r0 r1 r2 r3 r4 r5 o0 o1 o2 o3 o4 o5
  go_wp2_with fail
  refine bodyPost_ret (v:=.agg #[.int .i64 0,.int .i64 0,.int .i64 0,.string y,.slice none 0 0,.slice none 0 0]) (by simp [results,Tryz.results37,go_sem,r0,r1,r2,r3,r4,r5,o0,o1,o2,o3,o4,o5,td0]) rfl ?_
  rw [hu];exact ans_end (q:=⟨0,0,0,y,[],[]⟩) (by rfl) (HS.out.farT HO.out 3 _) (HRS.out.far (show q + 1 ≠ q + 1 + 1 by omega) _) OwR.nil (owr_z OwR.nil) (HMV.out.setNew (p:=⟨q + 1 + 1,3,none⟩) (by dsimp only;omega) (by rw [HQ.out];dsimp only;omega) _) (by rw [HQ.out];omega) (by rw [HQ.out];exact hlw)
set_option linter.unusedSimpArgs false
theorem askOk_in10 {n:Int} {nm:ByteArray} {st:PStop} (h:askOk ⟨10,n,nm,st⟩=true):0 ≤ n ∧ n ≤ 100:=by
 unfold askOk at h
 simp at h
 exact inB_true.1 h.1.1
theorem IsS.mvT {w w':World} {lo lo2 g T:Nat} {s:PS} {f:Nat → Value} {ts:List TypeId} (h:IsS w lo g T s f) (hm:Mv ts lo2 w w') (h1:161 ∉ ts) (h2:35 ∉ ts) (h3:42 ∉ ts):IsS w' lo g T s f :=
 ⟨h.lo1,h.lo2,h.blk.mv hm h1,h.tb.mv hm h2,fun i hi=>(h.row i hi).mv hm h3,h.ne⟩
set_option maxRecDepth 100000 in
set_option maxHeartbeats 4000000 in
theorem q10_calls (lo l:Nat) (v1 v2:Value) (t:PTr) (L:Lk) (hv pv:Value) (a:PAsk) (w:World) (h:SpL w lo l t.moms.length t.moms v1 v2 L hv pv) (wb:World) (hrb:RdTr wb v1 v2 t) (hbb:Below wb.heap.size wb w) (hbl:wb.heap.size ≤ lo) (hsm:smTr t) (hso:soundP t=true) (hok:LkOk t L) (hlo:lo ≤ l) (_hl:L.past.length ≤ 1000000)
  (h1:a.op=10) (ha:askOk a=true) (hz:a.nm.size ≤ 9223372036854775807) :
  Calls Tryz.prog 37 #[.pointer (some ⟨l,0,none⟩),.agg #[.int .i64 a.op,.int .i64 a.n,.string a.nm,.int .i64 a.stop.kind,.int .i64 a.stop.fn,.int .i64 a.stop.line,.string a.stop.nm]] w (AnsPost (doWhere t L a) lo l t.moms.length t.moms v1 v2 w):=by
 obtain ⟨op,n,nm,st⟩:=a
 have h1:op=10:=h1
 subst h1
 have hlw:lo ≤ w.heap.size:=Nat.le_trans hlo (Nat.le_of_lt h.blk.lt)
 obtain ⟨A4,c4,rfl,-,-⟩:=h.past.cap
 obtain ⟨A3,c3,rfl,hc3⟩:=h.hits.cap
 have HS:=qhq h
 have HRB:=qhq hrb
 have HBB:=qhq hbb
 have HSM:=qhq hsm
 have HSO:=qhq hso
 have HOK:=qhq hok
 have hok':=qhq ha
 have hln:=hok.ln
 have hpl:=hok.lo
 have hph:=hok.hi
 have hmn:=(sound_fns (sound_iff hso)).2.2
 obtain ⟨⟨A1,c1,rfl,hn1,-⟩,⟨vv,⟨A2,c2,rfl,hn2,-⟩,-⟩⟩:=hrb
 have hba:=qaq (qaq (qaq (qrq _ w) (.cells #[.int .i64 10,.int .i64 n,.string nm,.int .i64 st.kind,.int .i64 st.fn,.int .i64 st.line,.string st.nm] 47)) (.cells #[.int .i64 0,.int .i64 0,.int .i64 0,.string ⟨#[]⟩,.slice none 0 0,.slice none 0 0] 38)) (.cells #[.int .i64 0,.int .i64 0,.int .i64 0,.string ⟨#[]⟩,.slice none 0 0,.slice none 0 0] 38)
 have hA:=((ask_box w 10 n nm st).alloc (.cells #[.int .i64 0,.int .i64 0,.int .i64 0,.string ⟨#[]⟩,.slice none 0 0,.slice none 0 0] 38)).alloc (.cells #[.int .i64 0,.int .i64 0,.int .i64 0,.string ⟨#[]⟩,.slice none 0 0,.slice none 0 0] 38)
 have hR:=(told_box (w.alloc (.cells #[.int .i64 10,.int .i64 n,.string nm,.int .i64 st.kind,.int .i64 st.fn,.int .i64 st.line,.string st.nm] 47))).alloc (.cells #[.int .i64 0,.int .i64 0,.int .i64 0,.string ⟨#[]⟩,.slice none 0 0,.slice none 0 0] 38)
 have hO:=told_box ((w.alloc (.cells #[.int .i64 10,.int .i64 n,.string nm,.int .i64 st.kind,.int .i64 st.fn,.int .i64 st.line,.string st.nm] 47)).alloc (.cells #[.int .i64 0,.int .i64 0,.int .i64 0,.string ⟨#[]⟩,.slice none 0 0,.slice none 0 0] 38))
 rw [World.size_alloc] at hR
 rw [World.size_alloc,World.size_alloc] at hO
 have HA:=qhq hA
 have HRS:=qhq hR
 have HO:=qhq hO
 have HW:=qhq hba
 clear h hsm hso hok hA hR hO hba hbb ha
 go_enter Tryz.func37,Tryz.ntmps37
 go_wp2_with fail
 refine (l5askOk_calls ⟨10,n,nm,st⟩ _ hz).mono ?_;rintro e w1 ⟨rfl,hb⟩
 rw [hok'.out]
 have hbw:=qtq HW.out hb
 have HMV:=qhq (Mv.of_below (ts:=qTys) hbw hlw)
 replace HA:=qhq (HA.out.later hb);replace HRS:=qhq (HRS.out.later hb);replace HO:=qhq (HO.out.later hb);clear hb
 replace HS:=qhq (HS.out.later hbw)
 have HR:=qhq (HRB.out.later (bl_trans9 HBB.out (bl_low9 hbw (Nat.le_trans hbl hlw))))
 clear hbw HW
 obtain ⟨q,hq⟩:∃ q,w.heap.size=q:=⟨_,rfl⟩
 have HQ:=qhq hq
 rw [hq] at HA HRS HO hlw ⊢
 clear hq
 have x0:w1.cell? ⟨q,0,none⟩=some (.int .i64 10):=HA.out.cell (j:=0) (by omega)
 have hw1:q ≤ w1.heap.size:=by have:=HA.out.lt;omega
 have hnr:=askOk_in10 hok'.out
 obtain ⟨j,hj⟩:∃ j:Nat,n=(j:Int):=⟨n.toNat,by omega⟩
 have hg9:=HOK.out.good HSO.out
 have HG:=qhq hg9
 have hst:stackP t L.place n=(atP t L.place).stk n:=by unfold stackP;rw [hg9,inB_true.2 hnr];rfl
 have hrn:runP t L.place=(atP t L.place).cur:=by unfold runP;rw [if_pos hg9]
 have hd:=(good_cur hg9).deep n
 have HST:=qhq hst
 have HRN:=qhq hrn
 clear hg9 hst hrn
 go_upto_region 47 with fail
 clear x0
 have hbd:Below w1.heap.size w1 w1.drew:=bl_drew (qrq _ _)
 replace HMV:=qhq HMV.out.drew
 replace HS:=qhq (HS.out.later hbd);replace HA:=qhq (HA.out.later hbd);replace HRS:=qhq (HRS.out.later hbd);replace HO:=qhq (HO.out.later hbd);replace HR:=qhq (HR.out.later hbd);clear hbd
 have hw2:q ≤ w1.drew.heap.size:=hw1
 refine wp_region_H (fun w':World=>Below w1.drew.heap.size w1.drew w') (by kernel_rfl) ?_
 generalize w1.drew=W2 at HMV HS HA HRS HO HR hw2 ⊢
 have HS0:Hid (Below W2.heap.size W2 W2):=qhq (qrq _ _)
 have z0:W2.cell? ⟨l,0,none⟩=some (.slice A1 t.fns.length c1):=HS.out.blk.cell (j:=0) (by omega)
 have z1:W2.cell? ⟨l,1,none⟩=some (.slice A2 t.moms.length c2):=HS.out.blk.cell (j:=1) (by omega)
 have z2:W2.cell? ⟨l,2,none⟩=some (.int .i64 L.place):=HS.out.blk.cell (j:=2) (by omega)
 refine wpAnyH_take2 0 (v:=?v0m) (by rfl) (by kernel_rfl) (by intro _ _ _ h;exact h) HS0.out (by rfl) ?hy0m ?rest0m
 case hy0m =>
  intro w' hSw
  have sz0:=qcq hSw z0
  have sz1:=qcq hSw z1
  have sz2:=qcq hSw z2
  clear hSw
  go_simp
  try with_reducible rfl
 simp only [Act.put,q1q,q2q,q3q]
 refine wpAnyH_take2 1 (v:=?v1m) (by rfl) (by kernel_rfl) (by intro _ _ _ h;exact h) HS0.out (by rfl) ?hy1m ?rest1m
 case hy1m =>
  intro w' hSw
  have sz0:=qcq hSw z0
  have sz1:=qcq hSw z1
  have sz2:=qcq hSw z2
  clear hSw
  go_simp
  try with_reducible rfl
 simp only [Act.put,q1q,q2q,q3q]
 refine wpAnyH_take2 2 (v:=?v2m) (by rfl) (by kernel_rfl) (by intro _ _ _ h;exact h) HS0.out (by rfl) ?hy2m ?rest2m
 case hy2m =>
  intro w' hSw
  have sz0:=qcq hSw z0
  have sz1:=qcq hSw z1
  have sz2:=qcq hSw z2
  clear hSw
  go_simp
  try with_reducible rfl
 simp only [Act.put,q1q,q2q,q3q]
 refine wpAnyH_take2 3 (v:=?v3m) (by rfl) (by kernel_rfl) (by intro _ _ _ h;exact h) HS0.out (by rfl) ?hy3m ?rest3m
 case hy3m =>
  intro w' hSw
  have sz0:=qcq hSw z0
  have sz1:=qcq hSw z1
  have sz2:=qcq hSw z2
  clear hSw
  go_simp
  try with_reducible rfl
 simp only [Act.put,q1q,q2q,q3q]
 refine wpAnyH_take2 4 (v:=?v4m) (by rfl) (by kernel_rfl) (by intro _ _ _ h;exact h) HS0.out (by rfl) ?hy4m ?rest4m
 case hy4m =>
  intro w' hSw
  have sz0:=qcq hSw z0
  have sz1:=qcq hSw z1
  have sz2:=qcq hSw z2
  clear hSw
  go_simp
  try with_reducible rfl
 simp only [Act.put,q1q,q2q,q3q]
 refine wpAnyH_take2 5 (v:=?v5m) (by rfl) (by kernel_rfl) (by intro _ _ _ h;exact h) HS0.out (by rfl) ?hy5m ?rest5m
 case hy5m =>
  intro w' hSw
  have sz0:=qcq hSw z0
  have sz1:=qcq hSw z1
  have sz2:=qcq hSw z2
  clear hSw
  go_simp
  try with_reducible rfl
 simp only [Act.put,q1q,q2q,q3q]
 refine wpAnyH_take2 6 (v:=?v6m) (by rfl) (by kernel_rfl) (by intro _ _ _ h;exact h) HS0.out (by rfl) ?hy6m ?rest6m
 case hy6m =>
  intro w' hSw
  have sz0:=qcq hSw z0
  have sz1:=qcq hSw z1
  have sz2:=qcq hSw z2
  clear hSw
  go_simp
  try with_reducible rfl
 simp only [Act.put,q1q,q2q,q3q]
 refine wpAnyH_take2 7 (v:=?v7m) (by rfl) (by kernel_rfl) (by intro _ _ _ h;exact h) HS0.out (by rfl) ?hy7m ?rest7m
 case hy7m =>
  intro w' hSw
  have sz0:=qcq hSw z0
  have sz1:=qcq hSw z1
  have sz2:=qcq hSw z2
  clear hSw
  go_simp
  try with_reducible rfl
 simp only [Act.put,q1q,q2q,q3q]
 refine wpAnyH_one 8 (by rfl) (by kernel_rfl) rfl ?_
 intro K hK
 go_simp
 refine (l1stand_calls _ _ t L.place _ HR.out HSM.out HG.out).mono ?_;rintro e w3 ⟨g,T,f,rfl,hS,hb⟩
 have HIS:=qhq hS
 have HS1:=qhq hb
 dsimp only
 refine hK.out _ _ HS1.out ?_
 clear hK K hS
 refine wpAnyH_take2 9 (v:=?v9n) (by rfl) (by kernel_rfl) (by intro _ _ _ h;exact h) HS1.out (by rfl) ?hy9n ?rest9n
 case hy9n =>
  intro w' hSw
  clear hSw
  go_simp
  try with_reducible rfl
 simp only [Act.put,q1q,q2q,q3q]
 refine wpAnyH_done (by kernel_rfl) ?_ _
 simp only [List.getElem_toArray,List.getElem_cons_zero,List.getElem_cons_succ,q1q,q2q,q3q]
 have hb:=HS1.out
 replace HMV:=qhq (HMV.out.trans (Mv.of_below hb (Nat.le_trans hlw hw2)))
 replace HS:=qhq (HS.out.later hb);replace HRS:=qhq (HRS.out.later hb);replace HO:=qhq (HO.out.later hb);replace HA:=qhq (HA.out.later hb);clear hb
 clear z0 z1 z2 HS0 HS1 HR
 have hcg:w3.cell? ⟨g,1,none⟩=some (.int .i64 (atP t L.place).cur):=HIS.out.blk.cell (j:=1) (by omega)
 have oc:w3.cell? ⟨q + 1 + 1,2,none⟩=some (.int .i64 0):=HO.out.cell (j:=2) (by omega)
 have of:=HO.out.free 2
 go_upto_region 49 with fail
 clear hcg oc of
 have hmT:Mv [38] (q + 1 + 1) w3 (w3.setCell ⟨q + 1 + 1,2,none⟩ (.int .i64 (atP t L.place).cur)):=(Mv.refl _ _ _).set (p:=⟨q + 1 + 1,2,none⟩) (Nat.le_refl _) HO.out (by simp) _
 have HO4:Hid (Blk (w3.setCell ⟨q + 1 + 1,2,none⟩ (.int .i64 (atP t L.place).cur)) (q + 1 + 1) 38 6 (tdF ⟨0,0,(atP t L.place).cur,⟨#[]⟩,[],[]⟩ (.slice none 0 0) (.slice none 0 0))):=qhq ((HO.out.set (j:=2) (by omega) _).congr fun j hj=>by
  match j,hj with
  | 0,_=>rfl
  | 1,_=>rfl
  | 2,_=>rfl
  | 3,_=>rfl
  | 4,_=>rfl
  | 5,_=>rfl)
 have HS4:=qhq (HS.out.farT HO.out 2 (.int .i64 (atP t L.place).cur))
 have HIS4:=qhq (HIS.out.mvT hmT (by decide) (by decide) (by decide))
 have HRS4:=qhq (HRS.out.far (p:=⟨q + 1 + 1,2,none⟩) (show q + 1 ≠ q + 1 + 1 by omega) (.int .i64 (atP t L.place).cur))
 have HA4:=qhq (HA.out.far (p:=⟨q + 1 + 1,2,none⟩) (show q ≠ q + 1 + 1 by omega) (.int .i64 (atP t L.place).cur))
 have HM4:=qhq (HMV.out.setNew (p:=⟨q + 1 + 1,2,none⟩) (by dsimp only;omega) (by rw [HQ.out];dsimp only;omega) (.int .i64 (atP t L.place).cur))
 have hw4:q ≤ (w3.setCell ⟨q + 1 + 1,2,none⟩ (.int .i64 (atP t L.place).cur)).heap.size:=by have:=HA4.out.lt;omega
 clear hmT HO HS HIS HRS HA HMV
 generalize World.setCell w3 _ _=w4 at HO4 HS4 HIS4 HRS4 HA4 HM4 hw4 ⊢
 have hbd:Below w4.heap.size w4 w4.drew:=bl_drew (qrq _ _)
 replace HM4:=qhq HM4.out.drew
 replace HO4:=qhq (HO4.out.later hbd);replace HS4:=qhq (HS4.out.later hbd);replace HIS4:=qhq (HIS4.out.later hbd);replace HRS4:=qhq (HRS4.out.later hbd);replace HA4:=qhq (HA4.out.later hbd);clear hbd
 have hw5:q ≤ w4.drew.heap.size:=hw4
 refine wp_region_F 10 (fun w':World=>Below w4.drew.heap.size w4.drew w') (by kernel_rfl) ?_
 generalize w4.drew=W5 at HO4 HS4 HIS4 HRS4 HA4 HM4 hw5 ⊢
 have HS0:Hid (Below W5.heap.size W5 W5):=qhq (qrq _ _)
 obtain ⟨Ad,cpd,g0,gr,-,-,hOd⟩:=HIS4.out.at hnr.1 hnr.2
 have HOD:=qhq hOd
 rw [hj,Int.toNat_natCast] at gr
 have zn:W5.cell? ⟨q,1,none⟩=some (.int .i64 (j:Int)):=(HA4.out.cell (j:=1) (by omega)).trans (by rw [← hj];rfl)
 have hji:(j:Int) < 101:=by omega
 clear hOd
 refine wpAnyF_takeC 0 [] (v:=?v0k) (by rfl) (by kernel_rfl) (by intro _ _ _ h;exact h) HS0.out (by rfl) ?hy0k ?rest0k
 case hy0k =>
  intro w' hSw
  have sg0:=qcq hSw g0
  have sgr:=qcq hSw gr
  have szn:=qcq hSw zn
  clear hSw
  go_simp
  try with_reducible rfl
 simp only [Act.put,q1q,q2q,q3q]
 refine wpAnyF_takeC 1 [] (v:=?v1k) (by rfl) (by kernel_rfl) (by intro _ _ _ h;exact h) HS0.out (by rfl) ?hy1k ?rest1k
 case hy1k =>
  intro w' hSw
  have sg0:=qcq hSw g0
  have sgr:=qcq hSw gr
  have szn:=qcq hSw zn
  clear hSw
  go_simp
  try with_reducible rfl
 simp only [Act.put,q1q,q2q,q3q]
 refine wpAnyF_takeC 2 [] (v:=?v2k) (by rfl) (by kernel_rfl) (by intro _ _ _ h;exact h) HS0.out (by rfl) ?hy2k ?rest2k
 case hy2k =>
  intro w' hSw
  have sg0:=qcq hSw g0
  have sgr:=qcq hSw gr
  have szn:=qcq hSw zn
  clear hSw
  go_simp
  try with_reducible rfl
 simp only [Act.put,q1q,q2q,q3q]
 refine wpAnyF_takeC 3 [] (v:=?v3k) (by rfl) (by kernel_rfl) (by intro _ _ _ h;exact h) HS0.out (by rfl) ?hy3k ?rest3k
 case hy3k =>
  intro w' hSw
  have sg0:=qcq hSw g0
  have sgr:=qcq hSw gr
  have szn:=qcq hSw zn
  clear hSw
  go_simp
  try with_reducible rfl
 simp only [Act.put,q1q,q2q,q3q]
 refine wpAnyF_takeC 4 [] (v:=?v4k) (by rfl) (by kernel_rfl) (by intro _ _ _ h;exact h) HS0.out (by rfl) ?hy4k ?rest4k
 case hy4k =>
  intro w' hSw
  have sg0:=qcq hSw g0
  have sgr:=qcq hSw gr
  have szn:=qcq hSw zn
  clear hSw
  go_simp
  try with_reducible rfl
 simp only [Act.put,q1q,q2q,q3q]
 refine wpAnyF_takeC 5 [] (v:=?v5k) (by rfl) (by kernel_rfl) (by intro _ _ _ h;exact h) HS0.out (by rfl) ?hy5k ?rest5k
 case hy5k =>
  intro w' hSw
  have sg0:=qcq hSw g0
  have sgr:=qcq hSw gr
  have szn:=qcq hSw zn
  clear hSw
  go_simp
  try with_reducible rfl
 simp only [Act.put,q1q,q2q,q3q]
 refine wpAnyF_takeC 6 [] (v:=?v6k) (by rfl) (by kernel_rfl) (by intro _ _ _ h;exact h) HS0.out (by rfl) ?hy6k ?rest6k
 case hy6k =>
  intro w' hSw
  have sg0:=qcq hSw g0
  have sgr:=qcq hSw gr
  have szn:=qcq hSw zn
  clear hSw
  go_simp
  rfl
 simp only [Act.put,q1q,q2q,q3q]
 refine wpAnyF_takeC 7 [] (v:=?v7k) (by rfl) (by kernel_rfl) (by intro _ _ _ h;exact h) HS0.out (by rfl) ?hy7k ?rest7k
 case hy7k =>
  intro w' hSw
  have sg0:=qcq hSw g0
  have sgr:=qcq hSw gr
  have szn:=qcq hSw zn
  clear hSw
  go_simp
  try with_reducible rfl
 simp only [Act.put,q1q,q2q,q3q]
 refine wpAnyF_one 8 (by rfl) (by kernel_rfl) rfl ?_
 intro K hK
 go_simp
 have hrd:RdFrs W5 (.slice Ad ((atP t L.place).stk (j:Int)).length cpd) ((atP t L.place).stk (j:Int)).reverse:=by
  have:=HOD.out.rd
  unfold RdFrs
  rw [List.length_reverse,← hj]
  exact this
 refine (l1inner_calls _ _ _ hrd (by rw [List.length_reverse,← hj];omega)).mono ?_
 rintro e w6 ⟨u,rfl,hO,hb⟩
 rw [List.length_reverse,List.reverse_reverse] at hO
 have HO2:=qhq (hO.lower (lo':=q) hw5)
 have HS1:=qhq hb
 obtain ⟨A9,c9,rfl,-⟩:=hO.cap
 dsimp only
 refine hK.out _ _ (fun _=>HS1.out) ?_
 clear hK K hO hrd
 replace HM4:=qhq (HM4.out.trans (Mv.of_below hb (Nat.le_trans hlw hw5)))
 replace HS4:=qhq (HS4.out.later hb);replace HRS4:=qhq (HRS4.out.later hb);replace HO4:=qhq (HO4.out.later hb);clear hb
 have oc:w6.cell? ⟨q + 1 + 1,4,none⟩=some (.slice none 0 0):=HO4.out.cell (j:=4) (by omega)
 have of:=HO4.out.free 4
 refine wpAnyF_one 9 (by rfl) (by kernel_rfl) rfl ?_
 intro K hK
 go_simp
 refine hK.out _ _ (fun _=>HS1.out) ?_
 clear hK K
 refine wpAnyF_one 10 (by rfl) (by kernel_rfl) rfl ?_
 intro K hK
 go_simp
 refine hK.out _ _ (fun h=>absurd rfl h) ?_
 clear hK K
 refine wpAnyF_done (by kernel_rfl) ?_ _
 clear oc of g0 gr zn HS0 HS1
 have hu:doWhere t L ⟨10,n,nm,st⟩=(⟨0,0,(atP t L.place).cur,⟨#[]⟩,(atP t L.place).stk (j:Int),[]⟩,L,0):=by
  unfold doWhere
  rw [show stackP t L.place n=_ from HST.out,HRN.out,hj]
 have r0:=HRS4.out.cell (j:=0) (by omega)
 have e0:=HRS4.out.free 0
 have o0:=HO4.out.cell (j:=0) (by omega)
 have g0:=HO4.out.free 0
 have r1:=HRS4.out.cell (j:=1) (by omega)
 have e1:=HRS4.out.free 1
 have o1:=HO4.out.cell (j:=1) (by omega)
 have g1:=HO4.out.free 1
 have r2:=HRS4.out.cell (j:=2) (by omega)
 have e2:=HRS4.out.free 2
 have o2:=HO4.out.cell (j:=2) (by omega)
 have g2:=HO4.out.free 2
 have r3:=HRS4.out.cell (j:=3) (by omega)
 have e3:=HRS4.out.free 3
 have o3:=HO4.out.cell (j:=3) (by omega)
 have g3:=HO4.out.free 3
 have r4:=HRS4.out.cell (j:=4) (by omega)
 have e4:=HRS4.out.free 4
 have o4:=HO4.out.cell (j:=4) (by omega)
 have g4:=HO4.out.free 4
 have r5:=HRS4.out.cell (j:=5) (by omega)
 have e5:=HRS4.out.free 5
 have o5:=HO4.out.cell (j:=5) (by omega)
 have g5:=HO4.out.free 5
 simp only [tdF] at r0 r1 r2 r3 r4 r5 o0 o1 o2 o3 o4 o5
 go_wp2_with fail
 refine bodyPost_ret (v:=.agg #[.int .i64 0,.int .i64 0,.int .i64 (atP t L.place).cur,.string ⟨#[]⟩,.slice A9 ((atP t L.place).stk (j:Int)).length c9,.slice none 0 0]) (by simp [results,Tryz.results37,go_sem,r0,r1,r2,r3,r4,r5,o0,o1,o2,o3,o4,o5,td0]) rfl ?_
 rw [hu];exact ans_end (q:=⟨0,0,(atP t L.place).cur,⟨#[]⟩,(atP t L.place).stk (j:Int),[]⟩) (by rfl) (HS4.out.farT HO4.out 4 _) (HRS4.out.far (show q + 1 ≠ q + 1 + 1 by omega) _) (by rw [HQ.out];exact HO2.out.other HO4.out (by decide) 4 _) (owr_z OwR.nil) (HM4.out.setNew (p:=⟨q + 1 + 1,4,none⟩) (by dsimp only;omega) (by rw [HQ.out];dsimp only;omega) _) (by rw [HQ.out];omega) (by rw [HQ.out];exact hlw)
end Go.Proofs.YtcklnjjbhngbcaaGreatDoor
