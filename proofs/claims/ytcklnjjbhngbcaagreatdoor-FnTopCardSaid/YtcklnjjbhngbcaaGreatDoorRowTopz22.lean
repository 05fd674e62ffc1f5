/- Lemmas and contracts of functions that the theorem of this claim leans on (texts Q4). -/
import Derived.Test.YtcklnjjbhngbcaaGreatDoorRowTopz00
import Derived.Test.YtcklnjjbhngbcaaGreatDoorRowTopz19
namespace Go.Proofs.YtcklnjjbhngbcaaGreatDoor
open Go.RowKit Go.Proofs.Lens
set_option linter.unusedSimpArgs false
set_option maxRecDepth 100000 in
set_option maxHeartbeats 4000000 in
theorem q4_calls (lo l:Nat) (v1 v2:Value) (t:PTr) (L:Lk) (hv pv:Value) (a:PAsk) (w:World) (h:SpL w lo l t.moms.length t.moms v1 v2 L hv pv) (wb:World) (hrb:RdTr wb v1 v2 t) (hbb:Below wb.heap.size wb w) (hbl:wb.heap.size ≤ lo) (hsm:smTr t) (hso:soundP t=true) (hok:LkOk t L) (hlo:lo ≤ l) (hl:L.past.length ≤ 1000000)
  (h1:a.op=4) (ha:askOk a=true) (hz:a.nm.size ≤ 9223372036854775807) :
  Calls Tryz.prog 37 #[.pointer (some ⟨l,0,none⟩),.agg #[.int .i64 a.op,.int .i64 a.n,.string a.nm,.int .i64 a.stop.kind,.int .i64 a.stop.fn,.int .i64 a.stop.line,.string a.stop.nm]] w (AnsPost (doMove L (lastP t L.ss L.place)) lo l t.moms.length t.moms v1 v2 w):=by
 obtain ⟨op,n,nm,st⟩:=a
 have h1:op=4:=h1
 subst h1
 have hlw:lo ≤ w.heap.size:=Nat.le_trans hlo (Nat.le_of_lt h.blk.lt)
 obtain ⟨A4,c4,rfl,-,-⟩:=h.past.cap
 obtain ⟨A3,c3,rfl,hc3⟩:=h.hits.cap
 have HS:=qhq h
 have HRB:=qhq hrb
 have HBB:=qhq hbb
 have HSM:=qhq hsm
 have HSO:=qhq hso
 have HOK:=qhq hok
 have hok':=qhq ha
 have hln:=hok.ln
 have hpl:=hok.lo
 have hph:=hok.hi
 have hmn:=(sound_fns (sound_iff hso)).2.2
 obtain ⟨⟨A1,c1,rfl,hn1,-⟩,⟨vv,⟨A2,c2,rfl,hn2,-⟩,-⟩⟩:=hrb
 have hba:=qaq (qaq (qaq (qrq _ w) (.cells #[.int .i64 4,.int .i64 n,.string nm,.int .i64 st.kind,.int .i64 st.fn,.int .i64 st.line,.string st.nm] 47)) (.cells #[.int .i64 0,.int .i64 0,.int .i64 0,.string ⟨#[]⟩,.slice none 0 0,.slice none 0 0] 38)) (.cells #[.int .i64 0,.int .i64 0,.int .i64 0,.string ⟨#[]⟩,.slice none 0 0,.slice none 0 0] 38)
 have hA:=((ask_box w 4 n nm st).alloc (.cells #[.int .i64 0,.int .i64 0,.int .i64 0,.string ⟨#[]⟩,.slice none 0 0,.slice none 0 0] 38)).alloc (.cells #[.int .i64 0,.int .i64 0,.int .i64 0,.string ⟨#[]⟩,.slice none 0 0,.slice none 0 0] 38)
 have hR:=(told_box (w.alloc (.cells #[.int .i64 4,.int .i64 n,.string nm,.int .i64 st.kind,.int .i64 st.fn,.int .i64 st.line,.string st.nm] 47))).alloc (.cells #[.int .i64 0,.int .i64 0,.int .i64 0,.string ⟨#[]⟩,.slice none 0 0,.slice none 0 0] 38)
 have hO:=told_box ((w.alloc (.cells #[.int .i64 4,.int .i64 n,.string nm,.int .i64 st.kind,.int .i64 st.fn,.int .i64 st.line,.string st.nm] 47)).alloc (.cells #[.int .i64 0,.int .i64 0,.int .i64 0,.string ⟨#[]⟩,.slice none 0 0,.slice none 0 0] 38))
 rw [World.size_alloc] at hR
 rw [World.size_alloc,World.size_alloc] at hO
 have HA:=qhq hA
 have HRS:=qhq hR
 have HO:=qhq hO
 have HW:=qhq hba
 clear h hsm hso hok hA hR hO hba hbb ha
 go_enter Tryz.func37,Tryz.ntmps37
 go_wp2_with fail
 refine (l5askOk_calls ⟨4,n,nm,st⟩ _ hz).mono ?_;rintro e w1 ⟨rfl,hb⟩
 rw [hok'.out]
 have hbw:=qtq HW.out hb
 have HMV:=qhq (Mv.of_below (ts:=qTys) hbw hlw)
 replace HA:=qhq (HA.out.later hb);replace HRS:=qhq (HRS.out.later hb);replace HO:=qhq (HO.out.later hb);clear hb
 replace HS:=qhq (HS.out.later hbw)
 have HR:=qhq (HRB.out.later (bl_trans9 HBB.out (bl_low9 hbw (Nat.le_trans hbl hlw))))
 clear hbw HW
 obtain ⟨q,hq⟩:∃ q,w.heap.size=q:=⟨_,rfl⟩
 have HQ:=qhq hq
 rw [hq] at HA HRS HO hlw ⊢
 clear hq
 have x0:w1.cell? ⟨q,0,none⟩=some (.int .i64 4):=HA.out.cell (j:=0) (by omega)
 go_upto_region 27 with fail
 clear x0
 have hbd:Below w1.heap.size w1 w1.drew:=bl_drew (qrq _ _)
 replace HMV:=qhq HMV.out.drew
 replace HS:=qhq (HS.out.later hbd);replace HA:=qhq (HA.out.later hbd);replace HRS:=qhq (HRS.out.later hbd);replace HO:=qhq (HO.out.later hbd);replace HR:=qhq (HR.out.later hbd);clear hbd
 refine wp_region_F 10 (fun w':World=>Below w1.drew.heap.size w1.drew w') (by kernel_rfl) ?_
 generalize w1.drew=W2 at HMV HS HA HRS HO HR ⊢
 have HS0:Hid (Below W2.heap.size W2 W2):=qhq (qrq _ _)
 have z0:W2.cell? ⟨l,0,none⟩=some (.slice A1 t.fns.length c1):=HS.out.blk.cell (j:=0) (by omega)
 have z1:W2.cell? ⟨l,1,none⟩=some (.slice A2 t.moms.length c2):=HS.out.blk.cell (j:=1) (by omega)
 have z2:W2.cell? ⟨l,2,none⟩=some (.int .i64 L.place):=HS.out.blk.cell (j:=2) (by omega)
 have z3:W2.cell? ⟨l,3,none⟩=some (.slice A3 L.ss.length c3):=HS.out.blk.cell (j:=3) (by omega)
 refine wpAnyF_takeC 0 [] (v:=?v0m) (by rfl) (by kernel_rfl) (by intro _ _ _ h;exact h) HS0.out (by rfl) ?hy0m ?rest0m
 case hy0m =>
  intro w' hSw
  have sz0:=qcq hSw z0
  have sz1:=qcq hSw z1
  have sz2:=qcq hSw z2
  have sz3:=qcq hSw z3
  clear hSw
  go_simp
  try with_reducible rfl
 simp only [Act.put,q1q,q2q,q3q]
 refine wpAnyF_takeC 1 [2,3,4,9] (v:=?v1m) (by rfl) (by kernel_rfl) (by intro _ _ _ h;exact h) HS0.out (by rfl) ?hy1m ?rest1m
 case hy1m =>
  intro w' hSw
  have sz0:=qcq hSw z0
  have sz1:=qcq hSw z1
  have sz2:=qcq hSw z2
  have sz3:=qcq hSw z3
  clear hSw
  go_simp
  try with_reducible rfl
 simp only [Act.put,q1q,q2q,q3q]
 refine wpAnyF_takeC 2 [3,4,9] (v:=?v2m) (by rfl) (by kernel_rfl) (by intro _ _ _ h;exact h) HS0.out (by rfl) ?hy2m ?rest2m
 case hy2m =>
  intro w' hSw
  have sz0:=qcq hSw z0
  have sz1:=qcq hSw z1
  have sz2:=qcq hSw z2
  have sz3:=qcq hSw z3
  clear hSw
  go_simp
  try with_reducible rfl
 simp only [Act.put,q1q,q2q,q3q]
 refine wpAnyF_takeC 3 [4,9] (v:=?v3m) (by rfl) (by kernel_rfl) (by intro _ _ _ h;exact h) HS0.out (by rfl) ?hy3m ?rest3m
 case hy3m =>
  intro w' hSw
  have sz0:=qcq hSw z0
  have sz1:=qcq hSw z1
  have sz2:=qcq hSw z2
  have sz3:=qcq hSw z3
  clear hSw
  go_simp
  try with_reducible rfl
 simp only [Act.put,q1q,q2q,q3q]
 refine wpAnyF_takeC 4 [9] (v:=?v4m) (by rfl) (by kernel_rfl) (by intro _ _ _ h;exact h) HS0.out (by rfl) ?hy4m ?rest4m
 case hy4m =>
  intro w' hSw
  have sz0:=qcq hSw z0
  have sz1:=qcq hSw z1
  have sz2:=qcq hSw z2
  have sz3:=qcq hSw z3
  clear hSw
  go_simp
  try with_reducible rfl
 simp only [Act.put,q1q,q2q,q3q]
 refine wpAnyF_takeC 5 [6,7,8,9] (v:=?v5m) (by rfl) (by kernel_rfl) (by intro _ _ _ h;exact h) HS0.out (by rfl) ?hy5m ?rest5m
 case hy5m =>
  intro w' hSw
  have sz0:=qcq hSw z0
  have sz1:=qcq hSw z1
  have sz2:=qcq hSw z2
  have sz3:=qcq hSw z3
  clear hSw
  go_simp
  try with_reducible rfl
 simp only [Act.put,q1q,q2q,q3q]
 refine wpAnyF_takeC 6 [7,8,9] (v:=?v6m) (by rfl) (by kernel_rfl) (by intro _ _ _ h;exact h) HS0.out (by rfl) ?hy6m ?rest6m
 case hy6m =>
  intro w' hSw
  have sz0:=qcq hSw z0
  have sz1:=qcq hSw z1
  have sz2:=qcq hSw z2
  have sz3:=qcq hSw z3
  clear hSw
  go_simp
  try with_reducible rfl
 simp only [Act.put,q1q,q2q,q3q]
 refine wpAnyF_takeC 7 [8,9] (v:=?v7m) (by rfl) (by kernel_rfl) (by intro _ _ _ h;exact h) HS0.out (by rfl) ?hy7m ?rest7m
 case hy7m =>
  intro w' hSw
  have sz0:=qcq hSw z0
  have sz1:=qcq hSw z1
  have sz2:=qcq hSw z2
  have sz3:=qcq hSw z3
  clear hSw
  go_simp
  try with_reducible rfl
 simp only [Act.put,q1q,q2q,q3q]
 refine wpAnyF_takeC 8 [9] (v:=?v8m) (by rfl) (by kernel_rfl) (by intro _ _ _ h;exact h) HS0.out (by rfl) ?hy8m ?rest8m
 case hy8m =>
  intro w' hSw
  have sz0:=qcq hSw z0
  have sz1:=qcq hSw z1
  have sz2:=qcq hSw z2
  have sz3:=qcq hSw z3
  clear hSw
  go_simp
  try with_reducible rfl
 simp only [Act.put,q1q,q2q,q3q]
 refine wpAnyF_one 9 (by rfl) (by kernel_rfl) rfl ?_
 intro K hK
 go_simp
 refine (l3last_calls lo t.moms.length t.moms L.ss _ L.place _ HS.out.hits (by omega) (by omega) (by omega)).mono ?_;rintro e w3 ⟨rfl,rfl⟩
 have hb:=qrq W2.heap.size W2
 have hnx:lastP t L.ss L.place=lastB (anyP t.moms L.ss) L.place.toNat:=by
  unfold lastP
  rw [if_pos (HOK.out.stops HSO.out)]
 rw [← hnx]
 clear hnx
 have HS1:=qhq hb
 obtain ⟨k,hke⟩:∃ k,lastP t L.ss L.place=k:=⟨_,rfl⟩
 rw [hke]
 have HKE:=qhq hke
 clear hke
 dsimp only
 refine hK.out _ _ (fun _=>HS1.out) ?_
 clear hK K
 replace HMV:=qhq (HMV.out.trans (Mv.of_below hb (Nat.le_trans hlw (by have:=HA.out.lt;omega))))
 replace HS:=qhq (HS.out.later hb);replace HRS:=qhq (HRS.out.later hb);replace HO:=qhq (HO.out.later hb);clear hb
 refine wpAnyF_one 10 (by rfl) (by kernel_rfl) rfl ?_
 intro K hK
 go_simp
 refine (l5move_calls lo l _ t.moms _ _ L _ _ k _ HS.out hlo hl).mono ?_;rintro e w4 ⟨rfl,⟨pv',hS4⟩,hm⟩
 have HS4:=qhq hS4
 replace HRS:=qhq (HRS.out.mv hm (by decide))
 replace HO:=qhq (HO.out.mv hm (by decide))
 replace HMV:=qhq (HMV.out.trans hm)
 dsimp only
 refine hK.out _ _ (fun h=>absurd rfl h) ?_
 clear hK K hS4 hm HS HS0 HS1 HA z0 z1 z2 z3
 refine wpAnyF_done (by kernel_rfl) ?_ _
 have hS9:=HS4.out
 rw [← HKE.out] at hS9
 have r0:=HRS.out.cell (j:=0) (by omega)
 have e0:=HRS.out.free 0
 have o0:=HO.out.cell (j:=0) (by omega)
 have r1:=HRS.out.cell (j:=1) (by omega)
 have e1:=HRS.out.free 1
 have o1:=HO.out.cell (j:=1) (by omega)
 have r2:=HRS.out.cell (j:=2) (by omega)
 have e2:=HRS.out.free 2
 have o2:=HO.out.cell (j:=2) (by omega)
 have r3:=HRS.out.cell (j:=3) (by omega)
 have e3:=HRS.out.free 3
 have o3:=HO.out.cell (j:=3) (by omega)
 have r4:=HRS.out.cell (j:=4) (by omega)
 have e4:=HRS.out.free 4
 have o4:=HO.out.cell (j:=4) (by omega)
 have r5:=HRS.out.cell (j:=5) (by omega)
 have e5:=HRS.out.free 5
 have o5:=HO.out.cell (j:=5) (by omega)
 simp only [tdF] at r0 r1 r2 r3 r4 r5 o0 o1 o2 o3 o4 o5
 go_wp2_with fail
 refine bodyPost_ret (v:=.agg #[.int .i64 (td0).place,.int .i64 (td0).code,.int .i64 (td0).num,.string (td0).text,.slice none 0 0,.slice none 0 0]) (by simp [results,Tryz.results37,go_sem,r0,r1,r2,r3,r4,r5,td0]) rfl ?_
 exact ans_end (q:=td0) (by rfl) hS9 HRS.out OwR.nil (owr_z OwR.nil) HMV.out (by rw [HQ.out];omega) (by rw [HQ.out];exact hlw)
set_option maxRecDepth 100000 in
set_option maxHeartbeats 4000000 in
theorem q5_calls (lo l:Nat) (v1 v2:Value) (t:PTr) (L:Lk) (hv pv:Value) (a:PAsk) (w:World) (h:SpL w lo l t.moms.length t.moms v1 v2 L hv pv) (wb:World) (hrb:RdTr wb v1 v2 t) (hbb:Below wb.heap.size wb w) (hbl:wb.heap.size ≤ lo) (hsm:smTr t) (hso:soundP t=true) (hok:LkOk t L) (hlo:lo ≤ l) (hl:L.past.length ≤ 1000000)
  (h1:a.op=5) (ha:askOk a=true) (hz:a.nm.size ≤ 9223372036854775807) :
  Calls Tryz.prog 37 #[.pointer (some ⟨l,0,none⟩),.agg #[.int .i64 a.op,.int .i64 a.n,.string a.nm,.int .i64 a.stop.kind,.int .i64 a.stop.fn,.int .i64 a.stop.line,.string a.stop.nm]] w (AnsPost (doMove L (intoP t L.place)) lo l t.moms.length t.moms v1 v2 w):=by
 obtain ⟨op,n,nm,st⟩:=a
 have h1:op=5:=h1
 subst h1
 have hlw:lo ≤ w.heap.size:=Nat.le_trans hlo (Nat.le_of_lt h.blk.lt)
 obtain ⟨A4,c4,rfl,-,-⟩:=h.past.cap
 obtain ⟨A3,c3,rfl,hc3⟩:=h.hits.cap
 have HS:=qhq h
 have HRB:=qhq hrb
 have HBB:=qhq hbb
 have HSM:=qhq hsm
 have HSO:=qhq hso
 have HOK:=qhq hok
 have hok':=qhq ha
 have hln:=hok.ln
 have hpl:=hok.lo
 have hph:=hok.hi
 have hmn:=(sound_fns (sound_iff hso)).2.2
 obtain ⟨⟨A1,c1,rfl,hn1,-⟩,⟨vv,⟨A2,c2,rfl,hn2,-⟩,-⟩⟩:=hrb
 have hba:=qaq (qaq (qaq (qrq _ w) (.cells #[.int .i64 5,.int .i64 n,.string nm,.int .i64 st.kind,.int .i64 st.fn,.int .i64 st.line,.string st.nm] 47)) (.cells #[.int .i64 0,.int .i64 0,.int .i64 0,.string ⟨#[]⟩,.slice none 0 0,.slice none 0 0] 38)) (.cells #[.int .i64 0,.int .i64 0,.int .i64 0,.string ⟨#[]⟩,.slice none 0 0,.slice none 0 0] 38)
 have hA:=((ask_box w 5 n nm st).alloc (.cells #[.int .i64 0,.int .i64 0,.int .i64 0,.string ⟨#[]⟩,.slice none 0 0,.slice none 0 0] 38)).alloc (.cells #[.int .i64 0,.int .i64 0,.int .i64 0,.string ⟨#[]⟩,.slice none 0 0,.slice none 0 0] 38)
 have hR:=(told_box (w.alloc (.cells #[.int .i64 5,.int .i64 n,.string nm,.int .i64 st.kind,.int .i64 st.fn,.int .i64 st.line,.string st.nm] 47))).alloc (.cells #[.int .i64 0,.int .i64 0,.int .i64 0,.string ⟨#[]⟩,.slice none 0 0,.slice none 0 0] 38)
 have hO:=told_box ((w.alloc (.cells #[.int .i64 5,.int .i64 n,.string nm,.int .i64 st.kind,.int .i64 st.fn,.int .i64 st.line,.string st.nm] 47)).alloc (.cells #[.int .i64 0,.int .i64 0,.int .i64 0,.string ⟨#[]⟩,.slice none 0 0,.slice none 0 0] 38))
 rw [World.size_alloc] at hR
 rw [World.size_alloc,World.size_alloc] at hO
 have HA:=qhq hA
 have HRS:=qhq hR
 have HO:=qhq hO
 have HW:=qhq hba
 clear h hsm hso hok hA hR hO hba hbb ha
 go_enter Tryz.func37,Tryz.ntmps37
 go_wp2_with fail
 refine (l5askOk_calls ⟨5,n,nm,st⟩ _ hz).mono ?_;rintro e w1 ⟨rfl,hb⟩
 rw [hok'.out]
 have hbw:=qtq HW.out hb
 have HMV:=qhq (Mv.of_below (ts:=qTys) hbw hlw)
 replace HA:=qhq (HA.out.later hb);replace HRS:=qhq (HRS.out.later hb);replace HO:=qhq (HO.out.later hb);clear hb
 replace HS:=qhq (HS.out.later hbw)
 have HR:=qhq (HRB.out.later (bl_trans9 HBB.out (bl_low9 hbw (Nat.le_trans hbl hlw))))
 clear hbw HW
 obtain ⟨q,hq⟩:∃ q,w.heap.size=q:=⟨_,rfl⟩
 have HQ:=qhq hq
 rw [hq] at HA HRS HO hlw ⊢
 clear hq
 have x0:w1.cell? ⟨q,0,none⟩=some (.int .i64 5):=HA.out.cell (j:=0) (by omega)
 go_upto_region 29 with fail
 clear x0
 have hbd:Below w1.heap.size w1 w1.drew:=bl_drew (qrq _ _)
 replace HMV:=qhq HMV.out.drew
 replace HS:=qhq (HS.out.later hbd);replace HA:=qhq (HA.out.later hbd);replace HRS:=qhq (HRS.out.later hbd);replace HO:=qhq (HO.out.later hbd);replace HR:=qhq (HR.out.later hbd);clear hbd
 refine wp_region_F 10 (fun w':World=>Below w1.drew.heap.size w1.drew w') (by kernel_rfl) ?_
 generalize w1.drew=W2 at HMV HS HA HRS HO HR ⊢
 have HS0:Hid (Below W2.heap.size W2 W2):=qhq (qrq _ _)
 have z0:W2.cell? ⟨l,0,none⟩=some (.slice A1 t.fns.length c1):=HS.out.blk.cell (j:=0) (by omega)
 have z1:W2.cell? ⟨l,1,none⟩=some (.slice A2 t.moms.length c2):=HS.out.blk.cell (j:=1) (by omega)
 have z2:W2.cell? ⟨l,2,none⟩=some (.int .i64 L.place):=HS.out.blk.cell (j:=2) (by omega)
 have z3:W2.cell? ⟨l,3,none⟩=some (.slice A3 L.ss.length c3):=HS.out.blk.cell (j:=3) (by omega)
 refine wpAnyF_takeC 0 [] (v:=?v0m) (by rfl) (by kernel_rfl) (by intro _ _ _ h;exact h) HS0.out (by rfl) ?hy0m ?rest0m
 case hy0m =>
  intro w' hSw
  have sz0:=qcq hSw z0
  have sz1:=qcq hSw z1
  have sz2:=qcq hSw z2
  have sz3:=qcq hSw z3
  clear hSw
  go_simp
  try with_reducible rfl
 simp only [Act.put,q1q,q2q,q3q]
 refine wpAnyF_takeC 1 [2,3,4,9] (v:=?v1m) (by rfl) (by kernel_rfl) (by intro _ _ _ h;exact h) HS0.out (by rfl) ?hy1m ?rest1m
 case hy1m =>
  intro w' hSw
  have sz0:=qcq hSw z0
  have sz1:=qcq hSw z1
  have sz2:=qcq hSw z2
  have sz3:=qcq hSw z3
  clear hSw
  go_simp
  try with_reducible rfl
 simp only [Act.put,q1q,q2q,q3q]
 refine wpAnyF_takeC 2 [3,4,9] (v:=?v2m) (by rfl) (by kernel_rfl) (by intro _ _ _ h;exact h) HS0.out (by rfl) ?hy2m ?rest2m
 case hy2m =>
  intro w' hSw
  have sz0:=qcq hSw z0
  have sz1:=qcq hSw z1
  have sz2:=qcq hSw z2
  have sz3:=qcq hSw z3
  clear hSw
  go_simp
  try with_reducible rfl
 simp only [Act.put,q1q,q2q,q3q]
 refine wpAnyF_takeC 3 [4,9] (v:=?v3m) (by rfl) (by kernel_rfl) (by intro _ _ _ h;exact h) HS0.out (by rfl) ?hy3m ?rest3m
 case hy3m =>
  intro w' hSw
  have sz0:=qcq hSw z0
  have sz1:=qcq hSw z1
  have sz2:=qcq hSw z2
  have sz3:=qcq hSw z3
  clear hSw
  go_simp
  try with_reducible rfl
 simp only [Act.put,q1q,q2q,q3q]
 refine wpAnyF_takeC 4 [9] (v:=?v4m) (by rfl) (by kernel_rfl) (by intro _ _ _ h;exact h) HS0.out (by rfl) ?hy4m ?rest4m
 case hy4m =>
  intro w' hSw
  have sz0:=qcq hSw z0
  have sz1:=qcq hSw z1
  have sz2:=qcq hSw z2
  have sz3:=qcq hSw z3
  clear hSw
  go_simp
  try with_reducible rfl
 simp only [Act.put,q1q,q2q,q3q]
 refine wpAnyF_takeC 5 [6,7,8,9] (v:=?v5m) (by rfl) (by kernel_rfl) (by intro _ _ _ h;exact h) HS0.out (by rfl) ?hy5m ?rest5m
 case hy5m =>
  intro w' hSw
  have sz0:=qcq hSw z0
  have sz1:=qcq hSw z1
  have sz2:=qcq hSw z2
  have sz3:=qcq hSw z3
  clear hSw
  go_simp
  try with_reducible rfl
 simp only [Act.put,q1q,q2q,q3q]
 refine wpAnyF_takeC 6 [7,8,9] (v:=?v6m) (by rfl) (by kernel_rfl) (by intro _ _ _ h;exact h) HS0.out (by rfl) ?hy6m ?rest6m
 case hy6m =>
  intro w' hSw
  have sz0:=qcq hSw z0
  have sz1:=qcq hSw z1
  have sz2:=qcq hSw z2
  have sz3:=qcq hSw z3
  clear hSw
  go_simp
  try with_reducible rfl
 simp only [Act.put,q1q,q2q,q3q]
 refine wpAnyF_takeC 7 [8,9] (v:=?v7m) (by rfl) (by kernel_rfl) (by intro _ _ _ h;exact h) HS0.out (by rfl) ?hy7m ?rest7m
 case hy7m =>
  intro w' hSw
  have sz0:=qcq hSw z0
  have sz1:=qcq hSw z1
  have sz2:=qcq hSw z2
  have sz3:=qcq hSw z3
  clear hSw
  go_simp
  try with_reducible rfl
 simp only [Act.put,q1q,q2q,q3q]
 refine wpAnyF_takeC 8 [9] (v:=?v8m) (by rfl) (by kernel_rfl) (by intro _ _ _ h;exact h) HS0.out (by rfl) ?hy8m ?rest8m
 case hy8m =>
  intro w' hSw
  have sz0:=qcq hSw z0
  have sz1:=qcq hSw z1
  have sz2:=qcq hSw z2
  have sz3:=qcq hSw z3
  clear hSw
  go_simp
  try with_reducible rfl
 simp only [Act.put,q1q,q2q,q3q]
 refine wpAnyF_one 9 (by rfl) (by kernel_rfl) rfl ?_
 intro K hK
 go_simp
 refine (l4into_calls _ _ t L.place _ HR.out HSM.out (HOK.out.good HSO.out)).mono ?_;rintro e w3 ⟨rfl,hb⟩
 have HS1:=qhq hb
 obtain ⟨k,hke⟩:∃ k,intoP t L.place=k:=⟨_,rfl⟩
 rw [hke]
 have HKE:=qhq hke
 clear hke
 dsimp only
 refine hK.out _ _ (fun _=>HS1.out) ?_
 clear hK K
 replace HMV:=qhq (HMV.out.trans (Mv.of_below hb (Nat.le_trans hlw (by have:=HA.out.lt;omega))))
 replace HS:=qhq (HS.out.later hb);replace HRS:=qhq (HRS.out.later hb);replace HO:=qhq (HO.out.later hb);clear hb
 refine wpAnyF_one 10 (by rfl) (by kernel_rfl) rfl ?_
 intro K hK
 go_simp
 refine (l5move_calls lo l _ t.moms _ _ L _ _ k _ HS.out hlo hl).mono ?_;rintro e w4 ⟨rfl,⟨pv',hS4⟩,hm⟩
 have HS4:=qhq hS4
 replace HRS:=qhq (HRS.out.mv hm (by decide))
 replace HO:=qhq (HO.out.mv hm (by decide))
 replace HMV:=qhq (HMV.out.trans hm)
 dsimp only
 refine hK.out _ _ (fun h=>absurd rfl h) ?_
 clear hK K hS4 hm HS HS0 HS1 HA z0 z1 z2 z3
 refine wpAnyF_done (by kernel_rfl) ?_ _
 have hS9:=HS4.out
 rw [← HKE.out] at hS9
 have r0:=HRS.out.cell (j:=0) (by omega)
 have e0:=HRS.out.free 0
 have o0:=HO.out.cell (j:=0) (by omega)
 have r1:=HRS.out.cell (j:=1) (by omega)
 have e1:=HRS.out.free 1
 have o1:=HO.out.cell (j:=1) (by omega)
 have r2:=HRS.out.cell (j:=2) (by omega)
 have e2:=HRS.out.free 2
 have o2:=HO.out.cell (j:=2) (by omega)
 have r3:=HRS.out.cell (j:=3) (by omega)
 have e3:=HRS.out.free 3
 have o3:=HO.out.cell (j:=3) (by omega)
 have r4:=HRS.out.cell (j:=4) (by omega)
 have e4:=HRS.out.free 4
 have o4:=HO.out.cell (j:=4) (by omega)
 have r5:=HRS.out.cell (j:=5) (by omega)
 have e5:=HRS.out.free 5
 have o5:=HO.out.cell (j:=5) (by omega)
 simp only [tdF] at r0 r1 r2 r3 r4 r5 o0 o1 o2 o3 o4 o5
 go_wp2_with fail
 refine bodyPost_ret (v:=.agg #[.int .i64 (td0).place,.int .i64 (td0).code,.int .i64 (td0).num,.string (td0).text,.slice none 0 0,.slice none 0 0]) (by simp [results,Tryz.results37,go_sem,r0,r1,r2,r3,r4,r5,td0]) rfl ?_
 exact ans_end (q:=td0) (by rfl) hS9 HRS.out OwR.nil (owr_z OwR.nil) HMV.out (by rw [HQ.out];omega) (by rw [HQ.out];exact hlw)
set_option maxRecDepth 100000 in
set_option maxHeartbeats 4000000 in
theorem q6_calls (lo l:Nat) (v1 v2:Value) (t:PTr) (L:Lk) (hv pv:Value) (a:PAsk) (w:World) (h:SpL w lo l t.moms.length t.moms v1 v2 L hv pv) (wb:World) (hrb:RdTr wb v1 v2 t) (hbb:Below wb.heap.size wb w) (hbl:wb.heap.size ≤ lo) (hsm:smTr t) (hso:soundP t=true) (hok:LkOk t L) (hlo:lo ≤ l) (hl:L.past.length ≤ 1000000)
  (h1:a.op=6) (ha:askOk a=true) (hz:a.nm.size ≤ 9223372036854775807) :
  Calls Tryz.prog 37 #[.pointer (some ⟨l,0,none⟩),.agg #[.int .i64 a.op,.int .i64 a.n,.string a.nm,.int .i64 a.stop.kind,.int .i64 a.stop.fn,.int .i64 a.stop.line,.string a.stop.nm]] w (AnsPost (doMove L (overP t L.place)) lo l t.moms.length t.moms v1 v2 w):=by
 obtain ⟨op,n,nm,st⟩:=a
 have h1:op=6:=h1
 subst h1
 have hlw:lo ≤ w.heap.size:=Nat.le_trans hlo (Nat.le_of_lt h.blk.lt)
 obtain ⟨A4,c4,rfl,-,-⟩:=h.past.cap
 obtain ⟨A3,c3,rfl,hc3⟩:=h.hits.cap
 have HS:=qhq h
 have HRB:=qhq hrb
 have HBB:=qhq hbb
 have HSM:=qhq hsm
 have HSO:=qhq hso
 have HOK:=qhq hok
 have hok':=qhq ha
 have hln:=hok.ln
 have hpl:=hok.lo
 have hph:=hok.hi
 have hmn:=(sound_fns (sound_iff hso)).2.2
 obtain ⟨⟨A1,c1,rfl,hn1,-⟩,⟨vv,⟨A2,c2,rfl,hn2,-⟩,-⟩⟩:=hrb
 have hba:=qaq (qaq (qaq (qrq _ w) (.cells #[.int .i64 6,.int .i64 n,.string nm,.int .i64 st.kind,.int .i64 st.fn,.int .i64 st.line,.string st.nm] 47)) (.cells #[.int .i64 0,.int .i64 0,.int .i64 0,.string ⟨#[]⟩,.slice none 0 0,.slice none 0 0] 38)) (.cells #[.int .i64 0,.int .i64 0,.int .i64 0,.string ⟨#[]⟩,.slice none 0 0,.slice none 0 0] 38)
 have hA:=((ask_box w 6 n nm st).alloc (.cells #[.int .i64 0,.int .i64 0,.int .i64 0,.string ⟨#[]⟩,.slice none 0 0,.slice none 0 0] 38)).alloc (.cells #[.int .i64 0,.int .i64 0,.int .i64 0,.string ⟨#[]⟩,.slice none 0 0,.slice none 0 0] 38)
 have hR:=(told_box (w.alloc (.cells #[.int .i64 6,.int .i64 n,.string nm,.int .i64 st.kind,.int .i64 st.fn,.int .i64 st.line,.string st.nm] 47))).alloc (.cells #[.int .i64 0,.int .i64 0,.int .i64 0,.string ⟨#[]⟩,.slice none 0 0,.slice none 0 0] 38)
 have hO:=told_box ((w.alloc (.cells #[.int .i64 6,.int .i64 n,.string nm,.int .i64 st.kind,.int .i64 st.fn,.int .i64 st.line,.string st.nm] 47)).alloc (.cells #[.int .i64 0,.int .i64 0,.int .i64 0,.string ⟨#[]⟩,.slice none 0 0,.slice none 0 0] 38))
 rw [World.size_alloc] at hR
 rw [World.size_alloc,World.size_alloc] at hO
 have HA:=qhq hA
 have HRS:=qhq hR
 have HO:=qhq hO
 have HW:=qhq hba
 clear h hsm hso hok hA hR hO hba hbb ha
 go_enter Tryz.func37,Tryz.ntmps37
 go_wp2_with fail
 refine (l5askOk_calls ⟨6,n,nm,st⟩ _ hz).mono ?_;rintro e w1 ⟨rfl,hb⟩
 rw [hok'.out]
 have hbw:=qtq HW.out hb
 have HMV:=qhq (Mv.of_below (ts:=qTys) hbw hlw)
 replace HA:=qhq (HA.out.later hb);replace HRS:=qhq (HRS.out.later hb);replace HO:=qhq (HO.out.later hb);clear hb
 replace HS:=qhq (HS.out.later hbw)
 have HR:=qhq (HRB.out.later (bl_trans9 HBB.out (bl_low9 hbw (Nat.le_trans hbl hlw))))
 clear hbw HW
 obtain ⟨q,hq⟩:∃ q,w.heap.size=q:=⟨_,rfl⟩
 have HQ:=qhq hq
 rw [hq] at HA HRS HO hlw ⊢
 clear hq
 have x0:w1.cell? ⟨q,0,none⟩=some (.int .i64 6):=HA.out.cell (j:=0) (by omega)
 go_upto_region 31 with fail
 clear x0
 have hbd:Below w1.heap.size w1 w1.drew:=bl_drew (qrq _ _)
 replace HMV:=qhq HMV.out.drew
 replace HS:=qhq (HS.out.later hbd);replace HA:=qhq (HA.out.later hbd);replace HRS:=qhq (HRS.out.later hbd);replace HO:=qhq (HO.out.later hbd);replace HR:=qhq (HR.out.later hbd);clear hbd
 refine wp_region_F 10 (fun w':World=>Below w1.drew.heap.size w1.drew w') (by kernel_rfl) ?_
 generalize w1.drew=W2 at HMV HS HA HRS HO HR ⊢
 have HS0:Hid (Below W2.heap.size W2 W2):=qhq (qrq _ _)
 have z0:W2.cell? ⟨l,0,none⟩=some (.slice A1 t.fns.length c1):=HS.out.blk.cell (j:=0) (by omega)
 have z1:W2.cell? ⟨l,1,none⟩=some (.slice A2 t.moms.length c2):=HS.out.blk.cell (j:=1) (by omega)
 have z2:W2.cell? ⟨l,2,none⟩=some (.int .i64 L.place):=HS.out.blk.cell (j:=2) (by omega)
 have z3:W2.cell? ⟨l,3,none⟩=some (.slice A3 L.ss.length c3):=HS.out.blk.cell (j:=3) (by omega)
 refine wpAnyF_takeC 0 [] (v:=?v0m) (by rfl) (by kernel_rfl) (by intro _ _ _ h;exact h) HS0.out (by rfl) ?hy0m ?rest0m
 case hy0m =>
  intro w' hSw
  have sz0:=qcq hSw z0
  have sz1:=qcq hSw z1
  have sz2:=qcq hSw z2
  have sz3:=qcq hSw z3
  clear hSw
  go_simp
  try with_reducible rfl
 simp only [Act.put,q1q,q2q,q3q]
 refine wpAnyF_takeC 1 [2,3,4,9] (v:=?v1m) (by rfl) (by kernel_rfl) (by intro _ _ _ h;exact h) HS0.out (by rfl) ?hy1m ?rest1m
 case hy1m =>
  intro w' hSw
  have sz0:=qcq hSw z0
  have sz1:=qcq hSw z1
  have sz2:=qcq hSw z2
  have sz3:=qcq hSw z3
  clear hSw
  go_simp
  try with_reducible rfl
 simp only [Act.put,q1q,q2q,q3q]
 refine wpAnyF_takeC 2 [3,4,9] (v:=?v2m) (by rfl) (by kernel_rfl) (by intro _ _ _ h;exact h) HS0.out (by rfl) ?hy2m ?rest2m
 case hy2m =>
  intro w' hSw
  have sz0:=qcq hSw z0
  have sz1:=qcq hSw z1
  have sz2:=qcq hSw z2
  have sz3:=qcq hSw z3
  clear hSw
  go_simp
  try with_reducible rfl
 simp only [Act.put,q1q,q2q,q3q]
 refine wpAnyF_takeC 3 [4,9] (v:=?v3m) (by rfl) (by kernel_rfl) (by intro _ _ _ h;exact h) HS0.out (by rfl) ?hy3m ?rest3m
 case hy3m =>
  intro w' hSw
  have sz0:=qcq hSw z0
  have sz1:=qcq hSw z1
  have sz2:=qcq hSw z2
  have sz3:=qcq hSw z3
  clear hSw
  go_simp
  try with_reducible rfl
 simp only [Act.put,q1q,q2q,q3q]
 refine wpAnyF_takeC 4 [9] (v:=?v4m) (by rfl) (by kernel_rfl) (by intro _ _ _ h;exact h) HS0.out (by rfl) ?hy4m ?rest4m
 case hy4m =>
  intro w' hSw
  have sz0:=qcq hSw z0
  have sz1:=qcq hSw z1
  have sz2:=qcq hSw z2
  have sz3:=qcq hSw z3
  clear hSw
  go_simp
  try with_reducible rfl
 simp only [Act.put,q1q,q2q,q3q]
 refine wpAnyF_takeC 5 [6,7,8,9] (v:=?v5m) (by rfl) (by kernel_rfl) (by intro _ _ _ h;exact h) HS0.out (by rfl) ?hy5m ?rest5m
 case hy5m =>
  intro w' hSw
  have sz0:=qcq hSw z0
  have sz1:=qcq hSw z1
  have sz2:=qcq hSw z2
  have sz3:=qcq hSw z3
  clear hSw
  go_simp
  try with_reducible rfl
 simp only [Act.put,q1q,q2q,q3q]
 refine wpAnyF_takeC 6 [7,8,9] (v:=?v6m) (by rfl) (by kernel_rfl) (by intro _ _ _ h;exact h) HS0.out (by rfl) ?hy6m ?rest6m
 case hy6m =>
  intro w' hSw
  have sz0:=qcq hSw z0
  have sz1:=qcq hSw z1
  have sz2:=qcq hSw z2
  have sz3:=qcq hSw z3
  clear hSw
  go_simp
  try with_reducible rfl
 simp only [Act.put,q1q,q2q,q3q]
 refine wpAnyF_takeC 7 [8,9] (v:=?v7m) (by rfl) (by kernel_rfl) (by intro _ _ _ h;exact h) HS0.out (by rfl) ?hy7m ?rest7m
 case hy7m =>
  intro w' hSw
  have sz0:=qcq hSw z0
  have sz1:=qcq hSw z1
  have sz2:=qcq hSw z2
  have sz3:=qcq hSw z3
  clear hSw
  go_simp
  try with_reducible rfl
 simp only [Act.put,q1q,q2q,q3q]
 refine wpAnyF_takeC 8 [9] (v:=?v8m) (by rfl) (by kernel_rfl) (by intro _ _ _ h;exact h) HS0.out (by rfl) ?hy8m ?rest8m
 case hy8m =>
  intro w' hSw
  have sz0:=qcq hSw z0
  have sz1:=qcq hSw z1
  have sz2:=qcq hSw z2
  have sz3:=qcq hSw z3
  clear hSw
  go_simp
  try with_reducible rfl
 simp only [Act.put,q1q,q2q,q3q]
 refine wpAnyF_one 9 (by rfl) (by kernel_rfl) rfl ?_
 intro K hK
 go_simp
 refine (l4leave_calls _ _ t L.place 1 0 _ HR.out HSM.out (HOK.out.good HSO.out) (by omega) (by omega)).mono ?_;rintro e w3 ⟨rfl,hb⟩
 have hnx:overP t L.place=seekP t L.place (leaveQ t L.place 1 0):=by
  unfold overP
  congr 1
  funext i
  exact over_leave t L.place i
 rw [← hnx]
 clear hnx
 have HS1:=qhq hb
 obtain ⟨k,hke⟩:∃ k,overP t L.place=k:=⟨_,rfl⟩
 rw [hke]
 have HKE:=qhq hke
 clear hke
 dsimp only
 refine hK.out _ _ (fun _=>HS1.out) ?_
 clear hK K
 replace HMV:=qhq (HMV.out.trans (Mv.of_below hb (Nat.le_trans hlw (by have:=HA.out.lt;omega))))
 replace HS:=qhq (HS.out.later hb);replace HRS:=qhq (HRS.out.later hb);replace HO:=qhq (HO.out.later hb);clear hb
 refine wpAnyF_one 10 (by rfl) (by kernel_rfl) rfl ?_
 intro K hK
 go_simp
 refine (l5move_calls lo l _ t.moms _ _ L _ _ k _ HS.out hlo hl).mono ?_;rintro e w4 ⟨rfl,⟨pv',hS4⟩,hm⟩
 have HS4:=qhq hS4
 replace HRS:=qhq (HRS.out.mv hm (by decide))
 replace HO:=qhq (HO.out.mv hm (by decide))
 replace HMV:=qhq (HMV.out.trans hm)
 dsimp only
 refine hK.out _ _ (fun h=>absurd rfl h) ?_
 clear hK K hS4 hm HS HS0 HS1 HA z0 z1 z2 z3
 refine wpAnyF_done (by kernel_rfl) ?_ _
 have hS9:=HS4.out
 rw [← HKE.out] at hS9
 have r0:=HRS.out.cell (j:=0) (by omega)
 have e0:=HRS.out.free 0
 have o0:=HO.out.cell (j:=0) (by omega)
 have r1:=HRS.out.cell (j:=1) (by omega)
 have e1:=HRS.out.free 1
 have o1:=HO.out.cell (j:=1) (by omega)
 have r2:=HRS.out.cell (j:=2) (by omega)
 have e2:=HRS.out.free 2
 have o2:=HO.out.cell (j:=2) (by omega)
 have r3:=HRS.out.cell (j:=3) (by omega)
 have e3:=HRS.out.free 3
 have o3:=HO.out.cell (j:=3) (by omega)
 have r4:=HRS.out.cell (j:=4) (by omega)
 have e4:=HRS.out.free 4
 have o4:=HO.out.cell (j:=4) (by omega)
 have r5:=HRS.out.cell (j:=5) (by omega)
 have e5:=HRS.out.free 5
 have o5:=HO.out.cell (j:=5) (by omega)
 simp only [tdF] at r0 r1 r2 r3 r4 r5 o0 o1 o2 o3 o4 o5
 go_wp2_with fail
 refine bodyPost_ret (v:=.agg #[.int .i64 (td0).place,.int .i64 (td0).code,.int .i64 (td0).num,.string (td0).text,.slice none 0 0,.slice none 0 0]) (by simp [results,Tryz.results37,go_sem,r0,r1,r2,r3,r4,r5,td0]) rfl ?_
 exact ans_end (q:=td0) (by rfl) hS9 HRS.out OwR.nil (owr_z OwR.nil) HMV.out (by rw [HQ.out];omega) (by rw [HQ.out];exact hlw)
set_option maxRecDepth 100000 in
set_option maxHeartbeats 4000000 in
theorem q7_calls (lo l:Nat) (v1 v2:Value) (t:PTr) (L:Lk) (hv pv:Value) (a:PAsk) (w:World) (h:SpL w lo l t.moms.length t.moms v1 v2 L hv pv) (wb:World) (hrb:RdTr wb v1 v2 t) (hbb:Below wb.heap.size wb w) (hbl:wb.heap.size ≤ lo) (hsm:smTr t) (hso:soundP t=true) (hok:LkOk t L) (hlo:lo ≤ l) (hl:L.past.length ≤ 1000000)
  (h1:a.op=7) (ha:askOk a=true) (hz:a.nm.size ≤ 9223372036854775807) :
  Calls Tryz.prog 37 #[.pointer (some ⟨l,0,none⟩),.agg #[.int .i64 a.op,.int .i64 a.n,.string a.nm,.int .i64 a.stop.kind,.int .i64 a.stop.fn,.int .i64 a.stop.line,.string a.stop.nm]] w (AnsPost (doMove L (outP t L.place)) lo l t.moms.length t.moms v1 v2 w):=by
 obtain ⟨op,n,nm,st⟩:=a
 have h1:op=7:=h1
 subst h1
 have hlw:lo ≤ w.heap.size:=Nat.le_trans hlo (Nat.le_of_lt h.blk.lt)
 obtain ⟨A4,c4,rfl,-,-⟩:=h.past.cap
 obtain ⟨A3,c3,rfl,hc3⟩:=h.hits.cap
 have HS:=qhq h
 have HRB:=qhq hrb
 have HBB:=qhq hbb
 have HSM:=qhq hsm
 have HSO:=qhq hso
 have HOK:=qhq hok
 have hok':=qhq ha
 have hln:=hok.ln
 have hpl:=hok.lo
 have hph:=hok.hi
 have hmn:=(sound_fns (sound_iff hso)).2.2
 obtain ⟨⟨A1,c1,rfl,hn1,-⟩,⟨vv,⟨A2,c2,rfl,hn2,-⟩,-⟩⟩:=hrb
 have hba:=qaq (qaq (qaq (qrq _ w) (.cells #[.int .i64 7,.int .i64 n,.string nm,.int .i64 st.kind,.int .i64 st.fn,.int .i64 st.line,.string st.nm] 47)) (.cells #[.int .i64 0,.int .i64 0,.int .i64 0,.string ⟨#[]⟩,.slice none 0 0,.slice none 0 0] 38)) (.cells #[.int .i64 0,.int .i64 0,.int .i64 0,.string ⟨#[]⟩,.slice none 0 0,.slice none 0 0] 38)
 have hA:=((ask_box w 7 n nm st).alloc (.cells #[.int .i64 0,.int .i64 0,.int .i64 0,.string ⟨#[]⟩,.slice none 0 0,.slice none 0 0] 38)).alloc (.cells #[.int .i64 0,.int .i64 0,.int .i64 0,.string ⟨#[]⟩,.slice none 0 0,.slice none 0 0] 38)
 have hR:=(told_box (w.alloc (.cells #[.int .i64 7,.int .i64 n,.string nm,.int .i64 st.kind,.int .i64 st.fn,.int .i64 st.line,.string st.nm] 47))).alloc (.cells #[.int .i64 0,.int .i64 0,.int .i64 0,.string ⟨#[]⟩,.slice none 0 0,.slice none 0 0] 38)
 have hO:=told_box ((w.alloc (.cells #[.int .i64 7,.int .i64 n,.string nm,.int .i64 st.kind,.int .i64 st.fn,.int .i64 st.line,.string st.nm] 47)).alloc (.cells #[.int .i64 0,.int .i64 0,.int .i64 0,.string ⟨#[]⟩,.slice none 0 0,.slice none 0 0] 38))
 rw [World.size_alloc] at hR
 rw [World.size_alloc,World.size_alloc] at hO
 have HA:=qhq hA
 have HRS:=qhq hR
 have HO:=qhq hO
 have HW:=qhq hba
 clear h hsm hso hok hA hR hO hba hbb ha
 go_enter Tryz.func37,Tryz.ntmps37
 go_wp2_with fail
 refine (l5askOk_calls ⟨7,n,nm,st⟩ _ hz).mono ?_;rintro e w1 ⟨rfl,hb⟩
 rw [hok'.out]
 have hbw:=qtq HW.out hb
 have HMV:=qhq (Mv.of_below (ts:=qTys) hbw hlw)
 replace HA:=qhq (HA.out.later hb);replace HRS:=qhq (HRS.out.later hb);replace HO:=qhq (HO.out.later hb);clear hb
 replace HS:=qhq (HS.out.later hbw)
 have HR:=qhq (HRB.out.later (bl_trans9 HBB.out (bl_low9 hbw (Nat.le_trans hbl hlw))))
 clear hbw HW
 obtain ⟨q,hq⟩:∃ q,w.heap.size=q:=⟨_,rfl⟩
 have HQ:=qhq hq
 rw [hq] at HA HRS HO hlw ⊢
 clear hq
 have x0:w1.cell? ⟨q,0,none⟩=some (.int .i64 7):=HA.out.cell (j:=0) (by omega)
 go_upto_region 33 with fail
 clear x0
 have hbd:Below w1.heap.size w1 w1.drew:=bl_drew (qrq _ _)
 replace HMV:=qhq HMV.out.drew
 replace HS:=qhq (HS.out.later hbd);replace HA:=qhq (HA.out.later hbd);replace HRS:=qhq (HRS.out.later hbd);replace HO:=qhq (HO.out.later hbd);replace HR:=qhq (HR.out.later hbd);clear hbd
 refine wp_region_F 10 (fun w':World=>Below w1.drew.heap.size w1.drew w') (by kernel_rfl) ?_
 generalize w1.drew=W2 at HMV HS HA HRS HO HR ⊢
 have HS0:Hid (Below W2.heap.size W2 W2):=qhq (qrq _ _)
 have z0:W2.cell? ⟨l,0,none⟩=some (.slice A1 t.fns.length c1):=HS.out.blk.cell (j:=0) (by omega)
 have z1:W2.cell? ⟨l,1,none⟩=some (.slice A2 t.moms.length c2):=HS.out.blk.cell (j:=1) (by omega)
 have z2:W2.cell? ⟨l,2,none⟩=some (.int .i64 L.place):=HS.out.blk.cell (j:=2) (by omega)
 have z3:W2.cell? ⟨l,3,none⟩=some (.slice A3 L.ss.length c3):=HS.out.blk.cell (j:=3) (by omega)
 refine wpAnyF_takeC 0 [] (v:=?v0m) (by rfl) (by kernel_rfl) (by intro _ _ _ h;exact h) HS0.out (by rfl) ?hy0m ?rest0m
 case hy0m =>
  intro w' hSw
  have sz0:=qcq hSw z0
  have sz1:=qcq hSw z1
  have sz2:=qcq hSw z2
  have sz3:=qcq hSw z3
  clear hSw
  go_simp
  try with_reducible rfl
 simp only [Act.put,q1q,q2q,q3q]
 refine wpAnyF_takeC 1 [2,3,4,9] (v:=?v1m) (by rfl) (by kernel_rfl) (by intro _ _ _ h;exact h) HS0.out (by rfl) ?hy1m ?rest1m
 case hy1m =>
  intro w' hSw
  have sz0:=qcq hSw z0
  have sz1:=qcq hSw z1
  have sz2:=qcq hSw z2
  have sz3:=qcq hSw z3
  clear hSw
  go_simp
  try with_reducible rfl
 simp only [Act.put,q1q,q2q,q3q]
 refine wpAnyF_takeC 2 [3,4,9] (v:=?v2m) (by rfl) (by kernel_rfl) (by intro _ _ _ h;exact h) HS0.out (by rfl) ?hy2m ?rest2m
 case hy2m =>
  intro w' hSw
  have sz0:=qcq hSw z0
  have sz1:=qcq hSw z1
  have sz2:=qcq hSw z2
  have sz3:=qcq hSw z3
  clear hSw
  go_simp
  try with_reducible rfl
 simp only [Act.put,q1q,q2q,q3q]
 refine wpAnyF_takeC 3 [4,9] (v:=?v3m) (by rfl) (by kernel_rfl) (by intro _ _ _ h;exact h) HS0.out (by rfl) ?hy3m ?rest3m
 case hy3m =>
  intro w' hSw
  have sz0:=qcq hSw z0
  have sz1:=qcq hSw z1
  have sz2:=qcq hSw z2
  have sz3:=qcq hSw z3
  clear hSw
  go_simp
  try with_reducible rfl
 simp only [Act.put,q1q,q2q,q3q]
 refine wpAnyF_takeC 4 [9] (v:=?v4m) (by rfl) (by kernel_rfl) (by intro _ _ _ h;exact h) HS0.out (by rfl) ?hy4m ?rest4m
 case hy4m =>
  intro w' hSw
  have sz0:=qcq hSw z0
  have sz1:=qcq hSw z1
  have sz2:=qcq hSw z2
  have sz3:=qcq hSw z3
  clear hSw
  go_simp
  try with_reducible rfl
 simp only [Act.put,q1q,q2q,q3q]
 refine wpAnyF_takeC 5 [6,7,8,9] (v:=?v5m) (by rfl) (by kernel_rfl) (by intro _ _ _ h;exact h) HS0.out (by rfl) ?hy5m ?rest5m
 case hy5m =>
  intro w' hSw
  have sz0:=qcq hSw z0
  have sz1:=qcq hSw z1
  have sz2:=qcq hSw z2
  have sz3:=qcq hSw z3
  clear hSw
  go_simp
  try with_reducible rfl
 simp only [Act.put,q1q,q2q,q3q]
 refine wpAnyF_takeC 6 [7,8,9] (v:=?v6m) (by rfl) (by kernel_rfl) (by intro _ _ _ h;exact h) HS0.out (by rfl) ?hy6m ?rest6m
 case hy6m =>
  intro w' hSw
  have sz0:=qcq hSw z0
  have sz1:=qcq hSw z1
  have sz2:=qcq hSw z2
  have sz3:=qcq hSw z3
  clear hSw
  go_simp
  try with_reducible rfl
 simp only [Act.put,q1q,q2q,q3q]
 refine wpAnyF_takeC 7 [8,9] (v:=?v7m) (by rfl) (by kernel_rfl) (by intro _ _ _ h;exact h) HS0.out (by rfl) ?hy7m ?rest7m
 case hy7m =>
  intro w' hSw
  have sz0:=qcq hSw z0
  have sz1:=qcq hSw z1
  have sz2:=qcq hSw z2
  have sz3:=qcq hSw z3
  clear hSw
  go_simp
  try with_reducible rfl
 simp only [Act.put,q1q,q2q,q3q]
 refine wpAnyF_takeC 8 [9] (v:=?v8m) (by rfl) (by kernel_rfl) (by intro _ _ _ h;exact h) HS0.out (by rfl) ?hy8m ?rest8m
 case hy8m =>
  intro w' hSw
  have sz0:=qcq hSw z0
  have sz1:=qcq hSw z1
  have sz2:=qcq hSw z2
  have sz3:=qcq hSw z3
  clear hSw
  go_simp
  try with_reducible rfl
 simp only [Act.put,q1q,q2q,q3q]
 refine wpAnyF_one 9 (by rfl) (by kernel_rfl) rfl ?_
 intro K hK
 go_simp
 refine (l4leave_calls _ _ t L.place 3 1 _ HR.out HSM.out (HOK.out.good HSO.out) (by omega) (by omega)).mono ?_;rintro e w3 ⟨rfl,hb⟩
 have hnx:outP t L.place=seekP t L.place (leaveQ t L.place 3 1):=by
  unfold outP
  congr 1
  funext i
  exact out_leave t L.place i
 rw [← hnx]
 clear hnx
 have HS1:=qhq hb
 obtain ⟨k,hke⟩:∃ k,outP t L.place=k:=⟨_,rfl⟩
 rw [hke]
 have HKE:=qhq hke
 clear hke
 dsimp only
 refine hK.out _ _ (fun _=>HS1.out) ?_
 clear hK K
 replace HMV:=qhq (HMV.out.trans (Mv.of_below hb (Nat.le_trans hlw (by have:=HA.out.lt;omega))))
 replace HS:=qhq (HS.out.later hb);replace HRS:=qhq (HRS.out.later hb);replace HO:=qhq (HO.out.later hb);clear hb
 refine wpAnyF_one 10 (by rfl) (by kernel_rfl) rfl ?_
 intro K hK
 go_simp
 refine (l5move_calls lo l _ t.moms _ _ L _ _ k _ HS.out hlo hl).mono ?_;rintro e w4 ⟨rfl,⟨pv',hS4⟩,hm⟩
 have HS4:=qhq hS4
 replace HRS:=qhq (HRS.out.mv hm (by decide))
 replace HO:=qhq (HO.out.mv hm (by decide))
 replace HMV:=qhq (HMV.out.trans hm)
 dsimp only
 refine hK.out _ _ (fun h=>absurd rfl h) ?_
 clear hK K hS4 hm HS HS0 HS1 HA z0 z1 z2 z3
 refine wpAnyF_done (by kernel_rfl) ?_ _
 have hS9:=HS4.out
 rw [← HKE.out] at hS9
 have r0:=HRS.out.cell (j:=0) (by omega)
 have e0:=HRS.out.free 0
 have o0:=HO.out.cell (j:=0) (by omega)
 have r1:=HRS.out.cell (j:=1) (by omega)
 have e1:=HRS.out.free 1
 have o1:=HO.out.cell (j:=1) (by omega)
 have r2:=HRS.out.cell (j:=2) (by omega)
 have e2:=HRS.out.free 2
 have o2:=HO.out.cell (j:=2) (by omega)
 have r3:=HRS.out.cell (j:=3) (by omega)
 have e3:=HRS.out.free 3
 have o3:=HO.out.cell (j:=3) (by omega)
 have r4:=HRS.out.cell (j:=4) (by omega)
 have e4:=HRS.out.free 4
 have o4:=HO.out.cell (j:=4) (by omega)
 have r5:=HRS.out.cell (j:=5) (by omega)
 have e5:=HRS.out.free 5
 have o5:=HO.out.cell (j:=5) (by omega)
 simp only [tdF] at r0 r1 r2 r3 r4 r5 o0 o1 o2 o3 o4 o5
 go_wp2_with fail
 refine bodyPost_ret (v:=.agg #[.int .i64 (td0).place,.int .i64 (td0).code,.int .i64 (td0).num,.string (td0).text,.slice none 0 0,.slice none 0 0]) (by simp [results,Tryz.results37,go_sem,r0,r1,r2,r3,r4,r5,td0]) rfl ?_
 exact ans_end (q:=td0) (by rfl) hS9 HRS.out OwR.nil (owr_z OwR.nil) HMV.out (by rw [HQ.out];omega) (by rw [HQ.out];exact hlw)
end Go.Proofs.YtcklnjjbhngbcaaGreatDoor
