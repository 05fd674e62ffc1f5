/- Lemmas and contracts of functions that the theorem of this claim leans on (texts E8). -/
import Derived.Test.YtcklnjjbhngbcaaGreatDoorRowTopz00
import Derived.Test.YtcklnjjbhngbcaaGreatDoorRowTopz27
namespace Go.Proofs.YtcklnjjbhngbcaaGreatDoor
open Go.RowKit Go.Proofs.Lens
set_option linter.unusedSimpArgs false
theorem varsAt_len {t:PTr} {k:Int} (h:smTr t):(varsAt t k).length ≤ 1048576:=by
 unfold varsAt
 split
 ·rename_i hk
  have:=(inB_true.1 hk).2
  have h0:=(inB_true.1 hk).1
  exact (h.2.2 k.toNat (by omega)).2.1
 ·simp
theorem fld_vars (k tk fn ln:Int) (tx:ByteArray) (A:Option Addr) (n c:Nat) (W:World):(Instr.field 114 (.agg #[.int .i64 k,.int .i64 tk,.int .i64 fn,.int .i64 ln,.string tx,.slice A n c]) 5).run Tryz.prog W=.ok (.slice A n c) W:=by kernel_rfl
theorem elt_ok {ss:List PStop} (h:ss.all stopOk=true) {i:Nat} (hi:i < ss.length):stopOk (elt ss i)=true:=by
 rw [elt_eq hi]
 exact List.all_eq_true.1 h _ (List.getElem_mem hi)
set_option maxRecDepth 100000 in
set_option maxHeartbeats 4000000 in
theorem do10_calls (lo s sb tb x:Nat) (v1 v2:Value) (t:PTr) (D:Nat → Value) (L:Lk) (vs vu:Value) (a:PAsk) (w:World) (h:SeS w lo s v1 v2 D L vs vu) (he:SeE w s sb tb v1 v2) (hx:Td0 w x)
  (hr:RdTr w v1 v2 t) (hsm:smTr t) (hso:soundP t=true) (hok:LkOk t L) (hlo:lo ≤ s) (hlx:lo ≤ x) (wb:World) (hrb:RdTr wb v1 v2 t) (hbb:Below wb.heap.size wb w) (hbl:wb.heap.size ≤ lo) :
  Calls Tryz.prog 148 #[.agg #[.int .i64 a.op,.int .i64 a.n,.string a.nm,.int .i64 a.stop.kind,.int .i64 a.stop.fn,.int .i64 a.stop.line,.string a.stop.nm],.pointer (some ⟨x,0,none⟩),.pointer (some ⟨tb,0,none⟩),.pointer (some ⟨sb,0,none⟩)] w (DoPost (doWhere t L a) lo s x v1 v2 D w):=by
 obtain ⟨A3,c3,rfl,hn3,hm3⟩:=h.st.cap
 obtain ⟨A4,c4,rfl,hn4,hm4⟩:=h.un.cap
 have HS:=qhq h
 have HE:=qhq he
 have HX:=qhq hx
 have HR:=qhq hr
 have HSM:=qhq hsm
 have HSO:=qhq hso
 have HOK:=qhq hok
 have hlw:lo ≤ w.heap.size:=Nat.le_trans hlo (Nat.le_of_lt h.blk.lt)
 obtain ⟨⟨A1,c1,rfl,hn1,-⟩,⟨vv,⟨A2,c2,rfl,hn2,-⟩,-⟩⟩:=hr
 have hln:=hok.ln
 have hpl:=hok.lo
 have hph:=hok.hi
 have hmn:=(sound_fns (sound_iff hso)).2.2
 have HA0:=qhq (askBox w a)
 have hbw:=qaq (qrq _ w) (.cells #[.int .i64 a.op,.int .i64 a.n,.string a.nm,.int .i64 a.stop.kind,.int .i64 a.stop.fn,.int .i64 a.stop.line,.string a.stop.nm] 47)
 have hsz:(w.alloc (.cells #[.int .i64 a.op,.int .i64 a.n,.string a.nm,.int .i64 a.stop.kind,.int .i64 a.stop.fn,.int .i64 a.stop.line,.string a.stop.nm] 47)).heap.size=w.heap.size + 1:=by simp
 clear h he hx hsm hso hok
 go_enter Tryz.func148,Tryz.ntmps148
 go_upto_region 1 with fail
 generalize World.alloc w _=W at HA0 hbw hsz ⊢
 have HMV:=qhq (Mv.of_below (ts:=eTys) hbw hlw)
 replace HS:=qhq (HS.out.later hbw);replace HE:=qhq (HE.out.later hbw);replace HX:=qhq (HX.out.later hbw);replace HR:=qhq (HR.out.later hbw);clear hbw
 obtain ⟨q,hq⟩:∃ q,w.heap.size=q:=⟨_,rfl⟩
 rw [hq] at HA0 hsz hlw ⊢
 refine wp_region_F 11 (fun w':World=>Below W.drew.heap.size W.drew w') (by kernel_rfl) ?_
 have hszd:W.drew.heap.size=q + 1:=hsz
 replace HMV:=qhq HMV.out.drew
 have hbd:Below W.heap.size W W.drew:=bl_drew (qrq _ _)
 replace HS:=qhq (HS.out.later hbd);replace HE:=qhq (HE.out.later hbd);replace HX:=qhq (HX.out.later hbd);replace HR:=qhq (HR.out.later hbd);replace HA0:=qhq (HA0.out.later hbd);clear hbd
 generalize W.drew=W2 at HMV HS HE HX HR HA0 hszd ⊢
 clear hsz
 have hsz:=hszd
 clear hszd
 have HS0:Hid (Below W2.heap.size W2 W2):=qhq (qrq _ _)
 have zs:W2.cell? ⟨sb,0,none⟩=some (.pointer (some ⟨s,0,none⟩)):=HE.out.sbx.cell (j:=0) (by omega)
 have zt0:W2.cell? ⟨tb,0,none⟩=some (.slice A1 t.fns.length c1):=HE.out.tbx.cell (j:=0) (by omega)
 have zt1:W2.cell? ⟨tb,1,none⟩=some (.slice A2 t.moms.length c2):=HE.out.tbx.cell (j:=1) (by omega)
 have za:W2.cell? ⟨s,2,none⟩=some (.int .i64 L.place):=HS.out.blk.cell (j:=2) (by omega)
 have zn:W2.cell? ⟨q,1,none⟩=some (.int .i64 a.n):=HA0.out.cell (j:=1) (by omega)
 refine wpAnyF_takeC 0 [] (v:=?v0m) (by rfl) (by kernel_rfl) (by intro _ _ _ h;exact h) HS0.out (by rfl) ?hy0m ?rest0m
 case hy0m =>
  intro w' hSw
  have szs:=qcq hSw zs
  have szt0:=qcq hSw zt0
  have szt1:=qcq hSw zt1
  have sza:=qcq hSw za
  have szn:=qcq hSw zn
  clear hSw
  go_simp
  try with_reducible rfl
 simp only [Act.put,q1q,q2q,q3q]
 refine wpAnyF_takeC 1 [] (v:=?v1m) (by rfl) (by kernel_rfl) (by intro _ _ _ h;exact h) HS0.out (by rfl) ?hy1m ?rest1m
 case hy1m =>
  intro w' hSw
  have szs:=qcq hSw zs
  have szt0:=qcq hSw zt0
  have szt1:=qcq hSw zt1
  have sza:=qcq hSw za
  have szn:=qcq hSw zn
  clear hSw
  go_simp
  try with_reducible rfl
 simp only [Act.put,q1q,q2q,q3q]
 refine wpAnyF_takeC 2 [] (v:=?v2m) (by rfl) (by kernel_rfl) (by intro _ _ _ h;exact h) HS0.out (by rfl) ?hy2m ?rest2m
 case hy2m =>
  intro w' hSw
  have szs:=qcq hSw zs
  have szt0:=qcq hSw zt0
  have szt1:=qcq hSw zt1
  have sza:=qcq hSw za
  have szn:=qcq hSw zn
  clear hSw
  go_simp
  try with_reducible rfl
 simp only [Act.put,q1q,q2q,q3q]
 refine wpAnyF_takeC 3 [] (v:=?v3m) (by rfl) (by kernel_rfl) (by intro _ _ _ h;exact h) HS0.out (by rfl) ?hy3m ?rest3m
 case hy3m =>
  intro w' hSw
  have szs:=qcq hSw zs
  have szt0:=qcq hSw zt0
  have szt1:=qcq hSw zt1
  have sza:=qcq hSw za
  have szn:=qcq hSw zn
  clear hSw
  go_simp
  try with_reducible rfl
 simp only [Act.put,q1q,q2q,q3q]
 refine wpAnyF_takeC 4 [] (v:=?v4m) (by rfl) (by kernel_rfl) (by intro _ _ _ h;exact h) HS0.out (by rfl) ?hy4m ?rest4m
 case hy4m =>
  intro w' hSw
  have szs:=qcq hSw zs
  have szt0:=qcq hSw zt0
  have szt1:=qcq hSw zt1
  have sza:=qcq hSw za
  have szn:=qcq hSw zn
  clear hSw
  go_simp
  try with_reducible rfl
 simp only [Act.put,q1q,q2q,q3q]
 refine wpAnyF_takeC 5 [] (v:=?v5m) (by rfl) (by kernel_rfl) (by intro _ _ _ h;exact h) HS0.out (by rfl) ?hy5m ?rest5m
 case hy5m =>
  intro w' hSw
  have szs:=qcq hSw zs
  have szt0:=qcq hSw zt0
  have szt1:=qcq hSw zt1
  have sza:=qcq hSw za
  have szn:=qcq hSw zn
  clear hSw
  go_simp
  try with_reducible rfl
 simp only [Act.put,q1q,q2q,q3q]
 refine wpAnyF_takeC 6 [] (v:=?v6m) (by rfl) (by kernel_rfl) (by intro _ _ _ h;exact h) HS0.out (by rfl) ?hy6m ?rest6m
 case hy6m =>
  intro w' hSw
  have szs:=qcq hSw zs
  have szt0:=qcq hSw zt0
  have szt1:=qcq hSw zt1
  have sza:=qcq hSw za
  have szn:=qcq hSw zn
  clear hSw
  go_simp
  try with_reducible rfl
 simp only [Act.put,q1q,q2q,q3q]
 refine wpAnyF_takeC 7 [] (v:=?v7m) (by rfl) (by kernel_rfl) (by intro _ _ _ h;exact h) HS0.out (by rfl) ?hy7m ?rest7m
 case hy7m =>
  intro w' hSw
  have szs:=qcq hSw zs
  have szt0:=qcq hSw zt0
  have szt1:=qcq hSw zt1
  have sza:=qcq hSw za
  have szn:=qcq hSw zn
  clear hSw
  go_simp
  try with_reducible rfl
 simp only [Act.put,q1q,q2q,q3q]
 refine wpAnyF_one 8 (by rfl) (by kernel_rfl) rfl ?_
 intro K hK
 go_simp
 refine (impl_StackAt_calls _ _ t L.place a.n _ HR.out HSM.out).mono ?_;rintro e w3 ⟨u,rfl,hO,hb⟩
 have HS1:=qhq hb
 have HO:=qhq (hO.lower (lo':=w.heap.size) (by omega))
 obtain ⟨A5,c5,rfl,-⟩:=hO.cap
 dsimp only
 refine hK.out _ _ (fun _=>HS1.out) ?_
 clear hK K hO
 replace HMV:=qhq (HMV.out.trans (Mv.of_below hb (by omega)))
 replace HS:=qhq (HS.out.later hb);replace HX:=qhq (HX.out.later hb);replace HE:=qhq (HE.out.later hb);replace HA0:=qhq (HA0.out.later hb);clear hb
 have xc:w3.cell? ⟨x,4,none⟩=some (.slice none 0 0):=HX.out.cell (j:=4) (by omega)
 have xf:=HX.out.free 4
 refine wpAnyF_one 9 (by rfl) (by kernel_rfl) rfl ?_
 intro K hK
 go_simp
 refine hK.out _ _ (fun _=>HS1.out) ?_
 clear hK K
 refine wpAnyF_one 10 (by rfl) (by kernel_rfl) rfl ?_
 intro K hK
 go_simp
 refine hK.out _ _ (fun _=>HS1.out) ?_
 clear hK K
 refine wpAnyF_one 11 (by rfl) (by kernel_rfl) rfl ?_
 intro K hK
 go_simp
 refine hK.out _ _ (fun h=>absurd rfl h) ?_
 clear hK K
 refine wpAnyF_done (by kernel_rfl) ?_ _
 have HX1:=qhq ((HX.out.set (j:=4) (by omega) (.slice A5 (stackP t L.place a.n).length c5)).congr (f':=tdF ⟨0,0,0,⟨#[]⟩,stackP t L.place a.n,[]⟩ (.slice A5 (stackP t L.place a.n).length c5) (.slice none 0 0)) fun j hj=>by
  match j,hj with
  | 0,_=>rfl
  | 1,_=>rfl
  | 2,_=>rfl
  | 3,_=>rfl
  | 4,_=>rfl
  | 5,_=>rfl)
 have HSa:=qhq (HS.out.farX HX.out 4 (.slice A5 (stackP t L.place a.n).length c5))
 have HEa:=qhq (HE.out.farX HX.out 4 (.slice A5 (stackP t L.place a.n).length c5))
 have HOa:=qhq (HO.out.other HX.out (by decide) 4 (.slice A5 (stackP t L.place a.n).length c5))
 have HMa:=qhq ((Mx.ofMv HMV.out).set hlx 4 (.slice A5 (stackP t L.place a.n).length c5))
 have hsza:w.heap.size ≤ (w3.setCell ⟨x,4,none⟩ (.slice A5 (stackP t L.place a.n).length c5)).heap.size:=HMa.out.bl.size
 clear HX HS HE HO HMV HR HA0 HS0 HS1 xc xf zs zt0 zt1 za zn
 generalize World.setCell w3 _ _=W4 at HX1 HSa HEa HOa HMa hsza ⊢
 have hbW:=bl_trans9 hbb (bl_low9 HMa.out.bl hbl)
 have HR4:=qhq (hrb.later hbW)
 clear hbW
 go_upto_region 2 with fail
 have hbd:Below W4.heap.size W4 W4.drew:=bl_drew (qrq _ _)
 replace HMa:=qhq (HMa.out.trans (Mx.below hbd (by omega)))
 have hszb:w.heap.size ≤ W4.drew.heap.size:=hsza
 replace HX1:=qhq (HX1.out.later hbd);replace HSa:=qhq (HSa.out.later hbd);replace HEa:=qhq (HEa.out.later hbd);replace HOa:=qhq (HOa.out.later hbd);replace HR4:=qhq (HR4.out.later hbd);clear hbd
 refine wp_region_F 9 (fun w':World=>Below W4.drew.heap.size W4.drew w') (by kernel_rfl) ?_
 clear hsza
 generalize W4.drew=W5 at HX1 HSa HEa HOa HR4 HMa hszb ⊢
 have HS0:Hid (Below W5.heap.size W5 W5):=qhq (qrq _ _)
 have zs:W5.cell? ⟨sb,0,none⟩=some (.pointer (some ⟨s,0,none⟩)):=HEa.out.sbx.cell (j:=0) (by omega)
 have zt0:W5.cell? ⟨tb,0,none⟩=some (.slice A1 t.fns.length c1):=HEa.out.tbx.cell (j:=0) (by omega)
 have zt1:W5.cell? ⟨tb,1,none⟩=some (.slice A2 t.moms.length c2):=HEa.out.tbx.cell (j:=1) (by omega)
 have za:W5.cell? ⟨s,2,none⟩=some (.int .i64 L.place):=HSa.out.blk.cell (j:=2) (by omega)
 refine wpAnyF_takeC 0 [] (v:=?v0k) (by rfl) (by kernel_rfl) (by intro _ _ _ h;exact h) HS0.out (by rfl) ?hy0k ?rest0k
 case hy0k =>
  intro w' hSw
  have szs:=qcq hSw zs
  have szt0:=qcq hSw zt0
  have szt1:=qcq hSw zt1
  have sza:=qcq hSw za
  clear hSw
  go_simp
  try with_reducible rfl
 simp only [Act.put,q1q,q2q,q3q]
 refine wpAnyF_takeC 1 [] (v:=?v1k) (by rfl) (by kernel_rfl) (by intro _ _ _ h;exact h) HS0.out (by rfl) ?hy1k ?rest1k
 case hy1k =>
  intro w' hSw
  have szs:=qcq hSw zs
  have szt0:=qcq hSw zt0
  have szt1:=qcq hSw zt1
  have sza:=qcq hSw za
  clear hSw
  go_simp
  try with_reducible rfl
 simp only [Act.put,q1q,q2q,q3q]
 refine wpAnyF_takeC 2 [] (v:=?v2k) (by rfl) (by kernel_rfl) (by intro _ _ _ h;exact h) HS0.out (by rfl) ?hy2k ?rest2k
 case hy2k =>
  intro w' hSw
  have szs:=qcq hSw zs
  have szt0:=qcq hSw zt0
  have szt1:=qcq hSw zt1
  have sza:=qcq hSw za
  clear hSw
  go_simp
  try with_reducible rfl
 simp only [Act.put,q1q,q2q,q3q]
 refine wpAnyF_takeC 3 [] (v:=?v3k) (by rfl) (by kernel_rfl) (by intro _ _ _ h;exact h) HS0.out (by rfl) ?hy3k ?rest3k
 case hy3k =>
  intro w' hSw
  have szs:=qcq hSw zs
  have szt0:=qcq hSw zt0
  have szt1:=qcq hSw zt1
  have sza:=qcq hSw za
  clear hSw
  go_simp
  try with_reducible rfl
 simp only [Act.put,q1q,q2q,q3q]
 refine wpAnyF_takeC 4 [] (v:=?v4k) (by rfl) (by kernel_rfl) (by intro _ _ _ h;exact h) HS0.out (by rfl) ?hy4k ?rest4k
 case hy4k =>
  intro w' hSw
  have szs:=qcq hSw zs
  have szt0:=qcq hSw zt0
  have szt1:=qcq hSw zt1
  have sza:=qcq hSw za
  clear hSw
  go_simp
  try with_reducible rfl
 simp only [Act.put,q1q,q2q,q3q]
 refine wpAnyF_takeC 5 [] (v:=?v5k) (by rfl) (by kernel_rfl) (by intro _ _ _ h;exact h) HS0.out (by rfl) ?hy5k ?rest5k
 case hy5k =>
  intro w' hSw
  have szs:=qcq hSw zs
  have szt0:=qcq hSw zt0
  have szt1:=qcq hSw zt1
  have sza:=qcq hSw za
  clear hSw
  go_simp
  try with_reducible rfl
 simp only [Act.put,q1q,q2q,q3q]
 refine wpAnyF_one 6 (by rfl) (by kernel_rfl) rfl ?_
 intro K hK
 go_simp
 refine (impl_RunningAt_calls _ _ t L.place _ HR4.out HSM.out).mono ?_;rintro e w6 ⟨rfl,hb⟩
 have HS1:=qhq hb
 dsimp only
 refine hK.out _ _ (fun _=>HS1.out) ?_
 clear hK K
 replace HMa:=qhq (HMa.out.trans (Mx.below hb (by omega)))
 replace HX1:=qhq (HX1.out.later hb);replace HSa:=qhq (HSa.out.later hb);replace HEa:=qhq (HEa.out.later hb);replace HOa:=qhq (HOa.out.later hb);clear hb
 have xc:w6.cell? ⟨x,2,none⟩=some (.int .i64 0):=HX1.out.cell (j:=2) (by omega)
 have xf:=HX1.out.free 2
 refine wpAnyF_one 7 (by rfl) (by kernel_rfl) rfl ?_
 intro K hK
 go_simp
 refine hK.out _ _ (fun _=>HS1.out) ?_
 clear hK K
 refine wpAnyF_one 8 (by rfl) (by kernel_rfl) rfl ?_
 intro K hK
 go_simp
 refine hK.out _ _ (fun _=>HS1.out) ?_
 clear hK K
 refine wpAnyF_one 9 (by rfl) (by kernel_rfl) rfl ?_
 intro K hK
 go_simp
 refine hK.out _ _ (fun h=>absurd rfl h) ?_
 clear hK K
 refine wpAnyF_done (by kernel_rfl) ?_ _
 clear zs zt0 zt1 za xc xf HS0 HS1
 go_wp2_with fail
 go_ret
 unfold doWhere
 exact ⟨rfl,⟨_,_,HSa.out.farX HX1.out 2 _⟩,TdAt.of (sv:=.slice A5 (stackP t L.place a.n).length c5) (vv:=.slice none 0 0) (HX1.out.set (j:=2) (by omega) (.int .i64 (runP t L.place))) (fun j hj=>by
  match j,hj with
  | 0,_=>rfl
  | 1,_=>rfl
  | 2,_=>rfl
  | 3,_=>rfl
  | 4,_=>rfl
  | 5,_=>rfl) (HOa.out.other HX1.out (by decide) 2 _) (owr_z OwR.nil),HMa.out.set hlx 2 _⟩
set_option maxRecDepth 100000 in
set_option maxHeartbeats 4000000 in
theorem do11_calls (lo s sb tb x:Nat) (v1 v2:Value) (t:PTr) (D:Nat → Value) (L:Lk) (vs vu:Value) (a:PAsk) (w:World) (h:SeS w lo s v1 v2 D L vs vu) (he:SeE w s sb tb v1 v2) (hx:Td0 w x)
  (hr:RdTr w v1 v2 t) (hsm:smTr t) (hso:soundP t=true) (hok:LkOk t L) (hlo:lo ≤ s) (hlx:lo ≤ x) :
  Calls Tryz.prog 150 #[.agg #[.int .i64 a.op,.int .i64 a.n,.string a.nm,.int .i64 a.stop.kind,.int .i64 a.stop.fn,.int .i64 a.stop.line,.string a.stop.nm],.pointer (some ⟨x,0,none⟩),.pointer (some ⟨sb,0,none⟩)] w (DoPost (doVars t L) lo s x v1 v2 D w):=by
 obtain ⟨A3,c3,rfl,hn3,hm3⟩:=h.st.cap
 obtain ⟨A4,c4,rfl,hn4,hm4⟩:=h.un.cap
 have HS:=qhq h
 have HE:=qhq he
 have HX:=qhq hx
 have HR:=qhq hr
 have HSM:=qhq hsm
 have HSO:=qhq hso
 have HOK:=qhq hok
 have hlw:lo ≤ w.heap.size:=Nat.le_trans hlo (Nat.le_of_lt h.blk.lt)
 obtain ⟨⟨A1,c1,rfl,hn1,-⟩,⟨vv,⟨A2,c2,rfl,hn2,-⟩,-⟩⟩:=hr
 have hln:=hok.ln
 have hpl:=hok.lo
 have hph:=hok.hi
 have hmn:=(sound_fns (sound_iff hso)).2.2
 have HA0:=qhq (askBox w a)
 have hbw:=qaq (qrq _ w) (.cells #[.int .i64 a.op,.int .i64 a.n,.string a.nm,.int .i64 a.stop.kind,.int .i64 a.stop.fn,.int .i64 a.stop.line,.string a.stop.nm] 47)
 have hsz:(w.alloc (.cells #[.int .i64 a.op,.int .i64 a.n,.string a.nm,.int .i64 a.stop.kind,.int .i64 a.stop.fn,.int .i64 a.stop.line,.string a.stop.nm] 47)).heap.size=w.heap.size + 1:=by simp
 clear h he hx hsm hso hok
 go_enter Tryz.func150,Tryz.ntmps150
 go_upto_region 1 with fail
 generalize World.alloc w _=W at HA0 hbw hsz ⊢
 have HMV:=qhq (Mv.of_below (ts:=eTys) hbw hlw)
 replace HS:=qhq (HS.out.later hbw);replace HE:=qhq (HE.out.later hbw);replace HX:=qhq (HX.out.later hbw);replace HR:=qhq (HR.out.later hbw);clear hbw
 obtain ⟨q,hq⟩:∃ q,w.heap.size=q:=⟨_,rfl⟩
 rw [hq] at HA0 hsz hlw ⊢
 have zs:W.cell? ⟨sb,0,none⟩=some (.pointer (some ⟨s,0,none⟩)):=HE.out.sbx.cell (j:=0) (by omega)
 go_wp2_with fail
 refine (moment_calls lo s _ _ t D L _ _ _ HS.out HR.out hmn).mono ?_;rintro e w3 ⟨m,Av,cv,rfl,hmv,hrv,hb⟩
 have HMVS:=qhq hmv
 have HRV:=qhq hrv
 have hvl:m.vars.length ≤ 1048576:=by rw [hmv];exact varsAt_len HSM.out
 replace HMV:=qhq (HMV.out.trans (Mv.of_below hb (by omega)))
 have hs3:w.heap.size ≤ w3.heap.size:=by have:=hb.size;omega
 replace HS:=qhq (HS.out.later hb);replace HE:=qhq (HE.out.later hb);replace HX:=qhq (HX.out.later hb);clear hb
 clear hmv hrv zs
 have hfld:=fld_vars m.kind m.task m.fn m.line m.text Av m.vars.length cv
 go_wp2_with fail
 refine (clone_calls Av cv m.vars _ HRV.out hvl).mono ?_;rintro e w4 ⟨u,rfl,hO,hb⟩
 have HO:=qhq (hO.lower (lo':=w.heap.size) hs3)
 obtain ⟨A5,c5,rfl,-⟩:=hO.cap
 replace HMV:=qhq (HMV.out.trans (Mv.of_below hb (by omega)))
 replace HS:=qhq (HS.out.later hb);replace HE:=qhq (HE.out.later hb);replace HX:=qhq (HX.out.later hb);clear hb
 clear hO
 have xc:w4.cell? ⟨x,5,none⟩=some (.slice none 0 0):=HX.out.cell (j:=5) (by omega)
 have xf:=HX.out.free 5
 go_wp2_with fail
 go_ret
 unfold doVars
 rw [← HMVS.out]
 exact ⟨rfl,⟨_,_,HS.out.farX HX.out 5 _⟩,TdAt.of (sv:=.slice none 0 0) (vv:=.slice A5 m.vars.length c5) (HX.out.set (j:=5) (by omega) (.slice A5 m.vars.length c5)) (fun j hj=>by
  match j,hj with
  | 0,_=>rfl
  | 1,_=>rfl
  | 2,_=>rfl
  | 3,_=>rfl
  | 4,_=>rfl
  | 5,_=>rfl) OwR.nil (owr_z (HO.out.other HX.out (by decide) 5 _)),(Mx.ofMv HMV.out).set hlx 5 _⟩
set_option maxRecDepth 100000 in
set_option maxHeartbeats 4000000 in
theorem do12_calls (lo s sb tb x:Nat) (v1 v2:Value) (t:PTr) (D:Nat → Value) (L:Lk) (vs vu:Value) (a:PAsk) (w:World) (h:SeS w lo s v1 v2 D L vs vu) (he:SeE w s sb tb v1 v2) (hx:Td0 w x)
  (hr:RdTr w v1 v2 t) (hsm:smTr t) (hso:soundP t=true) (hok:LkOk t L) (hlo:lo ≤ s) (hlx:lo ≤ x) :
  Calls Tryz.prog 153 #[.agg #[.int .i64 a.op,.int .i64 a.n,.string a.nm,.int .i64 a.stop.kind,.int .i64 a.stop.fn,.int .i64 a.stop.line,.string a.stop.nm],.pointer (some ⟨x,0,none⟩),.pointer (some ⟨sb,0,none⟩)] w (DoPost (doValue t L a) lo s x v1 v2 D w):=by
 obtain ⟨A3,c3,rfl,hn3,hm3⟩:=h.st.cap
 obtain ⟨A4,c4,rfl,hn4,hm4⟩:=h.un.cap
 have HS:=qhq h
 have HE:=qhq he
 have HX:=qhq hx
 have HR:=qhq hr
 have HSM:=qhq hsm
 have HSO:=qhq hso
 have HOK:=qhq hok
 have hlw:lo ≤ w.heap.size:=Nat.le_trans hlo (Nat.le_of_lt h.blk.lt)
 obtain ⟨⟨A1,c1,rfl,hn1,-⟩,⟨vv,⟨A2,c2,rfl,hn2,-⟩,-⟩⟩:=hr
 have hln:=hok.ln
 have hpl:=hok.lo
 have hph:=hok.hi
 have hmn:=(sound_fns (sound_iff hso)).2.2
 have HA0:=qhq (askBox w a)
 have hbw:=qaq (qrq _ w) (.cells #[.int .i64 a.op,.int .i64 a.n,.string a.nm,.int .i64 a.stop.kind,.int .i64 a.stop.fn,.int .i64 a.stop.line,.string a.stop.nm] 47)
 have hsz:(w.alloc (.cells #[.int .i64 a.op,.int .i64 a.n,.string a.nm,.int .i64 a.stop.kind,.int .i64 a.stop.fn,.int .i64 a.stop.line,.string a.stop.nm] 47)).heap.size=w.heap.size + 1:=by simp
 clear h he hx hsm hso hok
 go_enter Tryz.func153,Tryz.ntmps153
 go_upto_region 1 with fail
 generalize World.alloc w _=W at HA0 hbw hsz ⊢
 have HMV:=qhq (Mv.of_below (ts:=eTys) hbw hlw)
 replace HS:=qhq (HS.out.later hbw);replace HE:=qhq (HE.out.later hbw);replace HX:=qhq (HX.out.later hbw);replace HR:=qhq (HR.out.later hbw);clear hbw
 obtain ⟨q,hq⟩:∃ q,w.heap.size=q:=⟨_,rfl⟩
 rw [hq] at HA0 hsz hlw ⊢
 refine wp_region_H (fun w':World=>Below W.drew.heap.size W.drew w') (by kernel_rfl) ?_
 have hszd:W.drew.heap.size=q + 1:=hsz
 replace HMV:=qhq HMV.out.drew
 have hbd:Below W.heap.size W W.drew:=bl_drew (qrq _ _)
 replace HS:=qhq (HS.out.later hbd);replace HE:=qhq (HE.out.later hbd);replace HX:=qhq (HX.out.later hbd);replace HR:=qhq (HR.out.later hbd);replace HA0:=qhq (HA0.out.later hbd);clear hbd
 generalize W.drew=W2 at HMV HS HE HX HR HA0 hszd ⊢
 clear hsz
 have hsz:=hszd
 clear hszd
 have HS0:Hid (Below W2.heap.size W2 W2):=qhq (qrq _ _)
 have zs:W2.cell? ⟨sb,0,none⟩=some (.pointer (some ⟨s,0,none⟩)):=HE.out.sbx.cell (j:=0) (by omega)
 have zm:W2.cell? ⟨q,2,none⟩=some (.string a.nm):=HA0.out.cell (j:=2) (by omega)
 refine wpAnyH_take2 0 (v:=?v0m) (by rfl) (by kernel_rfl) (by intro _ _ _ h;exact h) HS0.out (by rfl) ?hy0m ?rest0m
 case hy0m =>
  intro w' hSw
  have szs:=qcq hSw zs
  have szm:=qcq hSw zm
  clear hSw
  go_simp
  try with_reducible rfl
 simp only [Act.put,q1q,q2q,q3q]
 refine wpAnyH_take2 2 (v:=?v2m) (by rfl) (by kernel_rfl) (by intro _ _ _ h;exact h) HS0.out (by rfl) ?hy2m ?rest2m
 case hy2m =>
  intro w' hSw
  have szs:=qcq hSw zs
  have szm:=qcq hSw zm
  clear hSw
  go_simp
  try with_reducible rfl
 simp only [Act.put,q1q,q2q,q3q]
 refine wpAnyH_take2 3 (v:=?v3m) (by rfl) (by kernel_rfl) (by intro _ _ _ h;exact h) HS0.out (by rfl) ?hy3m ?rest3m
 case hy3m =>
  intro w' hSw
  have szs:=qcq hSw zs
  have szm:=qcq hSw zm
  clear hSw
  go_simp
  try with_reducible rfl
 simp only [Act.put,q1q,q2q,q3q]
 refine wpAnyH_one 1 (by rfl) (by kernel_rfl) rfl ?_
 intro K hK
 go_simp
 refine (moment_calls lo s _ _ t D L _ _ _ HS.out HR.out hmn).mono ?_;rintro e w3 ⟨m,Av,cv,rfl,hmv,hrv,hb⟩
 have HMVS:=qhq hmv
 have HRV:=qhq hrv
 have HS1:=qhq hb
 dsimp only
 refine hK.out _ _ HS1.out ?_
 clear hK K hmv hrv
 refine wpAnyH_one 4 (by rfl) (by kernel_rfl) rfl ?_
 intro K hK
 go_simp
 refine (value_calls m Av cv a.nm _ HRV.out).mono ?_;rintro e w4 ⟨rfl,hb⟩
 have HS2:=qhq (qtq HS1.out hb)
 obtain ⟨u,hu⟩:∃ u,valP m.vars a.nm=u:=⟨_,rfl⟩
 rw [hu]
 have HU:=qhq hu
 clear hu hb
 dsimp only
 refine hK.out _ _ HS2.out ?_
 clear hK K
 refine wpAnyH_take2 5 (v:=?v5n) (by rfl) (by kernel_rfl) (by intro _ _ _ h;exact h) HS2.out (by rfl) ?hy5n ?rest5n
 case hy5n =>
  intro w' hSw
  clear hSw
  go_simp
  try with_reducible rfl
 simp only [Act.put,q1q,q2q,q3q]
 refine wpAnyH_take2 6 (v:=?v6n) (by rfl) (by kernel_rfl) (by intro _ _ _ h;exact h) HS2.out (by rfl) ?hy6n ?rest6n
 case hy6n =>
  intro w' hSw
  clear hSw
  go_simp
  try with_reducible rfl
 simp only [Act.put,q1q,q2q,q3q]
 refine wpAnyH_take2 7 (v:=?v7n) (by rfl) (by kernel_rfl) (by intro _ _ _ h;exact h) HS2.out (by rfl) ?hy7n ?rest7n
 case hy7n =>
  intro w' hSw
  clear hSw
  go_simp
  try with_reducible rfl
 simp only [Act.put,q1q,q2q,q3q]
 refine wpAnyH_take2 8 (v:=?v8n) (by rfl) (by kernel_rfl) (by intro _ _ _ h;exact h) HS2.out (by rfl) ?hy8n ?rest8n
 case hy8n =>
  intro w' hSw
  clear hSw
  go_simp
  try with_reducible rfl
 simp only [Act.put,q1q,q2q,q3q]
 refine wpAnyH_take2 9 (v:=?v9n) (by rfl) (by kernel_rfl) (by intro _ _ _ h;exact h) HS2.out (by rfl) ?hy9n ?rest9n
 case hy9n =>
  intro w' hSw
  clear hSw
  go_simp
  try with_reducible rfl
 simp only [Act.put,q1q,q2q,q3q]
 refine wpAnyH_done (by kernel_rfl) ?_ _
 simp only [List.getElem_toArray,List.getElem_cons_zero,List.getElem_cons_succ,q1q,q2q,q3q]
 have hb:=HS2.out
 replace HMV:=qhq (HMV.out.trans (Mv.of_below hb (by omega)))
 replace HS:=qhq (HS.out.later hb);replace HX:=qhq (HX.out.later hb);clear hb
 clear zs zm HS0 HS1 HS2 HR HE HA0
 cases u with
 | none =>
  simp only [Option.getD_none,Option.isSome_none]
  go_wp2_with fail
  go_ret
  unfold doValue
  rw [← HMVS.out,HU.out]
  exact DoPost.plain rfl rfl HS.out HX.out HMV.out
 | some y =>
  simp only [Option.getD_some,Option.isSome_some]
  have xc:w4.cell? ⟨x,3,none⟩=some (.string ⟨#[]⟩):=HX.out.cell (j:=3) (by omega)
  have xf:=HX.out.free 3
  go_wp2_with fail
  go_ret
  unfold doValue
  rw [← HMVS.out,HU.out]
  exact ⟨rfl,⟨_,_,HS.out.farX HX.out 3 _⟩,TdAt.of (sv:=.slice none 0 0) (vv:=.slice none 0 0) (HX.out.set (j:=3) (by omega) (.string y)) (fun j hj=>by
   match j,hj with
   | 0,_=>rfl
   | 1,_=>rfl
   | 2,_=>rfl
   | 3,_=>rfl
   | 4,_=>rfl
   | 5,_=>rfl) OwR.nil (owr_z OwR.nil),(Mx.ofMv HMV.out).set hlx 3 _⟩
end Go.Proofs.YtcklnjjbhngbcaaGreatDoor
