/- Lemmas and contracts of functions that the theorem of this claim leans on (texts Q3, Q5). -/
import Derived.Test.YtcklnjjbhngbcaaGreatDoorRowTopz00
import Derived.Test.YtcklnjjbhngbcaaGreatDoorRowTopz18
import Derived.Test.YtcklnjjbhngbcaaGreatDoorRowTopz12
namespace Go.Proofs.YtcklnjjbhngbcaaGreatDoor
open Go.RowKit Go.Proofs.Lens
set_option linter.unusedSimpArgs false
def askQs (r:PTold × Lk × Int):PTold:=if r.2.2=0 then r.1 else { td0 with code:=r.2.2 }
def AnsPost (r:PTold × Lk × Int) (lo l n:Nat) (ms:List PMom) (v1 v2:Value) (w:World) (e:Ending) (w':World):Prop :=
 ∃ sx vx hv pv,e=.returned (.agg #[.int .i64 (askQs r).place,.int .i64 (askQs r).code,.int .i64 (askQs r).num,.string (askQs r).text,sx,vx]) ∧ OwR w' w.heap.size 42 3 (askQs r).stack.length (frC (askQs r).stack) sx ∧ OwZ w' w.heap.size 40 2 (askQs r).vars.length (varC (askQs r).vars) vx ∧
  SpL w' lo l n ms v1 v2 r.2.1 hv pv ∧ Mv qTys lo w w'
def set6 (w:World) (b:Nat) (u0 u1 u2 u3 u4 u5:Value):World:=(((((w.setCell ⟨b,0,none⟩ u0).setCell ⟨b,1,none⟩ u1).setCell ⟨b,2,none⟩ u2).setCell ⟨b,3,none⟩ u3).setCell ⟨b,4,none⟩ u4).setCell ⟨b,5,none⟩ u5
theorem set6_mv {Wx:World} {lo b:Nat} {F:Nat → Value} (hB:Blk Wx b 38 6 F) (hb:lo ≤ b) (u0 u1 u2 u3 u4 u5:Value):Mv [38] lo Wx (set6 Wx b u0 u1 u2 u3 u4 u5):=by
 have h0:=(Mv.refl [38] lo Wx).set (p:=⟨b,0,none⟩) hb hB (by simp) u0
 have b0:=hB.set (j:=0) (by omega) u0
 have h1:=h0.set (p:=⟨b,1,none⟩) hb b0 (by simp) u1
 have b1:=b0.set (j:=1) (by omega) u1
 have h2:=h1.set (p:=⟨b,2,none⟩) hb b1 (by simp) u2
 have b2:=b1.set (j:=2) (by omega) u2
 have h3:=h2.set (p:=⟨b,3,none⟩) hb b2 (by simp) u3
 have b3:=b2.set (j:=3) (by omega) u3
 have h4:=h3.set (p:=⟨b,4,none⟩) hb b3 (by simp) u4
 have b4:=b3.set (j:=4) (by omega) u4
 exact h4.set (p:=⟨b,5,none⟩) hb b4 (by simp) u5
theorem set6_new {ts:List TypeId} {w Wx:World} {lo b:Nat} (hM:Mv ts lo w Wx) (hb:lo ≤ b) (hw:w.heap.size ≤ b) (u0 u1 u2 u3 u4 u5:Value):Mv ts lo w (set6 Wx b u0 u1 u2 u3 u4 u5) :=
 (((((hM.setNew (p:=⟨b,0,none⟩) hb hw u0).setNew (p:=⟨b,1,none⟩) hb hw u1).setNew (p:=⟨b,2,none⟩) hb hw u2).setNew (p:=⟨b,3,none⟩) hb hw u3).setNew (p:=⟨b,4,none⟩) hb hw u4).setNew (p:=⟨b,5,none⟩) hb hw u5
theorem ans_end {r:PTold × Lk × Int} {lo l n b:Nat} {ms:List PMom} {v1 v2 sx vx hv pv:Value} {w Wx:World} {F:Nat → Value} {q:PTold} {u0 u1 u2 u3 u4 u5:Value} (hq:q=askQs r) (hS:SpL Wx lo l n ms v1 v2 r.2.1 hv pv) (hB:Blk Wx b 38 6 F) (h1:OwR Wx w.heap.size 42 3 q.stack.length (frC q.stack) sx) (h2:OwZ Wx w.heap.size 40 2 q.vars.length (varC q.vars) vx)
  (hM:Mv qTys lo w Wx) (hw:w.heap.size ≤ b) (hlo:lo ≤ w.heap.size):AnsPost r lo l n ms v1 v2 w (.returned (.agg #[.int .i64 q.place,.int .i64 q.code,.int .i64 q.num,.string q.text,sx,vx])) (set6 Wx b u0 u1 u2 u3 u4 u5):=by
 subst hq
 have hm:=set6_mv hB (Nat.le_trans hlo hw) u0 u1 u2 u3 u4 u5
 exact ⟨sx,vx,hv,pv,rfl,h1.mv hm (by decide),h2.mv hm (by decide),hS.mv hm (by decide) (by decide) (by decide) (by decide),set6_new hM (Nat.le_trans hlo hw) hw _ _ _ _ _ _⟩
theorem told_box (w:World):Blk (w.alloc (.cells #[.int .i64 0,.int .i64 0,.int .i64 0,.string ⟨#[]⟩,.slice none 0 0,.slice none 0 0] 38)) w.heap.size 38 6 (tdF td0 (.slice none 0 0) (.slice none 0 0)) :=
 (Blk.made w #[.int .i64 0,.int .i64 0,.int .i64 0,.string ⟨#[]⟩,.slice none 0 0,.slice none 0 0] 38).congr fun j hj=>by
  have hj:j < 6:=hj
  match j,hj with
  | 0,_=>rfl
  | 1,_=>rfl
  | 2,_=>rfl
  | 3,_=>rfl
  | 4,_=>rfl
  | 5,_=>rfl
theorem ask_box (w:World) (op n:Int) (nm:ByteArray) (st:PStop):Blk (w.alloc (.cells #[.int .i64 op,.int .i64 n,.string nm,.int .i64 st.kind,.int .i64 st.fn,.int .i64 st.line,.string st.nm] 47)) w.heap.size 47 7 (askC [⟨op,n,nm,st⟩] 0) :=
 (Blk.made w #[.int .i64 op,.int .i64 n,.string nm,.int .i64 st.kind,.int .i64 st.fn,.int .i64 st.line,.string st.nm] 47).congr fun j hj=>by
  have hj:j < 7:=hj
  match j,hj with
  | 0,_=>rfl
  | 1,_=>rfl
  | 2,_=>rfl
  | 3,_=>rfl
  | 4,_=>rfl
  | 5,_=>rfl
  | 6,_=>rfl
set_option maxRecDepth 100000 in
set_option maxHeartbeats 4000000 in
theorem q3_calls (lo l:Nat) (v1 v2:Value) (t:PTr) (L:Lk) (hv pv:Value) (a:PAsk) (w:World) (h:SpL w lo l t.moms.length t.moms v1 v2 L hv pv) (wb:World) (hrb:RdTr wb v1 v2 t) (hbb:Below wb.heap.size wb w) (hbl:wb.heap.size ≤ lo) (hsm:smTr t) (hso:soundP t=true) (hok:LkOk t L) (hlo:lo ≤ l) (hl:L.past.length ≤ 1000000)
  (h1:a.op=3) (ha:askOk a=true) (hz:a.nm.size ≤ 9223372036854775807) :
  Calls Tryz.prog 37 #[.pointer (some ⟨l,0,none⟩),.agg #[.int .i64 a.op,.int .i64 a.n,.string a.nm,.int .i64 a.stop.kind,.int .i64 a.stop.fn,.int .i64 a.stop.line,.string a.stop.nm]] w (AnsPost (doMove L (nextP t L.ss L.place)) lo l t.moms.length t.moms v1 v2 w):=by
 obtain ⟨op,n,nm,st⟩:=a
 have h1:op=3:=h1
 subst h1
 have hlw:lo ≤ w.heap.size:=Nat.le_trans hlo (Nat.le_of_lt h.blk.lt)
 obtain ⟨A4,c4,rfl,-,-⟩:=h.past.cap
 obtain ⟨A3,c3,rfl,hc3⟩:=h.hits.cap
 have HS:=qhq h
 have HRB:=qhq hrb
 have HBB:=qhq hbb
 have HSM:=qhq hsm
 have HSO:=qhq hso
 have HOK:=qhq hok
 have hok':=qhq ha
 have hln:=hok.ln
 have hpl:=hok.lo
 have hph:=hok.hi
 have hmn:=(sound_fns (sound_iff hso)).2.2
 obtain ⟨⟨A1,c1,rfl,hn1,-⟩,⟨vv,⟨A2,c2,rfl,hn2,-⟩,-⟩⟩:=hrb
 have hba:=qaq (qaq (qaq (qrq _ w) (.cells #[.int .i64 3,.int .i64 n,.string nm,.int .i64 st.kind,.int .i64 st.fn,.int .i64 st.line,.string st.nm] 47)) (.cells #[.int .i64 0,.int .i64 0,.int .i64 0,.string ⟨#[]⟩,.slice none 0 0,.slice none 0 0] 38)) (.cells #[.int .i64 0,.int .i64 0,.int .i64 0,.string ⟨#[]⟩,.slice none 0 0,.slice none 0 0] 38)
 have hA:=((ask_box w 3 n nm st).alloc (.cells #[.int .i64 0,.int .i64 0,.int .i64 0,.string ⟨#[]⟩,.slice none 0 0,.slice none 0 0] 38)).alloc (.cells #[.int .i64 0,.int .i64 0,.int .i64 0,.string ⟨#[]⟩,.slice none 0 0,.slice none 0 0] 38)
 have hR:=(told_box (w.alloc (.cells #[.int .i64 3,.int .i64 n,.string nm,.int .i64 st.kind,.int .i64 st.fn,.int .i64 st.line,.string st.nm] 47))).alloc (.cells #[.int .i64 0,.int .i64 0,.int .i64 0,.string ⟨#[]⟩,.slice none 0 0,.slice none 0 0] 38)
 have hO:=told_box ((w.alloc (.cells #[.int .i64 3,.int .i64 n,.string nm,.int .i64 st.kind,.int .i64 st.fn,.int .i64 st.line,.string st.nm] 47)).alloc (.cells #[.int .i64 0,.int .i64 0,.int .i64 0,.string ⟨#[]⟩,.slice none 0 0,.slice none 0 0] 38))
 rw [World.size_alloc] at hR
 rw [World.size_alloc,World.size_alloc] at hO
 have HA:=qhq hA
 have HRS:=qhq hR
 have HO:=qhq hO
 have HW:=qhq hba
 clear h hsm hso hok hA hR hO hba hbb ha
 go_enter Tryz.func37,Tryz.ntmps37
 go_wp2_with fail
 refine (l5askOk_calls ⟨3,n,nm,st⟩ _ hz).mono ?_;rintro e w1 ⟨rfl,hb⟩
 rw [hok'.out]
 have hbw:=qtq HW.out hb
 have HMV:=qhq (Mv.of_below (ts:=qTys) hbw hlw)
 replace HA:=qhq (HA.out.later hb);replace HRS:=qhq (HRS.out.later hb);replace HO:=qhq (HO.out.later hb);clear hb
 replace HS:=qhq (HS.out.later hbw)
 have HR:=qhq (HRB.out.later (bl_trans9 HBB.out (bl_low9 hbw (Nat.le_trans hbl hlw))))
 clear hbw HW
 obtain ⟨q,hq⟩:∃ q,w.heap.size=q:=⟨_,rfl⟩
 have HQ:=qhq hq
 rw [hq] at HA HRS HO hlw ⊢
 clear hq
 have x0:w1.cell? ⟨q,0,none⟩=some (.int .i64 3):=HA.out.cell (j:=0) (by omega)
 go_upto_region 25 with fail
 clear x0
 have hbd:Below w1.heap.size w1 w1.drew:=bl_drew (qrq _ _)
 replace HMV:=qhq HMV.out.drew
 replace HS:=qhq (HS.out.later hbd);replace HA:=qhq (HA.out.later hbd);replace HRS:=qhq (HRS.out.later hbd);replace HO:=qhq (HO.out.later hbd);replace HR:=qhq (HR.out.later hbd);clear hbd
 refine wp_region_F 16 (fun w':World=>Below w1.drew.heap.size w1.drew w') (by kernel_rfl) ?_
 generalize w1.drew=W2 at HMV HS HA HRS HO HR ⊢
 have HS0:Hid (Below W2.heap.size W2 W2):=qhq (qrq _ _)
 have z0:W2.cell? ⟨l,0,none⟩=some (.slice A1 t.fns.length c1):=HS.out.blk.cell (j:=0) (by omega)
 have z1:W2.cell? ⟨l,1,none⟩=some (.slice A2 t.moms.length c2):=HS.out.blk.cell (j:=1) (by omega)
 have z2:W2.cell? ⟨l,2,none⟩=some (.int .i64 L.place):=HS.out.blk.cell (j:=2) (by omega)
 have z3:W2.cell? ⟨l,3,none⟩=some (.slice A3 L.ss.length c3):=HS.out.blk.cell (j:=3) (by omega)
 refine wpAnyF_takeC 0 [] (v:=?v0m) (by rfl) (by kernel_rfl) (by intro _ _ _ h;exact h) HS0.out (by rfl) ?hy0m ?rest0m
 case hy0m =>
  intro w' hSw
  have sz0:=qcq hSw z0
  have sz1:=qcq hSw z1
  have sz2:=qcq hSw z2
  have sz3:=qcq hSw z3
  clear hSw
  go_simp
  try with_reducible rfl
 simp only [Act.put,q1q,q2q,q3q]
 refine wpAnyF_takeC 1 [2,3,4,15] (v:=?v1m) (by rfl) (by kernel_rfl) (by intro _ _ _ h;exact h) HS0.out (by rfl) ?hy1m ?rest1m
 case hy1m =>
  intro w' hSw
  have sz0:=qcq hSw z0
  have sz1:=qcq hSw z1
  have sz2:=qcq hSw z2
  have sz3:=qcq hSw z3
  clear hSw
  go_simp
  try with_reducible rfl
 simp only [Act.put,q1q,q2q,q3q]
 refine wpAnyF_takeC 2 [3,4,15] (v:=?v2m) (by rfl) (by kernel_rfl) (by intro _ _ _ h;exact h) HS0.out (by rfl) ?hy2m ?rest2m
 case hy2m =>
  intro w' hSw
  have sz0:=qcq hSw z0
  have sz1:=qcq hSw z1
  have sz2:=qcq hSw z2
  have sz3:=qcq hSw z3
  clear hSw
  go_simp
  try with_reducible rfl
 simp only [Act.put,q1q,q2q,q3q]
 refine wpAnyF_takeC 3 [4,15] (v:=?v3m) (by rfl) (by kernel_rfl) (by intro _ _ _ h;exact h) HS0.out (by rfl) ?hy3m ?rest3m
 case hy3m =>
  intro w' hSw
  have sz0:=qcq hSw z0
  have sz1:=qcq hSw z1
  have sz2:=qcq hSw z2
  have sz3:=qcq hSw z3
  clear hSw
  go_simp
  try with_reducible rfl
 simp only [Act.put,q1q,q2q,q3q]
 refine wpAnyF_takeC 4 [15] (v:=?v4m) (by rfl) (by kernel_rfl) (by intro _ _ _ h;exact h) HS0.out (by rfl) ?hy4m ?rest4m
 case hy4m =>
  intro w' hSw
  have sz0:=qcq hSw z0
  have sz1:=qcq hSw z1
  have sz2:=qcq hSw z2
  have sz3:=qcq hSw z3
  clear hSw
  go_simp
  try with_reducible rfl
 simp only [Act.put,q1q,q2q,q3q]
 refine wpAnyF_takeC 5 [6,7,8,9,10,15] (v:=?v5m) (by rfl) (by kernel_rfl) (by intro _ _ _ h;exact h) HS0.out (by rfl) ?hy5m ?rest5m
 case hy5m =>
  intro w' hSw
  have sz0:=qcq hSw z0
  have sz1:=qcq hSw z1
  have sz2:=qcq hSw z2
  have sz3:=qcq hSw z3
  clear hSw
  go_simp
  try with_reducible rfl
 simp only [Act.put,q1q,q2q,q3q]
 refine wpAnyF_takeC 6 [7,8,9,10,15] (v:=?v6m) (by rfl) (by kernel_rfl) (by intro _ _ _ h;exact h) HS0.out (by rfl) ?hy6m ?rest6m
 case hy6m =>
  intro w' hSw
  have sz0:=qcq hSw z0
  have sz1:=qcq hSw z1
  have sz2:=qcq hSw z2
  have sz3:=qcq hSw z3
  clear hSw
  go_simp
  try with_reducible rfl
 simp only [Act.put,q1q,q2q,q3q]
 refine wpAnyF_takeC 7 [8,9,10,15] (v:=?v7m) (by rfl) (by kernel_rfl) (by intro _ _ _ h;exact h) HS0.out (by rfl) ?hy7m ?rest7m
 case hy7m =>
  intro w' hSw
  have sz0:=qcq hSw z0
  have sz1:=qcq hSw z1
  have sz2:=qcq hSw z2
  have sz3:=qcq hSw z3
  clear hSw
  go_simp
  try with_reducible rfl
 simp only [Act.put,q1q,q2q,q3q]
 refine wpAnyF_takeC 8 [9,10,15] (v:=?v8m) (by rfl) (by kernel_rfl) (by intro _ _ _ h;exact h) HS0.out (by rfl) ?hy8m ?rest8m
 case hy8m =>
  intro w' hSw
  have sz0:=qcq hSw z0
  have sz1:=qcq hSw z1
  have sz2:=qcq hSw z2
  have sz3:=qcq hSw z3
  clear hSw
  go_simp
  try with_reducible rfl
 simp only [Act.put,q1q,q2q,q3q]
 refine wpAnyF_takeC 9 [10,15] (v:=?v9m) (by rfl) (by kernel_rfl) (by intro _ _ _ h;exact h) HS0.out (by rfl) ?hy9m ?rest9m
 case hy9m =>
  intro w' hSw
  have sz0:=qcq hSw z0
  have sz1:=qcq hSw z1
  have sz2:=qcq hSw z2
  have sz3:=qcq hSw z3
  clear hSw
  go_simp
  try with_reducible rfl
 simp only [Act.put,q1q,q2q,q3q]
 refine wpAnyF_takeC 10 [15] (v:=?v10m) (by rfl) (by kernel_rfl) (by intro _ _ _ h;exact h) HS0.out (by rfl) ?hy10m ?rest10m
 case hy10m =>
  intro w' hSw
  have sz0:=qcq hSw z0
  have sz1:=qcq hSw z1
  have sz2:=qcq hSw z2
  have sz3:=qcq hSw z3
  clear hSw
  go_simp
  try with_reducible rfl
 simp only [Act.put,q1q,q2q,q3q]
 refine wpAnyF_takeC 11 [12,13,14,15] (v:=?v11m) (by rfl) (by kernel_rfl) (by intro _ _ _ h;exact h) HS0.out (by rfl) ?hy11m ?rest11m
 case hy11m =>
  intro w' hSw
  have sz0:=qcq hSw z0
  have sz1:=qcq hSw z1
  have sz2:=qcq hSw z2
  have sz3:=qcq hSw z3
  clear hSw
  go_simp
  try with_reducible rfl
 simp only [Act.put,q1q,q2q,q3q]
 refine wpAnyF_takeC 12 [13,14,15] (v:=?v12m) (by rfl) (by kernel_rfl) (by intro _ _ _ h;exact h) HS0.out (by rfl) ?hy12m ?rest12m
 case hy12m =>
  intro w' hSw
  have sz0:=qcq hSw z0
  have sz1:=qcq hSw z1
  have sz2:=qcq hSw z2
  have sz3:=qcq hSw z3
  clear hSw
  go_simp
  try with_reducible rfl
 simp only [Act.put,q1q,q2q,q3q]
 refine wpAnyF_takeC 13 [14,15] (v:=?v13m) (by rfl) (by kernel_rfl) (by intro _ _ _ h;exact h) HS0.out (by rfl) ?hy13m ?rest13m
 case hy13m =>
  intro w' hSw
  have sz0:=qcq hSw z0
  have sz1:=qcq hSw z1
  have sz2:=qcq hSw z2
  have sz3:=qcq hSw z3
  clear hSw
  go_simp
  try with_reducible rfl
 simp only [Act.put,q1q,q2q,q3q]
 refine wpAnyF_takeC 14 [15] (v:=?v14m) (by rfl) (by kernel_rfl) (by intro _ _ _ h;exact h) HS0.out (by rfl) ?hy14m ?rest14m
 case hy14m =>
  intro w' hSw
  have sz0:=qcq hSw z0
  have sz1:=qcq hSw z1
  have sz2:=qcq hSw z2
  have sz3:=qcq hSw z3
  clear hSw
  go_simp
  try with_reducible rfl
 simp only [Act.put,q1q,q2q,q3q]
 refine wpAnyF_one 15 (by rfl) (by kernel_rfl) rfl ?_
 intro K hK
 go_simp
 obtain ⟨m,hm9⟩:∃ m:Nat,L.place + 1=(m:Int):=⟨(L.place + 1).toNat,by omega⟩
 refine (l3next_calls lo t.moms.length m t.moms L.ss _ L.place _ HS.out.hits (by omega) (by omega) (by omega) hm9).mono ?_;rintro e w3 ⟨rfl,rfl⟩
 have hb:=qrq W2.heap.size W2
 have hnx:nextP t L.ss L.place=(firstB (anyP t.moms L.ss) t.moms.length (t.moms.length - m) m:Nat):=by
  unfold nextP
  rw [if_pos (HOK.out.stops HSO.out)]
  rw [show (L.place + 1).toNat=m by omega]
 rw [← hnx]
 clear hnx hm9
 have HS1:=qhq hb
 obtain ⟨k,hke⟩:∃ k,nextP t L.ss L.place=k:=⟨_,rfl⟩
 rw [hke]
 have HKE:=qhq hke
 clear hke
 dsimp only
 refine hK.out _ _ (fun _=>HS1.out) ?_
 clear hK K
 replace HMV:=qhq (HMV.out.trans (Mv.of_below hb (Nat.le_trans hlw (by have:=HA.out.lt;omega))))
 replace HS:=qhq (HS.out.later hb);replace HRS:=qhq (HRS.out.later hb);replace HO:=qhq (HO.out.later hb);clear hb
 refine wpAnyF_one 16 (by rfl) (by kernel_rfl) rfl ?_
 intro K hK
 go_simp
 refine (l5move_calls lo l _ t.moms _ _ L _ _ k _ HS.out hlo hl).mono ?_;rintro e w4 ⟨rfl,⟨pv',hS4⟩,hm⟩
 have HS4:=qhq hS4
 replace HRS:=qhq (HRS.out.mv hm (by decide))
 replace HO:=qhq (HO.out.mv hm (by decide))
 replace HMV:=qhq (HMV.out.trans hm)
 dsimp only
 refine hK.out _ _ (fun h=>absurd rfl h) ?_
 clear hK K hS4 hm HS HS0 HS1 HA z0 z1 z2 z3
 refine wpAnyF_done (by kernel_rfl) ?_ _
 have hS9:=HS4.out
 rw [← HKE.out] at hS9
 have r0:=HRS.out.cell (j:=0) (by omega)
 have e0:=HRS.out.free 0
 have o0:=HO.out.cell (j:=0) (by omega)
 have r1:=HRS.out.cell (j:=1) (by omega)
 have e1:=HRS.out.free 1
 have o1:=HO.out.cell (j:=1) (by omega)
 have r2:=HRS.out.cell (j:=2) (by omega)
 have e2:=HRS.out.free 2
 have o2:=HO.out.cell (j:=2) (by omega)
 have r3:=HRS.out.cell (j:=3) (by omega)
 have e3:=HRS.out.free 3
 have o3:=HO.out.cell (j:=3) (by omega)
 have r4:=HRS.out.cell (j:=4) (by omega)
 have e4:=HRS.out.free 4
 have o4:=HO.out.cell (j:=4) (by omega)
 have r5:=HRS.out.cell (j:=5) (by omega)
 have e5:=HRS.out.free 5
 have o5:=HO.out.cell (j:=5) (by omega)
 simp only [tdF] at r0 r1 r2 r3 r4 r5 o0 o1 o2 o3 o4 o5
 go_wp2_with fail
 refine bodyPost_ret (v:=.agg #[.int .i64 (td0).place,.int .i64 (td0).code,.int .i64 (td0).num,.string (td0).text,.slice none 0 0,.slice none 0 0]) (by simp [results,Tryz.results37,go_sem,r0,r1,r2,r3,r4,r5,td0]) rfl ?_
 exact ans_end (q:=td0) (by rfl) hS9 HRS.out OwR.nil (owr_z OwR.nil) HMV.out (by rw [HQ.out];omega) (by rw [HQ.out];exact hlw)
set_option linter.unusedSimpArgs false
theorem SpL.farT {w:World} {lo l n b:Nat} {ms:List PMom} {v1 v2 hv pv:Value} {L:Lk} {F:Nat → Value} (h:SpL w lo l n ms v1 v2 L hv pv) (hB:Blk w b 38 6 F) (j:Nat) (u:Value):SpL (w.setCell ⟨b,j,none⟩ u) lo l n ms v1 v2 L hv pv :=
 ⟨h.blk.far (h.blk.ne hB (by decide)) _,h.hits.other hB (by decide) (by decide) _ _,h.past.other hB (by decide) _ _⟩
set_option maxRecDepth 100000 in
set_option maxHeartbeats 4000000 in
theorem q0_calls (lo l:Nat) (v1 v2:Value) (t:PTr) (L:Lk) (hv pv:Value) (a:PAsk) (w:World) (h:SpL w lo l t.moms.length t.moms v1 v2 L hv pv) (wb:World) (hrb:RdTr wb v1 v2 t) (hbb:Below wb.heap.size wb w) (hbl:wb.heap.size ≤ lo) (hsm:smTr t) (hso:soundP t=true) (hok:LkOk t L) (hlo:lo ≤ l) (_hl:L.past.length ≤ 1000000)
  (ha:askOk a=false) (hz:a.nm.size ≤ 9223372036854775807) :
  Calls Tryz.prog 37 #[.pointer (some ⟨l,0,none⟩),.agg #[.int .i64 a.op,.int .i64 a.n,.string a.nm,.int .i64 a.stop.kind,.int .i64 a.stop.fn,.int .i64 a.stop.line,.string a.stop.nm]] w (AnsPost ((td0,L,1)) lo l t.moms.length t.moms v1 v2 w):=by
 obtain ⟨op,n,nm,st⟩:=a
 have hlw:lo ≤ w.heap.size:=Nat.le_trans hlo (Nat.le_of_lt h.blk.lt)
 obtain ⟨A4,c4,rfl,-,-⟩:=h.past.cap
 obtain ⟨A3,c3,rfl,hc3⟩:=h.hits.cap
 have HS:=qhq h
 have HRB:=qhq hrb
 have HBB:=qhq hbb
 have HSM:=qhq hsm
 have HSO:=qhq hso
 have HOK:=qhq hok
 have hok':=qhq ha
 have hln:=hok.ln
 have hpl:=hok.lo
 have hph:=hok.hi
 have hmn:=(sound_fns (sound_iff hso)).2.2
 obtain ⟨⟨A1,c1,rfl,hn1,-⟩,⟨vv,⟨A2,c2,rfl,hn2,-⟩,-⟩⟩:=hrb
 have hba:=qaq (qaq (qaq (qrq _ w) (.cells #[.int .i64 op,.int .i64 n,.string nm,.int .i64 st.kind,.int .i64 st.fn,.int .i64 st.line,.string st.nm] 47)) (.cells #[.int .i64 0,.int .i64 0,.int .i64 0,.string ⟨#[]⟩,.slice none 0 0,.slice none 0 0] 38)) (.cells #[.int .i64 0,.int .i64 0,.int .i64 0,.string ⟨#[]⟩,.slice none 0 0,.slice none 0 0] 38)
 have hA:=((ask_box w op n nm st).alloc (.cells #[.int .i64 0,.int .i64 0,.int .i64 0,.string ⟨#[]⟩,.slice none 0 0,.slice none 0 0] 38)).alloc (.cells #[.int .i64 0,.int .i64 0,.int .i64 0,.string ⟨#[]⟩,.slice none 0 0,.slice none 0 0] 38)
 have hR:=(told_box (w.alloc (.cells #[.int .i64 op,.int .i64 n,.string nm,.int .i64 st.kind,.int .i64 st.fn,.int .i64 st.line,.string st.nm] 47))).alloc (.cells #[.int .i64 0,.int .i64 0,.int .i64 0,.string ⟨#[]⟩,.slice none 0 0,.slice none 0 0] 38)
 have hO:=told_box ((w.alloc (.cells #[.int .i64 op,.int .i64 n,.string nm,.int .i64 st.kind,.int .i64 st.fn,.int .i64 st.line,.string st.nm] 47)).alloc (.cells #[.int .i64 0,.int .i64 0,.int .i64 0,.string ⟨#[]⟩,.slice none 0 0,.slice none 0 0] 38))
 rw [World.size_alloc] at hR
 rw [World.size_alloc,World.size_alloc] at hO
 have HA:=qhq hA
 have HRS:=qhq hR
 have HO:=qhq hO
 have HW:=qhq hba
 clear h hsm hso hok hA hR hO hba hbb ha
 go_enter Tryz.func37,Tryz.ntmps37
 go_wp2_with fail
 refine (l5askOk_calls ⟨op,n,nm,st⟩ _ hz).mono ?_;rintro e w1 ⟨rfl,hb⟩
 rw [hok'.out]
 have hbw:=qtq HW.out hb
 have HMV:=qhq (Mv.of_below (ts:=qTys) hbw hlw)
 replace HA:=qhq (HA.out.later hb);replace HRS:=qhq (HRS.out.later hb);replace HO:=qhq (HO.out.later hb);clear hb
 replace HS:=qhq (HS.out.later hbw)
 have HR:=qhq (HRB.out.later (bl_trans9 HBB.out (bl_low9 hbw (Nat.le_trans hbl hlw))))
 clear hbw HW
 obtain ⟨q,hq⟩:∃ q,w.heap.size=q:=⟨_,rfl⟩
 have HQ:=qhq hq
 rw [hq] at HA HRS HO hlw ⊢
 clear hq
 have x0:w1.cell? ⟨q,0,none⟩=some (.int .i64 op):=HA.out.cell (j:=0) (by omega)
 have r0:=HRS.out.cell (j:=0) (by omega)
 have e0:=HRS.out.free 0
 have o0:=HO.out.cell (j:=0) (by omega)
 have g0:=HO.out.free 0
 have r1:=HRS.out.cell (j:=1) (by omega)
 have e1:=HRS.out.free 1
 have o1:=HO.out.cell (j:=1) (by omega)
 have g1:=HO.out.free 1
 have r2:=HRS.out.cell (j:=2) (by omega)
 have e2:=HRS.out.free 2
 have o2:=HO.out.cell (j:=2) (by omega)
 have g2:=HO.out.free 2
 have r3:=HRS.out.cell (j:=3) (by omega)
 have e3:=HRS.out.free 3
 have o3:=HO.out.cell (j:=3) (by omega)
 have g3:=HO.out.free 3
 have r4:=HRS.out.cell (j:=4) (by omega)
 have e4:=HRS.out.free 4
 have o4:=HO.out.cell (j:=4) (by omega)
 have g4:=HO.out.free 4
 have r5:=HRS.out.cell (j:=5) (by omega)
 have e5:=HRS.out.free 5
 have o5:=HO.out.cell (j:=5) (by omega)
 have g5:=HO.out.free 5
 simp only [tdF] at r0 r1 r2 r3 r4 r5 o0 o1 o2 o3 o4 o5
 go_wp2_with fail
 refine bodyPost_ret (v:=.agg #[.int .i64 0,.int .i64 1,.int .i64 0,.string ⟨#[]⟩,.slice none 0 0,.slice none 0 0]) (by simp [results,Tryz.results37,go_sem,r0,r1,r2,r3,r4,r5,o0,o1,o2,o3,o4,o5,td0]) rfl ?_
 exact ans_end (q:={ td0 with code:=1 }) (by rfl) (HS.out.farT HO.out 1 _) (HRS.out.far (show q + 1 ≠ q + 1 + 1 by omega) _) OwR.nil (owr_z OwR.nil) (HMV.out.setNew (p:=⟨q + 1 + 1,1,none⟩) (by dsimp only;omega) (by rw [HQ.out];dsimp only;omega) (.int .i64 1)) (by rw [HQ.out];omega) (by rw [HQ.out];exact hlw)
set_option maxRecDepth 100000 in
set_option maxHeartbeats 4000000 in
theorem q8_calls (lo l:Nat) (v1 v2:Value) (t:PTr) (L:Lk) (hv pv:Value) (a:PAsk) (w:World) (h:SpL w lo l t.moms.length t.moms v1 v2 L hv pv) (wb:World) (hrb:RdTr wb v1 v2 t) (hbb:Below wb.heap.size wb w) (hbl:wb.heap.size ≤ lo) (hsm:smTr t) (hso:soundP t=true) (hok:LkOk t L) (hlo:lo ≤ l) (hl:L.past.length ≤ 1000000)
  (h1:a.op=8) (ha:askOk a=true) (hz:a.nm.size ≤ 9223372036854775807) :
  Calls Tryz.prog 37 #[.pointer (some ⟨l,0,none⟩),.agg #[.int .i64 a.op,.int .i64 a.n,.string a.nm,.int .i64 a.stop.kind,.int .i64 a.stop.fn,.int .i64 a.stop.line,.string a.stop.nm]] w (AnsPost (doUndo L) lo l t.moms.length t.moms v1 v2 w):=by
 obtain ⟨op,n,nm,st⟩:=a
 have h1:op=8:=h1
 subst h1
 have hlw:lo ≤ w.heap.size:=Nat.le_trans hlo (Nat.le_of_lt h.blk.lt)
 obtain ⟨A4,c4,rfl,-,-⟩:=h.past.cap
 obtain ⟨A3,c3,rfl,hc3⟩:=h.hits.cap
 have HS:=qhq h
 have HRB:=qhq hrb
 have HBB:=qhq hbb
 have HSM:=qhq hsm
 have HSO:=qhq hso
 have HOK:=qhq hok
 have hok':=qhq ha
 have hln:=hok.ln
 have hpl:=hok.lo
 have hph:=hok.hi
 have hmn:=(sound_fns (sound_iff hso)).2.2
 obtain ⟨⟨A1,c1,rfl,hn1,-⟩,⟨vv,⟨A2,c2,rfl,hn2,-⟩,-⟩⟩:=hrb
 have hba:=qaq (qaq (qaq (qrq _ w) (.cells #[.int .i64 8,.int .i64 n,.string nm,.int .i64 st.kind,.int .i64 st.fn,.int .i64 st.line,.string st.nm] 47)) (.cells #[.int .i64 0,.int .i64 0,.int .i64 0,.string ⟨#[]⟩,.slice none 0 0,.slice none 0 0] 38)) (.cells #[.int .i64 0,.int .i64 0,.int .i64 0,.string ⟨#[]⟩,.slice none 0 0,.slice none 0 0] 38)
 have hA:=((ask_box w 8 n nm st).alloc (.cells #[.int .i64 0,.int .i64 0,.int .i64 0,.string ⟨#[]⟩,.slice none 0 0,.slice none 0 0] 38)).alloc (.cells #[.int .i64 0,.int .i64 0,.int .i64 0,.string ⟨#[]⟩,.slice none 0 0,.slice none 0 0] 38)
 have hR:=(told_box (w.alloc (.cells #[.int .i64 8,.int .i64 n,.string nm,.int .i64 st.kind,.int .i64 st.fn,.int .i64 st.line,.string st.nm] 47))).alloc (.cells #[.int .i64 0,.int .i64 0,.int .i64 0,.string ⟨#[]⟩,.slice none 0 0,.slice none 0 0] 38)
 have hO:=told_box ((w.alloc (.cells #[.int .i64 8,.int .i64 n,.string nm,.int .i64 st.kind,.int .i64 st.fn,.int .i64 st.line,.string st.nm] 47)).alloc (.cells #[.int .i64 0,.int .i64 0,.int .i64 0,.string ⟨#[]⟩,.slice none 0 0,.slice none 0 0] 38))
 rw [World.size_alloc] at hR
 rw [World.size_alloc,World.size_alloc] at hO
 have HA:=qhq hA
 have HRS:=qhq hR
 have HO:=qhq hO
 have HW:=qhq hba
 clear h hsm hso hok hA hR hO hba hbb ha
 go_enter Tryz.func37,Tryz.ntmps37
 go_wp2_with fail
 refine (l5askOk_calls ⟨8,n,nm,st⟩ _ hz).mono ?_;rintro e w1 ⟨rfl,hb⟩
 rw [hok'.out]
 have hbw:=qtq HW.out hb
 have HMV:=qhq (Mv.of_below (ts:=qTys) hbw hlw)
 replace HA:=qhq (HA.out.later hb);replace HRS:=qhq (HRS.out.later hb);replace HO:=qhq (HO.out.later hb);clear hb
 replace HS:=qhq (HS.out.later hbw)
 have HR:=qhq (HRB.out.later (bl_trans9 HBB.out (bl_low9 hbw (Nat.le_trans hbl hlw))))
 clear hbw HW
 obtain ⟨q,hq⟩:∃ q,w.heap.size=q:=⟨_,rfl⟩
 have HQ:=qhq hq
 rw [hq] at HA HRS HO hlw ⊢
 clear hq
 have x0:w1.cell? ⟨q,0,none⟩=some (.int .i64 8):=HA.out.cell (j:=0) (by omega)
 obtain ⟨n0,hn0⟩:∃ n,L.past.length=n:=⟨_,rfl⟩
 have HP:=qhq hn0
 have z4:w1.cell? ⟨l,4,none⟩=some (.slice A4 L.past.length c4):=HS.out.blk.cell (j:=4) (by omega)
 rw [hn0] at z4
 by_cases hc:n0=0
 ·subst hc
  have r0:=HRS.out.cell (j:=0) (by omega)
  have e0:=HRS.out.free 0
  have o0:=HO.out.cell (j:=0) (by omega)
  have g0:=HO.out.free 0
  have r1:=HRS.out.cell (j:=1) (by omega)
  have e1:=HRS.out.free 1
  have o1:=HO.out.cell (j:=1) (by omega)
  have g1:=HO.out.free 1
  have r2:=HRS.out.cell (j:=2) (by omega)
  have e2:=HRS.out.free 2
  have o2:=HO.out.cell (j:=2) (by omega)
  have g2:=HO.out.free 2
  have r3:=HRS.out.cell (j:=3) (by omega)
  have e3:=HRS.out.free 3
  have o3:=HO.out.cell (j:=3) (by omega)
  have g3:=HO.out.free 3
  have r4:=HRS.out.cell (j:=4) (by omega)
  have e4:=HRS.out.free 4
  have o4:=HO.out.cell (j:=4) (by omega)
  have g4:=HO.out.free 4
  have r5:=HRS.out.cell (j:=5) (by omega)
  have e5:=HRS.out.free 5
  have o5:=HO.out.cell (j:=5) (by omega)
  have g5:=HO.out.free 5
  simp only [tdF] at r0 r1 r2 r3 r4 r5 o0 o1 o2 o3 o4 o5
  go_wp2_with fail
  refine bodyPost_ret (v:=.agg #[.int .i64 0,.int .i64 4,.int .i64 0,.string ⟨#[]⟩,.slice none 0 0,.slice none 0 0]) (by simp [results,Tryz.results37,go_sem,r0,r1,r2,r3,r4,r5,o0,o1,o2,o3,o4,o5,td0]) rfl ?_
  exact ans_end (q:={ td0 with code:=4 }) (by unfold doUndo;rw [if_pos HP.out];rfl) (show SpL _ _ _ _ _ _ _ (doUndo L).2.1 _ _ by unfold doUndo;rw [if_pos HP.out];exact HS.out.farT HO.out 1 _) (HRS.out.far (show q + 1 ≠ q + 1 + 1 by omega) _) OwR.nil (owr_z OwR.nil) (HMV.out.setNew (p:=⟨q + 1 + 1,1,none⟩) (by dsimp only;omega) (by rw [HQ.out];dsimp only;omega) (.int .i64 4)) (by rw [HQ.out];omega) (by rw [HQ.out];exact hlw)
 ·obtain ⟨m,hm⟩:∃ m,n0=m + 1:=⟨n0 - 1,by omega⟩
  obtain ⟨Au,cu,hv4,hop⟩:=HS.out.past.open'
  obtain ⟨rfl,rfl⟩:A4=Au ∧ c4=cu:=by simpa using hv4
  obtain ⟨b,rfl,hlb,hbw,hcl,hfz⟩:=hop (by omega)
  have hcapp:n0 ≤ c4:=by
   obtain ⟨A9,c9,he9,hle,-⟩:=HS.out.past.cap
   simp only [Value.slice.injEq] at he9
   omega
  obtain ⟨k,hk⟩:∃ k,elt L.past m=k:=⟨_,rfl⟩
  have HKE:=qhq hk
  have zc:w1.cell? ⟨b,m,none⟩=some (.int .i64 k):=by
   have h:=hcl m (by omega) 0 (by omega)
   rw [Nat.mul_one,Nat.add_zero] at h
   rw [h,← hk]
   rfl
  clear hop hcl hfz hv4 hk
  have hni:¬ ((n0:Nat):Int)=0:=by omega
  have hni1:((n0:Nat):Int) - 1=(m:Int):=by omega
  have hnil:(m:Int) < (n0:Int):=by omega
  have hwr:IntKind.i64.wrap (m:Int)=(m:Int):=by rw [IntKind.wrap_i64];omega
  have hmc:m ≤ c4:=by omega
  have hbl9:b ≠ l:=by
   have hb9:(Value.slice (some ⟨b,0,none⟩:Option Addr) L.past.length c4).ownBlock=some b:=rfl
   obtain ⟨N,F,hB⟩:=HS.out.past.block hb9
   exact hB.ne HS.out.blk (by decide)
  have z2:w1.cell? ⟨l,2,none⟩=some (.int .i64 L.place):=HS.out.blk.cell (j:=2) (by omega)
  have f2:=HS.out.blk.free 2
  have f4:=HS.out.blk.free 4
  have hll:=HS.out.blk.lt
  clear hn0 hm hc
  go_upto_region 67 with fail
  have HS2:=qhq (HS.out.setAt k)
  have hlen:(L.past.take m).length=m:=by rw [List.length_take,HP.out];omega
  have htk:OwR (w1.setCell ⟨l,2,none⟩ (.int .i64 k)) lo 3 1 (L.past.take m).length (intC (L.past.take m)) (.slice (some ⟨b,0,none⟩) m c4):=by
   rw [hlen]
   refine (HS2.out.past.take (m:=m) (by show m ≤ L.past.length;rw [HP.out];omega)).congr fun i hi j hj=>?_
   unfold intC
   show Value.int .i64 (elt L.past i)=_
   rw [elt_eq (xs:=L.past.take m) (by rw [hlen];exact hi),List.getElem_take,← elt_eq]
  have HS4:=qhq (SpL.ofPast HS2.out.blk HS2.out.hits htk)
  have hRl:=HRS.out.ne HS.out.blk (by decide)
  have hOl:=HO.out.ne HS.out.blk (by decide)
  replace HRS:=qhq ((HRS.out.far (p:=⟨l,2,none⟩) hRl (.int .i64 k)).far (p:=⟨l,4,none⟩) hRl (.slice (some ⟨b,0,none⟩) m c4))
  replace HO:=qhq ((HO.out.far (p:=⟨l,2,none⟩) hOl (.int .i64 k)).far (p:=⟨l,4,none⟩) hOl (.slice (some ⟨b,0,none⟩) m c4))
  replace HMV:=qhq ((HMV.out.set (p:=⟨l,2,none⟩) hlo HS.out.blk (by decide) (.int .i64 k)).set (p:=⟨l,4,none⟩) hlo HS2.out.blk (by decide) (.slice (some ⟨b,0,none⟩) m c4))
  clear z2 z4 zc f2 f4 x0 htk hlen HS2 hRl hOl HS HA HR hwr hbl9
  generalize World.setCell (World.setCell w1 _ _) _ _=w2 at HS4 HRS HO HMV ⊢
  have hu:doUndo L=(td0,⟨k,L.ss,L.past.take m⟩,0):=by
   unfold doUndo
   rw [if_neg (by rw [HP.out];omega),HP.out,show n0 - 1=m by omega,HKE.out]
  rw [hu]
  have r0:=HRS.out.cell (j:=0) (by omega)
  have e0:=HRS.out.free 0
  have o0:=HO.out.cell (j:=0) (by omega)
  have g0:=HO.out.free 0
  have r1:=HRS.out.cell (j:=1) (by omega)
  have e1:=HRS.out.free 1
  have o1:=HO.out.cell (j:=1) (by omega)
  have g1:=HO.out.free 1
  have r2:=HRS.out.cell (j:=2) (by omega)
  have e2:=HRS.out.free 2
  have o2:=HO.out.cell (j:=2) (by omega)
  have g2:=HO.out.free 2
  have r3:=HRS.out.cell (j:=3) (by omega)
  have e3:=HRS.out.free 3
  have o3:=HO.out.cell (j:=3) (by omega)
  have g3:=HO.out.free 3
  have r4:=HRS.out.cell (j:=4) (by omega)
  have e4:=HRS.out.free 4
  have o4:=HO.out.cell (j:=4) (by omega)
  have g4:=HO.out.free 4
  have r5:=HRS.out.cell (j:=5) (by omega)
  have e5:=HRS.out.free 5
  have o5:=HO.out.cell (j:=5) (by omega)
  have g5:=HO.out.free 5
  simp only [tdF] at r0 r1 r2 r3 r4 r5 o0 o1 o2 o3 o4 o5
  go_wp2_with fail
  refine bodyPost_ret (v:=.agg #[.int .i64 0,.int .i64 0,.int .i64 0,.string ⟨#[]⟩,.slice none 0 0,.slice none 0 0]) (by simp [results,Tryz.results37,go_sem,r0,r1,r2,r3,r4,r5,o0,o1,o2,o3,o4,o5,td0]) rfl ?_
  exact ans_end (q:=td0) (by rfl) HS4.out HRS.out OwR.nil (owr_z OwR.nil) HMV.out (by rw [HQ.out];omega) (by rw [HQ.out];exact hlw)
set_option maxRecDepth 100000 in
set_option maxHeartbeats 4000000 in
theorem q9_calls (lo l:Nat) (v1 v2:Value) (t:PTr) (L:Lk) (hv pv:Value) (a:PAsk) (w:World) (h:SpL w lo l t.moms.length t.moms v1 v2 L hv pv) (wb:World) (hrb:RdTr wb v1 v2 t) (hbb:Below wb.heap.size wb w) (hbl:wb.heap.size ≤ lo) (hsm:smTr t) (hso:soundP t=true) (hok:LkOk t L) (hlo:lo ≤ l) (hl:L.past.length ≤ 1000000)
  (h1:a.op=9) (ha:askOk a=true) (hz:a.nm.size ≤ 9223372036854775807) :
  Calls Tryz.prog 37 #[.pointer (some ⟨l,0,none⟩),.agg #[.int .i64 a.op,.int .i64 a.n,.string a.nm,.int .i64 a.stop.kind,.int .i64 a.stop.fn,.int .i64 a.stop.line,.string a.stop.nm]] w (AnsPost (doTo t L a) lo l t.moms.length t.moms v1 v2 w):=by
 obtain ⟨op,n,nm,st⟩:=a
 have h1:op=9:=h1
 subst h1
 have hlw:lo ≤ w.heap.size:=Nat.le_trans hlo (Nat.le_of_lt h.blk.lt)
 obtain ⟨A4,c4,rfl,-,-⟩:=h.past.cap
 obtain ⟨A3,c3,rfl,hc3⟩:=h.hits.cap
 have HS:=qhq h
 have HRB:=qhq hrb
 have HBB:=qhq hbb
 have HSM:=qhq hsm
 have HSO:=qhq hso
 have HOK:=qhq hok
 have hok':=qhq ha
 have hln:=hok.ln
 have hpl:=hok.lo
 have hph:=hok.hi
 have hmn:=(sound_fns (sound_iff hso)).2.2
 obtain ⟨⟨A1,c1,rfl,hn1,-⟩,⟨vv,⟨A2,c2,rfl,hn2,-⟩,-⟩⟩:=hrb
 have hba:=qaq (qaq (qaq (qrq _ w) (.cells #[.int .i64 9,.int .i64 n,.string nm,.int .i64 st.kind,.int .i64 st.fn,.int .i64 st.line,.string st.nm] 47)) (.cells #[.int .i64 0,.int .i64 0,.int .i64 0,.string ⟨#[]⟩,.slice none 0 0,.slice none 0 0] 38)) (.cells #[.int .i64 0,.int .i64 0,.int .i64 0,.string ⟨#[]⟩,.slice none 0 0,.slice none 0 0] 38)
 have hA:=((ask_box w 9 n nm st).alloc (.cells #[.int .i64 0,.int .i64 0,.int .i64 0,.string ⟨#[]⟩,.slice none 0 0,.slice none 0 0] 38)).alloc (.cells #[.int .i64 0,.int .i64 0,.int .i64 0,.string ⟨#[]⟩,.slice none 0 0,.slice none 0 0] 38)
 have hR:=(told_box (w.alloc (.cells #[.int .i64 9,.int .i64 n,.string nm,.int .i64 st.kind,.int .i64 st.fn,.int .i64 st.line,.string st.nm] 47))).alloc (.cells #[.int .i64 0,.int .i64 0,.int .i64 0,.string ⟨#[]⟩,.slice none 0 0,.slice none 0 0] 38)
 have hO:=told_box ((w.alloc (.cells #[.int .i64 9,.int .i64 n,.string nm,.int .i64 st.kind,.int .i64 st.fn,.int .i64 st.line,.string st.nm] 47)).alloc (.cells #[.int .i64 0,.int .i64 0,.int .i64 0,.string ⟨#[]⟩,.slice none 0 0,.slice none 0 0] 38))
 rw [World.size_alloc] at hR
 rw [World.size_alloc,World.size_alloc] at hO
 have HA:=qhq hA
 have HRS:=qhq hR
 have HO:=qhq hO
 have HW:=qhq hba
 clear h hsm hso hok hA hR hO hba hbb ha
 go_enter Tryz.func37,Tryz.ntmps37
 go_wp2_with fail
 refine (l5askOk_calls ⟨9,n,nm,st⟩ _ hz).mono ?_;rintro e w1 ⟨rfl,hb⟩
 rw [hok'.out]
 have hbw:=qtq HW.out hb
 have HMV:=qhq (Mv.of_below (ts:=qTys) hbw hlw)
 replace HA:=qhq (HA.out.later hb);replace HRS:=qhq (HRS.out.later hb);replace HO:=qhq (HO.out.later hb);clear hb
 replace HS:=qhq (HS.out.later hbw)
 have HR:=qhq (HRB.out.later (bl_trans9 HBB.out (bl_low9 hbw (Nat.le_trans hbl hlw))))
 clear hbw HW
 obtain ⟨q,hq⟩:∃ q,w.heap.size=q:=⟨_,rfl⟩
 have HQ:=qhq hq
 rw [hq] at HA HRS HO hlw ⊢
 clear hq
 have x0:w1.cell? ⟨q,0,none⟩=some (.int .i64 9):=HA.out.cell (j:=0) (by omega)
 go_upto_region 42 with fail
 clear x0
 have hbd:Below w1.heap.size w1 w1.drew:=bl_drew (qrq _ _)
 replace HMV:=qhq HMV.out.drew
 replace HS:=qhq (HS.out.later hbd);replace HA:=qhq (HA.out.later hbd);replace HRS:=qhq (HRS.out.later hbd);replace HO:=qhq (HO.out.later hbd);replace HR:=qhq (HR.out.later hbd);clear hbd
 refine wp_region_H (fun w':World=>Below w1.drew.heap.size w1.drew w') (by kernel_rfl) ?_
 generalize w1.drew=W2 at HMV HS HA HRS HO HR ⊢
 have HS0:Hid (Below W2.heap.size W2 W2):=qhq (qrq _ _)
 have z1:W2.cell? ⟨l,1,none⟩=some (.slice A2 t.moms.length c2):=HS.out.blk.cell (j:=1) (by omega)
 have zn:W2.cell? ⟨q,1,none⟩=some (.int .i64 n):=HA.out.cell (j:=1) (by omega)
 refine wpAnyH_take2 0 (v:=?v0m) (by rfl) (by kernel_rfl) (by intro _ _ _ h;exact h) HS0.out (by rfl) ?hy0m ?rest0m
 case hy0m =>
  intro w' hSw
  have sz1:=qcq hSw z1
  have szn:=qcq hSw zn
  clear hSw
  go_simp
  try with_reducible rfl
 simp only [Act.put,q1q,q2q,q3q]
 refine wpAnyH_take2 1 (v:=?v1m) (by rfl) (by kernel_rfl) (by intro _ _ _ h;exact h) HS0.out (by rfl) ?hy1m ?rest1m
 case hy1m =>
  intro w' hSw
  have sz1:=qcq hSw z1
  have szn:=qcq hSw zn
  clear hSw
  go_simp
  try with_reducible rfl
 simp only [Act.put,q1q,q2q,q3q]
 refine wpAnyH_take2 2 (v:=?v2m) (by rfl) (by kernel_rfl) (by intro _ _ _ h;exact h) HS0.out (by rfl) ?hy2m ?rest2m
 case hy2m =>
  intro w' hSw
  have sz1:=qcq hSw z1
  have szn:=qcq hSw zn
  clear hSw
  go_simp
  try with_reducible rfl
 simp only [Act.put,q1q,q2q,q3q]
 refine wpAnyH_take2 3 (v:=?v3m) (by rfl) (by kernel_rfl) (by intro _ _ _ h;exact h) HS0.out (by rfl) ?hy3m ?rest3m
 case hy3m =>
  intro w' hSw
  have sz1:=qcq hSw z1
  have szn:=qcq hSw zn
  clear hSw
  go_simp
  try with_reducible rfl
 simp only [Act.put,q1q,q2q,q3q]
 refine wpAnyH_take2 4 (v:=?v4m) (by rfl) (by kernel_rfl) (by intro _ _ _ h;exact h) HS0.out (by rfl) ?hy4m ?rest4m
 case hy4m =>
  intro w' hSw
  have sz1:=qcq hSw z1
  have szn:=qcq hSw zn
  clear hSw
  go_simp
  try with_reducible rfl
 simp only [Act.put,q1q,q2q,q3q]
 refine wpAnyH_take2 5 (v:=?v5m) (by rfl) (by kernel_rfl) (by intro _ _ _ h;exact h) HS0.out (by rfl) ?hy5m ?rest5m
 case hy5m =>
  intro w' hSw
  have sz1:=qcq hSw z1
  have szn:=qcq hSw zn
  clear hSw
  go_simp
  try with_reducible rfl
 simp only [Act.put,q1q,q2q,q3q]
 refine wpAnyH_take2 6 (v:=?v6m) (by rfl) (by kernel_rfl) (by intro _ _ _ h;exact h) HS0.out (by rfl) ?hy6m ?rest6m
 case hy6m =>
  intro w' hSw
  have sz1:=qcq hSw z1
  have szn:=qcq hSw zn
  clear hSw
  go_simp
  try with_reducible rfl
 simp only [Act.put,q1q,q2q,q3q]
 refine wpAnyH_take2 7 (v:=?v7m) (by rfl) (by kernel_rfl) (by intro _ _ _ h;exact h) HS0.out (by rfl) ?hy7m ?rest7m
 case hy7m =>
  intro w' hSw
  have sz1:=qcq hSw z1
  have szn:=qcq hSw zn
  clear hSw
  go_simp
  try with_reducible rfl
 simp only [Act.put,q1q,q2q,q3q]
 refine wpAnyH_take2 8 (v:=?v8m) (by rfl) (by kernel_rfl) (by intro _ _ _ h;exact h) HS0.out (by rfl) ?hy8m ?rest8m
 case hy8m =>
  intro w' hSw
  have sz1:=qcq hSw z1
  have szn:=qcq hSw zn
  clear hSw
  go_simp
  try with_reducible rfl
 simp only [Act.put,q1q,q2q,q3q]
 refine wpAnyH_done (by kernel_rfl) ?_ _
 simp only [List.getElem_toArray,List.getElem_cons_zero,List.getElem_cons_succ,q1q,q2q,q3q]
 clear HS0
 by_cases hc:(t.moms.length:Int) < n
 ·have hu:doTo t L ⟨9,n,nm,st⟩=(td0,L,4):=by unfold doTo;rw [if_pos hc]
  have r0:=HRS.out.cell (j:=0) (by omega)
  have e0:=HRS.out.free 0
  have o0:=HO.out.cell (j:=0) (by omega)
  have g0:=HO.out.free 0
  have r1:=HRS.out.cell (j:=1) (by omega)
  have e1:=HRS.out.free 1
  have o1:=HO.out.cell (j:=1) (by omega)
  have g1:=HO.out.free 1
  have r2:=HRS.out.cell (j:=2) (by omega)
  have e2:=HRS.out.free 2
  have o2:=HO.out.cell (j:=2) (by omega)
  have g2:=HO.out.free 2
  have r3:=HRS.out.cell (j:=3) (by omega)
  have e3:=HRS.out.free 3
  have o3:=HO.out.cell (j:=3) (by omega)
  have g3:=HO.out.free 3
  have r4:=HRS.out.cell (j:=4) (by omega)
  have e4:=HRS.out.free 4
  have o4:=HO.out.cell (j:=4) (by omega)
  have g4:=HO.out.free 4
  have r5:=HRS.out.cell (j:=5) (by omega)
  have e5:=HRS.out.free 5
  have o5:=HO.out.cell (j:=5) (by omega)
  have g5:=HO.out.free 5
  simp only [tdF] at r0 r1 r2 r3 r4 r5 o0 o1 o2 o3 o4 o5
  go_wp2_with fail
  refine bodyPost_ret (v:=.agg #[.int .i64 0,.int .i64 4,.int .i64 0,.string ⟨#[]⟩,.slice none 0 0,.slice none 0 0]) (by simp [results,Tryz.results37,go_sem,r0,r1,r2,r3,r4,r5,o0,o1,o2,o3,o4,o5,td0]) rfl ?_
  rw [hu];exact ans_end (q:={ td0 with code:=4 }) (by rfl) (HS.out.farT HO.out 1 _) (HRS.out.far (show q + 1 ≠ q + 1 + 1 by omega) _) OwR.nil (owr_z OwR.nil) (HMV.out.setNew (p:=⟨q + 1 + 1,1,none⟩) (by dsimp only;omega) (by rw [HQ.out];dsimp only;omega) (.int .i64 4)) (by rw [HQ.out];omega) (by rw [HQ.out];exact hlw)
 ·have hu:doTo t L ⟨9,n,nm,st⟩=(td0,L.move n,0):=by unfold doTo;rw [if_neg hc]
  go_wp2_with fail
  refine (l5move_calls lo l _ t.moms _ _ L _ _ n _ HS.out hlo hl).mono ?_;rintro e w4 ⟨rfl,⟨pv',hS4⟩,hm⟩
  have HS4:=qhq hS4
  replace HRS:=qhq (HRS.out.mv hm (by decide))
  replace HO:=qhq (HO.out.mv hm (by decide))
  replace HMV:=qhq (HMV.out.trans hm)
  clear hS4 hm HS HA z1 zn
  have r0:=HRS.out.cell (j:=0) (by omega)
  have e0:=HRS.out.free 0
  have o0:=HO.out.cell (j:=0) (by omega)
  have g0:=HO.out.free 0
  have r1:=HRS.out.cell (j:=1) (by omega)
  have e1:=HRS.out.free 1
  have o1:=HO.out.cell (j:=1) (by omega)
  have g1:=HO.out.free 1
  have r2:=HRS.out.cell (j:=2) (by omega)
  have e2:=HRS.out.free 2
  have o2:=HO.out.cell (j:=2) (by omega)
  have g2:=HO.out.free 2
  have r3:=HRS.out.cell (j:=3) (by omega)
  have e3:=HRS.out.free 3
  have o3:=HO.out.cell (j:=3) (by omega)
  have g3:=HO.out.free 3
  have r4:=HRS.out.cell (j:=4) (by omega)
  have e4:=HRS.out.free 4
  have o4:=HO.out.cell (j:=4) (by omega)
  have g4:=HO.out.free 4
  have r5:=HRS.out.cell (j:=5) (by omega)
  have e5:=HRS.out.free 5
  have o5:=HO.out.cell (j:=5) (by omega)
  have g5:=HO.out.free 5
  simp only [tdF] at r0 r1 r2 r3 r4 r5 o0 o1 o2 o3 o4 o5
  go_wp2_with fail
  refine bodyPost_ret (v:=.agg #[.int .i64 0,.int .i64 0,.int .i64 0,.string ⟨#[]⟩,.slice none 0 0,.slice none 0 0]) (by simp [results,Tryz.results37,go_sem,r0,r1,r2,r3,r4,r5,o0,o1,o2,o3,o4,o5,td0]) rfl ?_
  rw [hu];exact ans_end (q:=td0) (by rfl) HS4.out HRS.out OwR.nil (owr_z OwR.nil) HMV.out (by rw [HQ.out];omega) (by rw [HQ.out];exact hlw)
end Go.Proofs.YtcklnjjbhngbcaaGreatDoor
