/- Lemmas and contracts of functions that the theorem of this claim leans on (texts E3). -/
import Derived.Test.YtcklnjjbhngbcaaGreatDoorRowTopz00
import Derived.Test.YtcklnjjbhngbcaaGreatDoorRowUnz06
import Derived.Test.YtcklnjjbhngbcaaGreatDoorRowTopz08
import Derived.ArgAppend
import Derived.Test.YtcklnjjbhngbcaaGreatDoorRowTopz18
import Derived.Test.YtcklnjjbhngbcaaGreatDoorRowTopz24
namespace Go.Proofs.YtcklnjjbhngbcaaGreatDoor
open Go.RowKit Go.Proofs.Lens
set_option linter.unusedSimpArgs false
structure SeE (w:World) (s sb tb:Nat) (v1 v2:Value):Prop where
 sbx:Blk w sb 83 1 (fun _=>ptrB s)
 tbx:Blk w tb 26 2 (trF v1 v2)
theorem SeE.later {w w':World} {s sb tb:Nat} {v1 v2:Value} (h:SeE w s sb tb v1 v2) (hb:Below w.heap.size w w'):SeE w' s sb tb v1 v2:=⟨h.sbx.later hb,h.tbx.later hb⟩
theorem SeE.mv {w w':World} {lo s sb tb:Nat} {v1 v2:Value} (h:SeE w s sb tb v1 v2) (hb:Mv eTys lo w w'):SeE w' s sb tb v1 v2:=⟨h.sbx.mv hb (by decide),h.tbx.mv hb (by decide)⟩
def TdAt (w:World) (lo x:Nat) (q:PTold):Prop:=∃ sv vv,Blk w x 38 6 (tdF q sv vv) ∧ OwR w lo 42 3 q.stack.length (frC q.stack) sv ∧ OwZ w lo 40 2 q.vars.length (varC q.vars) vv
theorem TdAt.later {w w':World} {lo x:Nat} {q:PTold} (h:TdAt w lo x q) (hb:Below w.heap.size w w'):TdAt w' lo x q:=by
 obtain ⟨sv,vv,h1,h2,h3⟩:=h
 exact ⟨sv,vv,h1.later hb,h2.later hb,h3.later hb⟩
def errV (c:Int):Value:=if c=0 then .nilIface else .iface 87 (.int .i64 c)
def DoPost (r:PTold × Lk × Int) (lo s x:Nat) (v1 v2:Value) (D:Nat → Value) (w:World) (e:Ending) (w':World):Prop :=
 e=.returned (errV r.2.2) ∧ (∃ vs vu,SeS w' lo s v1 v2 D r.2.1 vs vu) ∧ TdAt w' w.heap.size x r.1 ∧ Mx eTys x lo w w'
def Td0 (w:World) (x:Nat):Prop:=Blk w x 38 6 (tdF td0 (.slice none 0 0) (.slice none 0 0))
theorem DoPost.plain {r:PTold × Lk × Int} {lo s x:Nat} {v1 v2:Value} {D:Nat → Value} {w w':World} {vs vu e:Value} (h0:r.1=td0) (he:e=errV r.2.2) (hS:SeS w' lo s v1 v2 D r.2.1 vs vu) (hX:Td0 w' x) (hM:Mv eTys lo w w') :
  DoPost r lo s x v1 v2 D w (.returned e) w' :=
 ⟨by rw [he],⟨vs,vu,hS⟩,⟨_,_,by rw [h0];exact hX,by rw [h0];exact OwR.nil,by rw [h0];exact owr_z OwR.nil⟩,Mx.ofMv hM⟩
theorem askBox (w:World) (a:PAsk):Blk (w.alloc (.cells #[.int .i64 a.op,.int .i64 a.n,.string a.nm,.int .i64 a.stop.kind,.int .i64 a.stop.fn,.int .i64 a.stop.line,.string a.stop.nm] 47)) w.heap.size 47 7 (askC [a] 0) :=
 (Blk.made w #[.int .i64 a.op,.int .i64 a.n,.string a.nm,.int .i64 a.stop.kind,.int .i64 a.stop.fn,.int .i64 a.stop.line,.string a.stop.nm] 47).congr fun j hj=>by
  have hj:j < 7:=hj
  match j,hj with
  | 0,_=>rfl
  | 1,_=>rfl
  | 2,_=>rfl
  | 3,_=>rfl
  | 4,_=>rfl
  | 5,_=>rfl
  | 6,_=>rfl
set_option maxRecDepth 100000 in
set_option maxHeartbeats 4000000 in
theorem do3_calls (lo s sb tb x:Nat) (v1 v2:Value) (t:PTr) (D:Nat → Value) (L:Lk) (vs vu:Value) (a:PAsk) (w:World) (h:SeS w lo s v1 v2 D L vs vu) (he:SeE w s sb tb v1 v2) (hx:Td0 w x)
  (hr:RdTr w v1 v2 t) (hsm:smTr t) (hso:soundP t=true) (hok:LkOk t L) (hlo:lo ≤ s) (hl:L.past.length ≤ 1000000) :
  Calls Tryz.prog 102 #[.agg #[.int .i64 a.op,.int .i64 a.n,.string a.nm,.int .i64 a.stop.kind,.int .i64 a.stop.fn,.int .i64 a.stop.line,.string a.stop.nm],.pointer (some ⟨x,0,none⟩),.pointer (some ⟨sb,0,none⟩),.pointer (some ⟨tb,0,none⟩)] w (DoPost (doMove L (nextP t L.ss L.place)) lo s x v1 v2 D w):=by
 obtain ⟨A3,c3,rfl,hn3,hm3⟩:=h.st.cap
 obtain ⟨A4,c4,rfl,hn4,hm4⟩:=h.un.cap
 have HS:=qhq h
 have HE:=qhq he
 have HX:=qhq hx
 have HR:=qhq hr
 have HSM:=qhq hsm
 have HSO:=qhq hso
 have HOK:=qhq hok
 have hlw:lo ≤ w.heap.size:=Nat.le_trans hlo (Nat.le_of_lt h.blk.lt)
 obtain ⟨⟨A1,c1,rfl,hn1,-⟩,⟨vv,⟨A2,c2,rfl,hn2,-⟩,-⟩⟩:=hr
 have hln:=hok.ln
 have hpl:=hok.lo
 have hph:=hok.hi
 have hmn:=(sound_fns (sound_iff hso)).2.2
 have HA0:=qhq (askBox w a)
 have hbw:=qaq (qrq _ w) (.cells #[.int .i64 a.op,.int .i64 a.n,.string a.nm,.int .i64 a.stop.kind,.int .i64 a.stop.fn,.int .i64 a.stop.line,.string a.stop.nm] 47)
 have hsz:(w.alloc (.cells #[.int .i64 a.op,.int .i64 a.n,.string a.nm,.int .i64 a.stop.kind,.int .i64 a.stop.fn,.int .i64 a.stop.line,.string a.stop.nm] 47)).heap.size=w.heap.size + 1:=by simp
 clear h he hx hsm hso hok
 go_enter Tryz.func102,Tryz.ntmps102
 go_upto_region 1 with fail
 generalize World.alloc w _=W at HA0 hbw hsz ⊢
 have HMV:=qhq (Mv.of_below (ts:=eTys) hbw hlw)
 replace HS:=qhq (HS.out.later hbw);replace HE:=qhq (HE.out.later hbw);replace HX:=qhq (HX.out.later hbw);replace HR:=qhq (HR.out.later hbw);clear hbw
 obtain ⟨q,hq⟩:∃ q,w.heap.size=q:=⟨_,rfl⟩
 rw [hq] at HA0 hsz hlw ⊢
 refine wp_region_F 11 (fun w':World=>Below W.drew.heap.size W.drew w') (by kernel_rfl) ?_
 have hszd:W.drew.heap.size=q + 1:=hsz
 replace HMV:=qhq HMV.out.drew
 have hbd:Below W.heap.size W W.drew:=bl_drew (qrq _ W)
 replace HS:=qhq (HS.out.later hbd);replace HE:=qhq (HE.out.later hbd);replace HX:=qhq (HX.out.later hbd);replace HR:=qhq (HR.out.later hbd);replace HA0:=qhq (HA0.out.later hbd);clear hbd
 generalize W.drew=W2 at HMV HS HE HX HR HA0 hszd ⊢
 clear hsz
 have zs:W2.cell? ⟨sb,0,none⟩=some (.pointer (some ⟨s,0,none⟩)):=HE.out.sbx.cell (j:=0) (by omega)
 have zt0:W2.cell? ⟨tb,0,none⟩=some (.slice A1 t.fns.length c1):=HE.out.tbx.cell (j:=0) (by omega)
 have zt1:W2.cell? ⟨tb,1,none⟩=some (.slice A2 t.moms.length c2):=HE.out.tbx.cell (j:=1) (by omega)
 have za:W2.cell? ⟨s,2,none⟩=some (.int .i64 L.place):=HS.out.blk.cell (j:=2) (by omega)
 have zv:W2.cell? ⟨s,3,none⟩=some (.slice A3 L.ss.length c3):=HS.out.blk.cell (j:=3) (by omega)
 have HS0:Hid (Below W2.heap.size W2 W2):=qhq (qrq _ _)
 refine wpAnyF_takeC 0 [] (v:=?v0m) (by rfl) (by kernel_rfl) (by intro _ _ _ h;exact h) HS0.out (by rfl) ?hy0m ?rest0m
 case hy0m =>
  intro w' hSw
  have szs:=qcq hSw zs
  have szt0:=qcq hSw zt0
  have szt1:=qcq hSw zt1
  have sza:=qcq hSw za
  have szv:=qcq hSw zv
  clear hSw
  go_simp
  try with_reducible rfl
 simp only [Act.put,q1q,q2q,q3q]
 refine wpAnyF_takeC 1 [10] (v:=?v1m) (by rfl) (by kernel_rfl) (by intro _ _ _ h;exact h) HS0.out (by rfl) ?hy1m ?rest1m
 case hy1m =>
  intro w' hSw
  have szs:=qcq hSw zs
  have szt0:=qcq hSw zt0
  have szt1:=qcq hSw zt1
  have sza:=qcq hSw za
  have szv:=qcq hSw zv
  clear hSw
  go_simp
  try with_reducible rfl
 simp only [Act.put,q1q,q2q,q3q]
 refine wpAnyF_takeC 2 [3,4,5,10] (v:=?v2m) (by rfl) (by kernel_rfl) (by intro _ _ _ h;exact h) HS0.out (by rfl) ?hy2m ?rest2m
 case hy2m =>
  intro w' hSw
  have szs:=qcq hSw zs
  have szt0:=qcq hSw zt0
  have szt1:=qcq hSw zt1
  have sza:=qcq hSw za
  have szv:=qcq hSw zv
  clear hSw
  go_simp
  try with_reducible rfl
 simp only [Act.put,q1q,q2q,q3q]
 refine wpAnyF_takeC 3 [4,5,10] (v:=?v3m) (by rfl) (by kernel_rfl) (by intro _ _ _ h;exact h) HS0.out (by rfl) ?hy3m ?rest3m
 case hy3m =>
  intro w' hSw
  have szs:=qcq hSw zs
  have szt0:=qcq hSw zt0
  have szt1:=qcq hSw zt1
  have sza:=qcq hSw za
  have szv:=qcq hSw zv
  clear hSw
  go_simp
  try with_reducible rfl
 simp only [Act.put,q1q,q2q,q3q]
 refine wpAnyF_takeC 4 [5,10] (v:=?v4m) (by rfl) (by kernel_rfl) (by intro _ _ _ h;exact h) HS0.out (by rfl) ?hy4m ?rest4m
 case hy4m =>
  intro w' hSw
  have szs:=qcq hSw zs
  have szt0:=qcq hSw zt0
  have szt1:=qcq hSw zt1
  have sza:=qcq hSw za
  have szv:=qcq hSw zv
  clear hSw
  go_simp
  try with_reducible rfl
 simp only [Act.put,q1q,q2q,q3q]
 refine wpAnyF_takeC 5 [10] (v:=?v5m) (by rfl) (by kernel_rfl) (by intro _ _ _ h;exact h) HS0.out (by rfl) ?hy5m ?rest5m
 case hy5m =>
  intro w' hSw
  have szs:=qcq hSw zs
  have szt0:=qcq hSw zt0
  have szt1:=qcq hSw zt1
  have sza:=qcq hSw za
  have szv:=qcq hSw zv
  clear hSw
  go_simp
  try with_reducible rfl
 simp only [Act.put,q1q,q2q,q3q]
 refine wpAnyF_takeC 6 [7,8,9,10] (v:=?v6m) (by rfl) (by kernel_rfl) (by intro _ _ _ h;exact h) HS0.out (by rfl) ?hy6m ?rest6m
 case hy6m =>
  intro w' hSw
  have szs:=qcq hSw zs
  have szt0:=qcq hSw zt0
  have szt1:=qcq hSw zt1
  have sza:=qcq hSw za
  have szv:=qcq hSw zv
  clear hSw
  go_simp
  try with_reducible rfl
 simp only [Act.put,q1q,q2q,q3q]
 refine wpAnyF_takeC 7 [8,9,10] (v:=?v7m) (by rfl) (by kernel_rfl) (by intro _ _ _ h;exact h) HS0.out (by rfl) ?hy7m ?rest7m
 case hy7m =>
  intro w' hSw
  have szs:=qcq hSw zs
  have szt0:=qcq hSw zt0
  have szt1:=qcq hSw zt1
  have sza:=qcq hSw za
  have szv:=qcq hSw zv
  clear hSw
  go_simp
  try with_reducible rfl
 simp only [Act.put,q1q,q2q,q3q]
 refine wpAnyF_takeC 8 [9,10] (v:=?v8m) (by rfl) (by kernel_rfl) (by intro _ _ _ h;exact h) HS0.out (by rfl) ?hy8m ?rest8m
 case hy8m =>
  intro w' hSw
  have szs:=qcq hSw zs
  have szt0:=qcq hSw zt0
  have szt1:=qcq hSw zt1
  have sza:=qcq hSw za
  have szv:=qcq hSw zv
  clear hSw
  go_simp
  try with_reducible rfl
 simp only [Act.put,q1q,q2q,q3q]
 refine wpAnyF_takeC 9 [10] (v:=?v9m) (by rfl) (by kernel_rfl) (by intro _ _ _ h;exact h) HS0.out (by rfl) ?hy9m ?rest9m
 case hy9m =>
  intro w' hSw
  have szs:=qcq hSw zs
  have szt0:=qcq hSw zt0
  have szt1:=qcq hSw zt1
  have sza:=qcq hSw za
  have szv:=qcq hSw zv
  clear hSw
  go_simp
  try with_reducible rfl
 simp only [Act.put,q1q,q2q,q3q]
 refine wpAnyF_one 10 (by rfl) (by kernel_rfl) rfl ?_
 intro K hK
 go_simp
 refine (impl_Next_calls _ _ _ t L.ss L.place _ HR.out HSM.out HS.out.st.rd).mono ?_;rintro e w3 ⟨rfl,hb⟩
 have HS1:=qhq hb
 have hk:=next_rng HOK.out HSO.out
 obtain ⟨k,hke⟩:∃ k,nextP t L.ss L.place=k:=⟨_,rfl⟩
 rw [hke] at hk ⊢
 have HKE:=qhq hke
 clear hke
 dsimp only
 refine hK.out _ _ (fun _=>HS1.out) ?_
 clear hK K
 replace HMV:=qhq (HMV.out.trans (Mv.of_below hb (by omega)))
 replace HS:=qhq (HS.out.later hb);replace HX:=qhq (HX.out.later hb);clear hb
 refine wpAnyF_one 11 (by rfl) (by kernel_rfl) rfl ?_
 intro K hK
 go_simp
 refine (semove_calls lo s _ _ D L _ _ k _ HS.out hlo hl).mono ?_;rintro e w4 ⟨rfl,⟨vu',hS4⟩,hm⟩
 have HS4:=qhq hS4
 have HX4:=qhq (Blk.mv HX.out hm (by decide))
 replace HMV:=qhq (HMV.out.trans hm)
 dsimp only
 refine hK.out _ _ (fun h=>absurd rfl h) ?_
 clear hK K hS4 hm HS HX HS0 HS1 zs zt0 zt1 za zv
 refine wpAnyF_done (by kernel_rfl) ?_ _
 go_wp2
 go_ret
 have hS9:=HS4.out
 rw [← HKE.out] at hS9
 exact DoPost.plain rfl rfl hS9 HX4.out HMV.out
set_option maxRecDepth 100000 in
set_option maxHeartbeats 4000000 in
theorem do4_calls (lo s sb tb x:Nat) (v1 v2:Value) (t:PTr) (D:Nat → Value) (L:Lk) (vs vu:Value) (a:PAsk) (w:World) (h:SeS w lo s v1 v2 D L vs vu) (he:SeE w s sb tb v1 v2) (hx:Td0 w x)
  (hr:RdTr w v1 v2 t) (hsm:smTr t) (hso:soundP t=true) (hok:LkOk t L) (hlo:lo ≤ s) (hl:L.past.length ≤ 1000000) :
  Calls Tryz.prog 105 #[.agg #[.int .i64 a.op,.int .i64 a.n,.string a.nm,.int .i64 a.stop.kind,.int .i64 a.stop.fn,.int .i64 a.stop.line,.string a.stop.nm],.pointer (some ⟨x,0,none⟩),.pointer (some ⟨sb,0,none⟩),.pointer (some ⟨tb,0,none⟩)] w (DoPost (doMove L (lastP t L.ss L.place)) lo s x v1 v2 D w):=by
 obtain ⟨A3,c3,rfl,hn3,hm3⟩:=h.st.cap
 obtain ⟨A4,c4,rfl,hn4,hm4⟩:=h.un.cap
 have HS:=qhq h
 have HE:=qhq he
 have HX:=qhq hx
 have HR:=qhq hr
 have HSM:=qhq hsm
 have HSO:=qhq hso
 have HOK:=qhq hok
 have hlw:lo ≤ w.heap.size:=Nat.le_trans hlo (Nat.le_of_lt h.blk.lt)
 obtain ⟨⟨A1,c1,rfl,hn1,-⟩,⟨vv,⟨A2,c2,rfl,hn2,-⟩,-⟩⟩:=hr
 have hln:=hok.ln
 have hpl:=hok.lo
 have hph:=hok.hi
 have hmn:=(sound_fns (sound_iff hso)).2.2
 have HA0:=qhq (askBox w a)
 have hbw:=qaq (qrq _ w) (.cells #[.int .i64 a.op,.int .i64 a.n,.string a.nm,.int .i64 a.stop.kind,.int .i64 a.stop.fn,.int .i64 a.stop.line,.string a.stop.nm] 47)
 have hsz:(w.alloc (.cells #[.int .i64 a.op,.int .i64 a.n,.string a.nm,.int .i64 a.stop.kind,.int .i64 a.stop.fn,.int .i64 a.stop.line,.string a.stop.nm] 47)).heap.size=w.heap.size + 1:=by simp
 clear h he hx hsm hso hok
 go_enter Tryz.func105,Tryz.ntmps105
 go_upto_region 1 with fail
 generalize World.alloc w _=W at HA0 hbw hsz ⊢
 have HMV:=qhq (Mv.of_below (ts:=eTys) hbw hlw)
 replace HS:=qhq (HS.out.later hbw);replace HE:=qhq (HE.out.later hbw);replace HX:=qhq (HX.out.later hbw);replace HR:=qhq (HR.out.later hbw);clear hbw
 obtain ⟨q,hq⟩:∃ q,w.heap.size=q:=⟨_,rfl⟩
 rw [hq] at HA0 hsz hlw ⊢
 refine wp_region_F 11 (fun w':World=>Below W.drew.heap.size W.drew w') (by kernel_rfl) ?_
 have hszd:W.drew.heap.size=q + 1:=hsz
 replace HMV:=qhq HMV.out.drew
 have hbd:Below W.heap.size W W.drew:=bl_drew (qrq _ W)
 replace HS:=qhq (HS.out.later hbd);replace HE:=qhq (HE.out.later hbd);replace HX:=qhq (HX.out.later hbd);replace HR:=qhq (HR.out.later hbd);replace HA0:=qhq (HA0.out.later hbd);clear hbd
 generalize W.drew=W2 at HMV HS HE HX HR HA0 hszd ⊢
 clear hsz
 have zs:W2.cell? ⟨sb,0,none⟩=some (.pointer (some ⟨s,0,none⟩)):=HE.out.sbx.cell (j:=0) (by omega)
 have zt0:W2.cell? ⟨tb,0,none⟩=some (.slice A1 t.fns.length c1):=HE.out.tbx.cell (j:=0) (by omega)
 have zt1:W2.cell? ⟨tb,1,none⟩=some (.slice A2 t.moms.length c2):=HE.out.tbx.cell (j:=1) (by omega)
 have za:W2.cell? ⟨s,2,none⟩=some (.int .i64 L.place):=HS.out.blk.cell (j:=2) (by omega)
 have zv:W2.cell? ⟨s,3,none⟩=some (.slice A3 L.ss.length c3):=HS.out.blk.cell (j:=3) (by omega)
 have HS0:Hid (Below W2.heap.size W2 W2):=qhq (qrq _ _)
 refine wpAnyF_takeC 0 [] (v:=?v0m) (by rfl) (by kernel_rfl) (by intro _ _ _ h;exact h) HS0.out (by rfl) ?hy0m ?rest0m
 case hy0m =>
  intro w' hSw
  have szs:=qcq hSw zs
  have szt0:=qcq hSw zt0
  have szt1:=qcq hSw zt1
  have sza:=qcq hSw za
  have szv:=qcq hSw zv
  clear hSw
  go_simp
  try with_reducible rfl
 simp only [Act.put,q1q,q2q,q3q]
 refine wpAnyF_takeC 1 [10] (v:=?v1m) (by rfl) (by kernel_rfl) (by intro _ _ _ h;exact h) HS0.out (by rfl) ?hy1m ?rest1m
 case hy1m =>
  intro w' hSw
  have szs:=qcq hSw zs
  have szt0:=qcq hSw zt0
  have szt1:=qcq hSw zt1
  have sza:=qcq hSw za
  have szv:=qcq hSw zv
  clear hSw
  go_simp
  try with_reducible rfl
 simp only [Act.put,q1q,q2q,q3q]
 refine wpAnyF_takeC 2 [3,4,5,10] (v:=?v2m) (by rfl) (by kernel_rfl) (by intro _ _ _ h;exact h) HS0.out (by rfl) ?hy2m ?rest2m
 case hy2m =>
  intro w' hSw
  have szs:=qcq hSw zs
  have szt0:=qcq hSw zt0
  have szt1:=qcq hSw zt1
  have sza:=qcq hSw za
  have szv:=qcq hSw zv
  clear hSw
  go_simp
  try with_reducible rfl
 simp only [Act.put,q1q,q2q,q3q]
 refine wpAnyF_takeC 3 [4,5,10] (v:=?v3m) (by rfl) (by kernel_rfl) (by intro _ _ _ h;exact h) HS0.out (by rfl) ?hy3m ?rest3m
 case hy3m =>
  intro w' hSw
  have szs:=qcq hSw zs
  have szt0:=qcq hSw zt0
  have szt1:=qcq hSw zt1
  have sza:=qcq hSw za
  have szv:=qcq hSw zv
  clear hSw
  go_simp
  try with_reducible rfl
 simp only [Act.put,q1q,q2q,q3q]
 refine wpAnyF_takeC 4 [5,10] (v:=?v4m) (by rfl) (by kernel_rfl) (by intro _ _ _ h;exact h) HS0.out (by rfl) ?hy4m ?rest4m
 case hy4m =>
  intro w' hSw
  have szs:=qcq hSw zs
  have szt0:=qcq hSw zt0
  have szt1:=qcq hSw zt1
  have sza:=qcq hSw za
  have szv:=qcq hSw zv
  clear hSw
  go_simp
  try with_reducible rfl
 simp only [Act.put,q1q,q2q,q3q]
 refine wpAnyF_takeC 5 [10] (v:=?v5m) (by rfl) (by kernel_rfl) (by intro _ _ _ h;exact h) HS0.out (by rfl) ?hy5m ?rest5m
 case hy5m =>
  intro w' hSw
  have szs:=qcq hSw zs
  have szt0:=qcq hSw zt0
  have szt1:=qcq hSw zt1
  have sza:=qcq hSw za
  have szv:=qcq hSw zv
  clear hSw
  go_simp
  try with_reducible rfl
 simp only [Act.put,q1q,q2q,q3q]
 refine wpAnyF_takeC 6 [7,8,9,10] (v:=?v6m) (by rfl) (by kernel_rfl) (by intro _ _ _ h;exact h) HS0.out (by rfl) ?hy6m ?rest6m
 case hy6m =>
  intro w' hSw
  have szs:=qcq hSw zs
  have szt0:=qcq hSw zt0
  have szt1:=qcq hSw zt1
  have sza:=qcq hSw za
  have szv:=qcq hSw zv
  clear hSw
  go_simp
  try with_reducible rfl
 simp only [Act.put,q1q,q2q,q3q]
 refine wpAnyF_takeC 7 [8,9,10] (v:=?v7m) (by rfl) (by kernel_rfl) (by intro _ _ _ h;exact h) HS0.out (by rfl) ?hy7m ?rest7m
 case hy7m =>
  intro w' hSw
  have szs:=qcq hSw zs
  have szt0:=qcq hSw zt0
  have szt1:=qcq hSw zt1
  have sza:=qcq hSw za
  have szv:=qcq hSw zv
  clear hSw
  go_simp
  try with_reducible rfl
 simp only [Act.put,q1q,q2q,q3q]
 refine wpAnyF_takeC 8 [9,10] (v:=?v8m) (by rfl) (by kernel_rfl) (by intro _ _ _ h;exact h) HS0.out (by rfl) ?hy8m ?rest8m
 case hy8m =>
  intro w' hSw
  have szs:=qcq hSw zs
  have szt0:=qcq hSw zt0
  have szt1:=qcq hSw zt1
  have sza:=qcq hSw za
  have szv:=qcq hSw zv
  clear hSw
  go_simp
  try with_reducible rfl
 simp only [Act.put,q1q,q2q,q3q]
 refine wpAnyF_takeC 9 [10] (v:=?v9m) (by rfl) (by kernel_rfl) (by intro _ _ _ h;exact h) HS0.out (by rfl) ?hy9m ?rest9m
 case hy9m =>
  intro w' hSw
  have szs:=qcq hSw zs
  have szt0:=qcq hSw zt0
  have szt1:=qcq hSw zt1
  have sza:=qcq hSw za
  have szv:=qcq hSw zv
  clear hSw
  go_simp
  try with_reducible rfl
 simp only [Act.put,q1q,q2q,q3q]
 refine wpAnyF_one 10 (by rfl) (by kernel_rfl) rfl ?_
 intro K hK
 go_simp
 refine (impl_Last_calls _ _ _ t L.ss L.place _ HR.out HSM.out HS.out.st.rd).mono ?_;rintro e w3 ⟨rfl,hb⟩
 have HS1:=qhq hb
 have hk:=last_rng HOK.out HSO.out
 obtain ⟨k,hke⟩:∃ k,lastP t L.ss L.place=k:=⟨_,rfl⟩
 rw [hke] at hk ⊢
 have HKE:=qhq hke
 clear hke
 dsimp only
 refine hK.out _ _ (fun _=>HS1.out) ?_
 clear hK K
 replace HMV:=qhq (HMV.out.trans (Mv.of_below hb (by omega)))
 replace HS:=qhq (HS.out.later hb);replace HX:=qhq (HX.out.later hb);clear hb
 refine wpAnyF_one 11 (by rfl) (by kernel_rfl) rfl ?_
 intro K hK
 go_simp
 refine (semove_calls lo s _ _ D L _ _ k _ HS.out hlo hl).mono ?_;rintro e w4 ⟨rfl,⟨vu',hS4⟩,hm⟩
 have HS4:=qhq hS4
 have HX4:=qhq (Blk.mv HX.out hm (by decide))
 replace HMV:=qhq (HMV.out.trans hm)
 dsimp only
 refine hK.out _ _ (fun h=>absurd rfl h) ?_
 clear hK K hS4 hm HS HX HS0 HS1 zs zt0 zt1 za zv
 refine wpAnyF_done (by kernel_rfl) ?_ _
 go_wp2
 go_ret
 have hS9:=HS4.out
 rw [← HKE.out] at hS9
 exact DoPost.plain rfl rfl hS9 HX4.out HMV.out
set_option maxRecDepth 100000 in
set_option maxHeartbeats 4000000 in
theorem do5_calls (lo s sb tb x:Nat) (v1 v2:Value) (t:PTr) (D:Nat → Value) (L:Lk) (vs vu:Value) (a:PAsk) (w:World) (h:SeS w lo s v1 v2 D L vs vu) (he:SeE w s sb tb v1 v2) (hx:Td0 w x)
  (hr:RdTr w v1 v2 t) (hsm:smTr t) (hso:soundP t=true) (hok:LkOk t L) (hlo:lo ≤ s) (hl:L.past.length ≤ 1000000) :
  Calls Tryz.prog 107 #[.agg #[.int .i64 a.op,.int .i64 a.n,.string a.nm,.int .i64 a.stop.kind,.int .i64 a.stop.fn,.int .i64 a.stop.line,.string a.stop.nm],.pointer (some ⟨x,0,none⟩),.pointer (some ⟨sb,0,none⟩),.pointer (some ⟨tb,0,none⟩)] w (DoPost (doMove L (intoP t L.place)) lo s x v1 v2 D w):=by
 obtain ⟨A3,c3,rfl,hn3,hm3⟩:=h.st.cap
 obtain ⟨A4,c4,rfl,hn4,hm4⟩:=h.un.cap
 have HS:=qhq h
 have HE:=qhq he
 have HX:=qhq hx
 have HR:=qhq hr
 have HSM:=qhq hsm
 have HSO:=qhq hso
 have HOK:=qhq hok
 have hlw:lo ≤ w.heap.size:=Nat.le_trans hlo (Nat.le_of_lt h.blk.lt)
 obtain ⟨⟨A1,c1,rfl,hn1,-⟩,⟨vv,⟨A2,c2,rfl,hn2,-⟩,-⟩⟩:=hr
 have hln:=hok.ln
 have hpl:=hok.lo
 have hph:=hok.hi
 have hmn:=(sound_fns (sound_iff hso)).2.2
 have HA0:=qhq (askBox w a)
 have hbw:=qaq (qrq _ w) (.cells #[.int .i64 a.op,.int .i64 a.n,.string a.nm,.int .i64 a.stop.kind,.int .i64 a.stop.fn,.int .i64 a.stop.line,.string a.stop.nm] 47)
 have hsz:(w.alloc (.cells #[.int .i64 a.op,.int .i64 a.n,.string a.nm,.int .i64 a.stop.kind,.int .i64 a.stop.fn,.int .i64 a.stop.line,.string a.stop.nm] 47)).heap.size=w.heap.size + 1:=by simp
 clear h he hx hsm hso hok
 go_enter Tryz.func107,Tryz.ntmps107
 go_upto_region 1 with fail
 generalize World.alloc w _=W at HA0 hbw hsz ⊢
 have HMV:=qhq (Mv.of_below (ts:=eTys) hbw hlw)
 replace HS:=qhq (HS.out.later hbw);replace HE:=qhq (HE.out.later hbw);replace HX:=qhq (HX.out.later hbw);replace HR:=qhq (HR.out.later hbw);clear hbw
 obtain ⟨q,hq⟩:∃ q,w.heap.size=q:=⟨_,rfl⟩
 rw [hq] at HA0 hsz hlw ⊢
 refine wp_region_F 7 (fun w':World=>Below W.drew.heap.size W.drew w') (by kernel_rfl) ?_
 have hszd:W.drew.heap.size=q + 1:=hsz
 replace HMV:=qhq HMV.out.drew
 have hbd:Below W.heap.size W W.drew:=bl_drew (qrq _ W)
 replace HS:=qhq (HS.out.later hbd);replace HE:=qhq (HE.out.later hbd);replace HX:=qhq (HX.out.later hbd);replace HR:=qhq (HR.out.later hbd);replace HA0:=qhq (HA0.out.later hbd);clear hbd
 generalize W.drew=W2 at HMV HS HE HX HR HA0 hszd ⊢
 clear hsz
 have zs:W2.cell? ⟨sb,0,none⟩=some (.pointer (some ⟨s,0,none⟩)):=HE.out.sbx.cell (j:=0) (by omega)
 have zt0:W2.cell? ⟨tb,0,none⟩=some (.slice A1 t.fns.length c1):=HE.out.tbx.cell (j:=0) (by omega)
 have zt1:W2.cell? ⟨tb,1,none⟩=some (.slice A2 t.moms.length c2):=HE.out.tbx.cell (j:=1) (by omega)
 have za:W2.cell? ⟨s,2,none⟩=some (.int .i64 L.place):=HS.out.blk.cell (j:=2) (by omega)
 have HS0:Hid (Below W2.heap.size W2 W2):=qhq (qrq _ _)
 refine wpAnyF_takeC 0 [] (v:=?v0m) (by rfl) (by kernel_rfl) (by intro _ _ _ h;exact h) HS0.out (by rfl) ?hy0m ?rest0m
 case hy0m =>
  intro w' hSw
  have szs:=qcq hSw zs
  have szt0:=qcq hSw zt0
  have szt1:=qcq hSw zt1
  have sza:=qcq hSw za
  clear hSw
  go_simp
  try with_reducible rfl
 simp only [Act.put,q1q,q2q,q3q]
 refine wpAnyF_takeC 1 [6] (v:=?v1m) (by rfl) (by kernel_rfl) (by intro _ _ _ h;exact h) HS0.out (by rfl) ?hy1m ?rest1m
 case hy1m =>
  intro w' hSw
  have szs:=qcq hSw zs
  have szt0:=qcq hSw zt0
  have szt1:=qcq hSw zt1
  have sza:=qcq hSw za
  clear hSw
  go_simp
  try with_reducible rfl
 simp only [Act.put,q1q,q2q,q3q]
 refine wpAnyF_takeC 2 [3,4,5,6] (v:=?v2m) (by rfl) (by kernel_rfl) (by intro _ _ _ h;exact h) HS0.out (by rfl) ?hy2m ?rest2m
 case hy2m =>
  intro w' hSw
  have szs:=qcq hSw zs
  have szt0:=qcq hSw zt0
  have szt1:=qcq hSw zt1
  have sza:=qcq hSw za
  clear hSw
  go_simp
  try with_reducible rfl
 simp only [Act.put,q1q,q2q,q3q]
 refine wpAnyF_takeC 3 [4,5,6] (v:=?v3m) (by rfl) (by kernel_rfl) (by intro _ _ _ h;exact h) HS0.out (by rfl) ?hy3m ?rest3m
 case hy3m =>
  intro w' hSw
  have szs:=qcq hSw zs
  have szt0:=qcq hSw zt0
  have szt1:=qcq hSw zt1
  have sza:=qcq hSw za
  clear hSw
  go_simp
  try with_reducible rfl
 simp only [Act.put,q1q,q2q,q3q]
 refine wpAnyF_takeC 4 [5,6] (v:=?v4m) (by rfl) (by kernel_rfl) (by intro _ _ _ h;exact h) HS0.out (by rfl) ?hy4m ?rest4m
 case hy4m =>
  intro w' hSw
  have szs:=qcq hSw zs
  have szt0:=qcq hSw zt0
  have szt1:=qcq hSw zt1
  have sza:=qcq hSw za
  clear hSw
  go_simp
  try with_reducible rfl
 simp only [Act.put,q1q,q2q,q3q]
 refine wpAnyF_takeC 5 [6] (v:=?v5m) (by rfl) (by kernel_rfl) (by intro _ _ _ h;exact h) HS0.out (by rfl) ?hy5m ?rest5m
 case hy5m =>
  intro w' hSw
  have szs:=qcq hSw zs
  have szt0:=qcq hSw zt0
  have szt1:=qcq hSw zt1
  have sza:=qcq hSw za
  clear hSw
  go_simp
  try with_reducible rfl
 simp only [Act.put,q1q,q2q,q3q]
 refine wpAnyF_one 6 (by rfl) (by kernel_rfl) rfl ?_
 intro K hK
 go_simp
 refine (impl_Into_calls _ _ t L.place _ HR.out HSM.out).mono ?_;rintro e w3 ⟨rfl,hb⟩
 have HS1:=qhq hb
 have hk:-1 ≤ intoP t L.place ∧ intoP t L.place ≤ t.moms.length:=seek_rng (HOK.out.good HSO.out) _
 obtain ⟨k,hke⟩:∃ k,intoP t L.place=k:=⟨_,rfl⟩
 rw [hke] at hk ⊢
 have HKE:=qhq hke
 clear hke
 dsimp only
 refine hK.out _ _ (fun _=>HS1.out) ?_
 clear hK K
 replace HMV:=qhq (HMV.out.trans (Mv.of_below hb (by omega)))
 replace HS:=qhq (HS.out.later hb);replace HX:=qhq (HX.out.later hb);clear hb
 refine wpAnyF_one 7 (by rfl) (by kernel_rfl) rfl ?_
 intro K hK
 go_simp
 refine (semove_calls lo s _ _ D L _ _ k _ HS.out hlo hl).mono ?_;rintro e w4 ⟨rfl,⟨vu',hS4⟩,hm⟩
 have HS4:=qhq hS4
 have HX4:=qhq (Blk.mv HX.out hm (by decide))
 replace HMV:=qhq (HMV.out.trans hm)
 dsimp only
 refine hK.out _ _ (fun h=>absurd rfl h) ?_
 clear hK K hS4 hm HS HX HS0 HS1 zs zt0 zt1 za
 refine wpAnyF_done (by kernel_rfl) ?_ _
 go_wp2
 go_ret
 have hS9:=HS4.out
 rw [← HKE.out] at hS9
 exact DoPost.plain rfl rfl hS9 HX4.out HMV.out
set_option maxRecDepth 100000 in
set_option maxHeartbeats 4000000 in
theorem do6_calls (lo s sb tb x:Nat) (v1 v2:Value) (t:PTr) (D:Nat → Value) (L:Lk) (vs vu:Value) (a:PAsk) (w:World) (h:SeS w lo s v1 v2 D L vs vu) (he:SeE w s sb tb v1 v2) (hx:Td0 w x)
  (hr:RdTr w v1 v2 t) (hsm:smTr t) (hso:soundP t=true) (hok:LkOk t L) (hlo:lo ≤ s) (hl:L.past.length ≤ 1000000) :
  Calls Tryz.prog 108 #[.agg #[.int .i64 a.op,.int .i64 a.n,.string a.nm,.int .i64 a.stop.kind,.int .i64 a.stop.fn,.int .i64 a.stop.line,.string a.stop.nm],.pointer (some ⟨x,0,none⟩),.pointer (some ⟨sb,0,none⟩),.pointer (some ⟨tb,0,none⟩)] w (DoPost (doMove L (overP t L.place)) lo s x v1 v2 D w):=by
 obtain ⟨A3,c3,rfl,hn3,hm3⟩:=h.st.cap
 obtain ⟨A4,c4,rfl,hn4,hm4⟩:=h.un.cap
 have HS:=qhq h
 have HE:=qhq he
 have HX:=qhq hx
 have HR:=qhq hr
 have HSM:=qhq hsm
 have HSO:=qhq hso
 have HOK:=qhq hok
 have hlw:lo ≤ w.heap.size:=Nat.le_trans hlo (Nat.le_of_lt h.blk.lt)
 obtain ⟨⟨A1,c1,rfl,hn1,-⟩,⟨vv,⟨A2,c2,rfl,hn2,-⟩,-⟩⟩:=hr
 have hln:=hok.ln
 have hpl:=hok.lo
 have hph:=hok.hi
 have hmn:=(sound_fns (sound_iff hso)).2.2
 have HA0:=qhq (askBox w a)
 have hbw:=qaq (qrq _ w) (.cells #[.int .i64 a.op,.int .i64 a.n,.string a.nm,.int .i64 a.stop.kind,.int .i64 a.stop.fn,.int .i64 a.stop.line,.string a.stop.nm] 47)
 have hsz:(w.alloc (.cells #[.int .i64 a.op,.int .i64 a.n,.string a.nm,.int .i64 a.stop.kind,.int .i64 a.stop.fn,.int .i64 a.stop.line,.string a.stop.nm] 47)).heap.size=w.heap.size + 1:=by simp
 clear h he hx hsm hso hok
 go_enter Tryz.func108,Tryz.ntmps108
 go_upto_region 1 with fail
 generalize World.alloc w _=W at HA0 hbw hsz ⊢
 have HMV:=qhq (Mv.of_below (ts:=eTys) hbw hlw)
 replace HS:=qhq (HS.out.later hbw);replace HE:=qhq (HE.out.later hbw);replace HX:=qhq (HX.out.later hbw);replace HR:=qhq (HR.out.later hbw);clear hbw
 obtain ⟨q,hq⟩:∃ q,w.heap.size=q:=⟨_,rfl⟩
 rw [hq] at HA0 hsz hlw ⊢
 refine wp_region_F 7 (fun w':World=>Below W.drew.heap.size W.drew w') (by kernel_rfl) ?_
 have hszd:W.drew.heap.size=q + 1:=hsz
 replace HMV:=qhq HMV.out.drew
 have hbd:Below W.heap.size W W.drew:=bl_drew (qrq _ W)
 replace HS:=qhq (HS.out.later hbd);replace HE:=qhq (HE.out.later hbd);replace HX:=qhq (HX.out.later hbd);replace HR:=qhq (HR.out.later hbd);replace HA0:=qhq (HA0.out.later hbd);clear hbd
 generalize W.drew=W2 at HMV HS HE HX HR HA0 hszd ⊢
 clear hsz
 have zs:W2.cell? ⟨sb,0,none⟩=some (.pointer (some ⟨s,0,none⟩)):=HE.out.sbx.cell (j:=0) (by omega)
 have zt0:W2.cell? ⟨tb,0,none⟩=some (.slice A1 t.fns.length c1):=HE.out.tbx.cell (j:=0) (by omega)
 have zt1:W2.cell? ⟨tb,1,none⟩=some (.slice A2 t.moms.length c2):=HE.out.tbx.cell (j:=1) (by omega)
 have za:W2.cell? ⟨s,2,none⟩=some (.int .i64 L.place):=HS.out.blk.cell (j:=2) (by omega)
 have HS0:Hid (Below W2.heap.size W2 W2):=qhq (qrq _ _)
 refine wpAnyF_takeC 0 [] (v:=?v0m) (by rfl) (by kernel_rfl) (by intro _ _ _ h;exact h) HS0.out (by rfl) ?hy0m ?rest0m
 case hy0m =>
  intro w' hSw
  have szs:=qcq hSw zs
  have szt0:=qcq hSw zt0
  have szt1:=qcq hSw zt1
  have sza:=qcq hSw za
  clear hSw
  go_simp
  try with_reducible rfl
 simp only [Act.put,q1q,q2q,q3q]
 refine wpAnyF_takeC 1 [6] (v:=?v1m) (by rfl) (by kernel_rfl) (by intro _ _ _ h;exact h) HS0.out (by rfl) ?hy1m ?rest1m
 case hy1m =>
  intro w' hSw
  have szs:=qcq hSw zs
  have szt0:=qcq hSw zt0
  have szt1:=qcq hSw zt1
  have sza:=qcq hSw za
  clear hSw
  go_simp
  try with_reducible rfl
 simp only [Act.put,q1q,q2q,q3q]
 refine wpAnyF_takeC 2 [3,4,5,6] (v:=?v2m) (by rfl) (by kernel_rfl) (by intro _ _ _ h;exact h) HS0.out (by rfl) ?hy2m ?rest2m
 case hy2m =>
  intro w' hSw
  have szs:=qcq hSw zs
  have szt0:=qcq hSw zt0
  have szt1:=qcq hSw zt1
  have sza:=qcq hSw za
  clear hSw
  go_simp
  try with_reducible rfl
 simp only [Act.put,q1q,q2q,q3q]
 refine wpAnyF_takeC 3 [4,5,6] (v:=?v3m) (by rfl) (by kernel_rfl) (by intro _ _ _ h;exact h) HS0.out (by rfl) ?hy3m ?rest3m
 case hy3m =>
  intro w' hSw
  have szs:=qcq hSw zs
  have szt0:=qcq hSw zt0
  have szt1:=qcq hSw zt1
  have sza:=qcq hSw za
  clear hSw
  go_simp
  try with_reducible rfl
 simp only [Act.put,q1q,q2q,q3q]
 refine wpAnyF_takeC 4 [5,6] (v:=?v4m) (by rfl) (by kernel_rfl) (by intro _ _ _ h;exact h) HS0.out (by rfl) ?hy4m ?rest4m
 case hy4m =>
  intro w' hSw
  have szs:=qcq hSw zs
  have szt0:=qcq hSw zt0
  have szt1:=qcq hSw zt1
  have sza:=qcq hSw za
  clear hSw
  go_simp
  try with_reducible rfl
 simp only [Act.put,q1q,q2q,q3q]
 refine wpAnyF_takeC 5 [6] (v:=?v5m) (by rfl) (by kernel_rfl) (by intro _ _ _ h;exact h) HS0.out (by rfl) ?hy5m ?rest5m
 case hy5m =>
  intro w' hSw
  have szs:=qcq hSw zs
  have szt0:=qcq hSw zt0
  have szt1:=qcq hSw zt1
  have sza:=qcq hSw za
  clear hSw
  go_simp
  try with_reducible rfl
 simp only [Act.put,q1q,q2q,q3q]
 refine wpAnyF_one 6 (by rfl) (by kernel_rfl) rfl ?_
 intro K hK
 go_simp
 refine (impl_Over_calls _ _ t L.place _ HR.out HSM.out).mono ?_;rintro e w3 ⟨rfl,hb⟩
 have HS1:=qhq hb
 have hk:-1 ≤ overP t L.place ∧ overP t L.place ≤ t.moms.length:=seek_rng (HOK.out.good HSO.out) _
 obtain ⟨k,hke⟩:∃ k,overP t L.place=k:=⟨_,rfl⟩
 rw [hke] at hk ⊢
 have HKE:=qhq hke
 clear hke
 dsimp only
 refine hK.out _ _ (fun _=>HS1.out) ?_
 clear hK K
 replace HMV:=qhq (HMV.out.trans (Mv.of_below hb (by omega)))
 replace HS:=qhq (HS.out.later hb);replace HX:=qhq (HX.out.later hb);clear hb
 refine wpAnyF_one 7 (by rfl) (by kernel_rfl) rfl ?_
 intro K hK
 go_simp
 refine (semove_calls lo s _ _ D L _ _ k _ HS.out hlo hl).mono ?_;rintro e w4 ⟨rfl,⟨vu',hS4⟩,hm⟩
 have HS4:=qhq hS4
 have HX4:=qhq (Blk.mv HX.out hm (by decide))
 replace HMV:=qhq (HMV.out.trans hm)
 dsimp only
 refine hK.out _ _ (fun h=>absurd rfl h) ?_
 clear hK K hS4 hm HS HX HS0 HS1 zs zt0 zt1 za
 refine wpAnyF_done (by kernel_rfl) ?_ _
 go_wp2
 go_ret
 have hS9:=HS4.out
 rw [← HKE.out] at hS9
 exact DoPost.plain rfl rfl hS9 HX4.out HMV.out
set_option maxRecDepth 100000 in
set_option maxHeartbeats 4000000 in
theorem do7_calls (lo s sb tb x:Nat) (v1 v2:Value) (t:PTr) (D:Nat → Value) (L:Lk) (vs vu:Value) (a:PAsk) (w:World) (h:SeS w lo s v1 v2 D L vs vu) (he:SeE w s sb tb v1 v2) (hx:Td0 w x)
  (hr:RdTr w v1 v2 t) (hsm:smTr t) (hso:soundP t=true) (hok:LkOk t L) (hlo:lo ≤ s) (hl:L.past.length ≤ 1000000) :
  Calls Tryz.prog 110 #[.agg #[.int .i64 a.op,.int .i64 a.n,.string a.nm,.int .i64 a.stop.kind,.int .i64 a.stop.fn,.int .i64 a.stop.line,.string a.stop.nm],.pointer (some ⟨x,0,none⟩),.pointer (some ⟨sb,0,none⟩),.pointer (some ⟨tb,0,none⟩)] w (DoPost (doMove L (outP t L.place)) lo s x v1 v2 D w):=by
 obtain ⟨A3,c3,rfl,hn3,hm3⟩:=h.st.cap
 obtain ⟨A4,c4,rfl,hn4,hm4⟩:=h.un.cap
 have HS:=qhq h
 have HE:=qhq he
 have HX:=qhq hx
 have HR:=qhq hr
 have HSM:=qhq hsm
 have HSO:=qhq hso
 have HOK:=qhq hok
 have hlw:lo ≤ w.heap.size:=Nat.le_trans hlo (Nat.le_of_lt h.blk.lt)
 obtain ⟨⟨A1,c1,rfl,hn1,-⟩,⟨vv,⟨A2,c2,rfl,hn2,-⟩,-⟩⟩:=hr
 have hln:=hok.ln
 have hpl:=hok.lo
 have hph:=hok.hi
 have hmn:=(sound_fns (sound_iff hso)).2.2
 have HA0:=qhq (askBox w a)
 have hbw:=qaq (qrq _ w) (.cells #[.int .i64 a.op,.int .i64 a.n,.string a.nm,.int .i64 a.stop.kind,.int .i64 a.stop.fn,.int .i64 a.stop.line,.string a.stop.nm] 47)
 have hsz:(w.alloc (.cells #[.int .i64 a.op,.int .i64 a.n,.string a.nm,.int .i64 a.stop.kind,.int .i64 a.stop.fn,.int .i64 a.stop.line,.string a.stop.nm] 47)).heap.size=w.heap.size + 1:=by simp
 clear h he hx hsm hso hok
 go_enter Tryz.func110,Tryz.ntmps110
 go_upto_region 1 with fail
 generalize World.alloc w _=W at HA0 hbw hsz ⊢
 have HMV:=qhq (Mv.of_below (ts:=eTys) hbw hlw)
 replace HS:=qhq (HS.out.later hbw);replace HE:=qhq (HE.out.later hbw);replace HX:=qhq (HX.out.later hbw);replace HR:=qhq (HR.out.later hbw);clear hbw
 obtain ⟨q,hq⟩:∃ q,w.heap.size=q:=⟨_,rfl⟩
 rw [hq] at HA0 hsz hlw ⊢
 refine wp_region_F 7 (fun w':World=>Below W.drew.heap.size W.drew w') (by kernel_rfl) ?_
 have hszd:W.drew.heap.size=q + 1:=hsz
 replace HMV:=qhq HMV.out.drew
 have hbd:Below W.heap.size W W.drew:=bl_drew (qrq _ W)
 replace HS:=qhq (HS.out.later hbd);replace HE:=qhq (HE.out.later hbd);replace HX:=qhq (HX.out.later hbd);replace HR:=qhq (HR.out.later hbd);replace HA0:=qhq (HA0.out.later hbd);clear hbd
 generalize W.drew=W2 at HMV HS HE HX HR HA0 hszd ⊢
 clear hsz
 have zs:W2.cell? ⟨sb,0,none⟩=some (.pointer (some ⟨s,0,none⟩)):=HE.out.sbx.cell (j:=0) (by omega)
 have zt0:W2.cell? ⟨tb,0,none⟩=some (.slice A1 t.fns.length c1):=HE.out.tbx.cell (j:=0) (by omega)
 have zt1:W2.cell? ⟨tb,1,none⟩=some (.slice A2 t.moms.length c2):=HE.out.tbx.cell (j:=1) (by omega)
 have za:W2.cell? ⟨s,2,none⟩=some (.int .i64 L.place):=HS.out.blk.cell (j:=2) (by omega)
 have HS0:Hid (Below W2.heap.size W2 W2):=qhq (qrq _ _)
 refine wpAnyF_takeC 0 [] (v:=?v0m) (by rfl) (by kernel_rfl) (by intro _ _ _ h;exact h) HS0.out (by rfl) ?hy0m ?rest0m
 case hy0m =>
  intro w' hSw
  have szs:=qcq hSw zs
  have szt0:=qcq hSw zt0
  have szt1:=qcq hSw zt1
  have sza:=qcq hSw za
  clear hSw
  go_simp
  try with_reducible rfl
 simp only [Act.put,q1q,q2q,q3q]
 refine wpAnyF_takeC 1 [6] (v:=?v1m) (by rfl) (by kernel_rfl) (by intro _ _ _ h;exact h) HS0.out (by rfl) ?hy1m ?rest1m
 case hy1m =>
  intro w' hSw
  have szs:=qcq hSw zs
  have szt0:=qcq hSw zt0
  have szt1:=qcq hSw zt1
  have sza:=qcq hSw za
  clear hSw
  go_simp
  try with_reducible rfl
 simp only [Act.put,q1q,q2q,q3q]
 refine wpAnyF_takeC 2 [3,4,5,6] (v:=?v2m) (by rfl) (by kernel_rfl) (by intro _ _ _ h;exact h) HS0.out (by rfl) ?hy2m ?rest2m
 case hy2m =>
  intro w' hSw
  have szs:=qcq hSw zs
  have szt0:=qcq hSw zt0
  have szt1:=qcq hSw zt1
  have sza:=qcq hSw za
  clear hSw
  go_simp
  try with_reducible rfl
 simp only [Act.put,q1q,q2q,q3q]
 refine wpAnyF_takeC 3 [4,5,6] (v:=?v3m) (by rfl) (by kernel_rfl) (by intro _ _ _ h;exact h) HS0.out (by rfl) ?hy3m ?rest3m
 case hy3m =>
  intro w' hSw
  have szs:=qcq hSw zs
  have szt0:=qcq hSw zt0
  have szt1:=qcq hSw zt1
  have sza:=qcq hSw za
  clear hSw
  go_simp
  try with_reducible rfl
 simp only [Act.put,q1q,q2q,q3q]
 refine wpAnyF_takeC 4 [5,6] (v:=?v4m) (by rfl) (by kernel_rfl) (by intro _ _ _ h;exact h) HS0.out (by rfl) ?hy4m ?rest4m
 case hy4m =>
  intro w' hSw
  have szs:=qcq hSw zs
  have szt0:=qcq hSw zt0
  have szt1:=qcq hSw zt1
  have sza:=qcq hSw za
  clear hSw
  go_simp
  try with_reducible rfl
 simp only [Act.put,q1q,q2q,q3q]
 refine wpAnyF_takeC 5 [6] (v:=?v5m) (by rfl) (by kernel_rfl) (by intro _ _ _ h;exact h) HS0.out (by rfl) ?hy5m ?rest5m
 case hy5m =>
  intro w' hSw
  have szs:=qcq hSw zs
  have szt0:=qcq hSw zt0
  have szt1:=qcq hSw zt1
  have sza:=qcq hSw za
  clear hSw
  go_simp
  try with_reducible rfl
 simp only [Act.put,q1q,q2q,q3q]
 refine wpAnyF_one 6 (by rfl) (by kernel_rfl) rfl ?_
 intro K hK
 go_simp
 refine (impl_Out_calls _ _ t L.place _ HR.out HSM.out).mono ?_;rintro e w3 ⟨rfl,hb⟩
 have HS1:=qhq hb
 have hk:-1 ≤ outP t L.place ∧ outP t L.place ≤ t.moms.length:=seek_rng (HOK.out.good HSO.out) _
 obtain ⟨k,hke⟩:∃ k,outP t L.place=k:=⟨_,rfl⟩
 rw [hke] at hk ⊢
 have HKE:=qhq hke
 clear hke
 dsimp only
 refine hK.out _ _ (fun _=>HS1.out) ?_
 clear hK K
 replace HMV:=qhq (HMV.out.trans (Mv.of_below hb (by omega)))
 replace HS:=qhq (HS.out.later hb);replace HX:=qhq (HX.out.later hb);clear hb
 refine wpAnyF_one 7 (by rfl) (by kernel_rfl) rfl ?_
 intro K hK
 go_simp
 refine (semove_calls lo s _ _ D L _ _ k _ HS.out hlo hl).mono ?_;rintro e w4 ⟨rfl,⟨vu',hS4⟩,hm⟩
 have HS4:=qhq hS4
 have HX4:=qhq (Blk.mv HX.out hm (by decide))
 replace HMV:=qhq (HMV.out.trans hm)
 dsimp only
 refine hK.out _ _ (fun h=>absurd rfl h) ?_
 clear hK K hS4 hm HS HX HS0 HS1 zs zt0 zt1 za
 refine wpAnyF_done (by kernel_rfl) ?_ _
 go_wp2
 go_ret
 have hS9:=HS4.out
 rw [← HKE.out] at hS9
 exact DoPost.plain rfl rfl hS9 HX4.out HMV.out
set_option maxRecDepth 100000 in
set_option maxHeartbeats 4000000 in
theorem do9_calls (lo s sb tb x:Nat) (v1 v2:Value) (t:PTr) (D:Nat → Value) (L:Lk) (vs vu:Value) (a:PAsk) (w:World) (h:SeS w lo s v1 v2 D L vs vu) (he:SeE w s sb tb v1 v2) (hx:Td0 w x)
  (hr:RdTr w v1 v2 t) (hsm:smTr t) (hso:soundP t=true) (hok:LkOk t L) (hlo:lo ≤ s) (hl:L.past.length ≤ 1000000) :
  Calls Tryz.prog 113 #[.agg #[.int .i64 a.op,.int .i64 a.n,.string a.nm,.int .i64 a.stop.kind,.int .i64 a.stop.fn,.int .i64 a.stop.line,.string a.stop.nm],.pointer (some ⟨x,0,none⟩),.pointer (some ⟨tb,0,none⟩),.pointer (some ⟨sb,0,none⟩)] w (DoPost (doTo t L a) lo s x v1 v2 D w):=by
 obtain ⟨A3,c3,rfl,hn3,hm3⟩:=h.st.cap
 obtain ⟨A4,c4,rfl,hn4,hm4⟩:=h.un.cap
 have HS:=qhq h
 have HE:=qhq he
 have HX:=qhq hx
 have HR:=qhq hr
 have HSM:=qhq hsm
 have HSO:=qhq hso
 have HOK:=qhq hok
 have hlw:lo ≤ w.heap.size:=Nat.le_trans hlo (Nat.le_of_lt h.blk.lt)
 obtain ⟨⟨A1,c1,rfl,hn1,-⟩,⟨vv,⟨A2,c2,rfl,hn2,-⟩,-⟩⟩:=hr
 have hln:=hok.ln
 have hpl:=hok.lo
 have hph:=hok.hi
 have hmn:=(sound_fns (sound_iff hso)).2.2
 have HA0:=qhq (askBox w a)
 have hbw:=qaq (qrq _ w) (.cells #[.int .i64 a.op,.int .i64 a.n,.string a.nm,.int .i64 a.stop.kind,.int .i64 a.stop.fn,.int .i64 a.stop.line,.string a.stop.nm] 47)
 have hsz:(w.alloc (.cells #[.int .i64 a.op,.int .i64 a.n,.string a.nm,.int .i64 a.stop.kind,.int .i64 a.stop.fn,.int .i64 a.stop.line,.string a.stop.nm] 47)).heap.size=w.heap.size + 1:=by simp
 clear h he hx hsm hso hok
 go_enter Tryz.func113,Tryz.ntmps113
 go_upto_region 1 with fail
 generalize World.alloc w _=W at HA0 hbw hsz ⊢
 have HMV:=qhq (Mv.of_below (ts:=eTys) hbw hlw)
 replace HS:=qhq (HS.out.later hbw);replace HE:=qhq (HE.out.later hbw);replace HX:=qhq (HX.out.later hbw);replace HR:=qhq (HR.out.later hbw);clear hbw
 obtain ⟨q,hq⟩:∃ q,w.heap.size=q:=⟨_,rfl⟩
 rw [hq] at HA0 hsz hlw ⊢
 have zs:W.cell? ⟨sb,0,none⟩=some (.pointer (some ⟨s,0,none⟩)):=HE.out.sbx.cell (j:=0) (by omega)
 have zt1:W.cell? ⟨tb,1,none⟩=some (.slice A2 t.moms.length c2):=HE.out.tbx.cell (j:=1) (by omega)
 have zn:W.cell? ⟨q,1,none⟩=some (.int .i64 a.n):=HA0.out.cell (j:=1) (by omega)
 by_cases hc:(t.moms.length:Int) < a.n
 ·go_wp2_with fail
  go_ret
  unfold doTo
  rw [if_pos (by omega)]
  exact DoPost.plain rfl rfl HS.out HX.out HMV.out
 ·go_wp2_with fail
  refine (semove_calls lo s _ _ D L _ _ a.n _ HS.out hlo hl).mono ?_;rintro e w4 ⟨rfl,⟨vu',hS4⟩,hm⟩
  have HS4:=qhq hS4
  have HX4:=qhq (Blk.mv HX.out hm (by decide))
  replace HMV:=qhq (HMV.out.trans hm)
  clear hS4 hm
  go_wp2
  go_ret
  unfold doTo
  rw [if_neg (by omega)]
  exact DoPost.plain rfl rfl HS4.out HX4.out HMV.out
end Go.Proofs.YtcklnjjbhngbcaaGreatDoor
