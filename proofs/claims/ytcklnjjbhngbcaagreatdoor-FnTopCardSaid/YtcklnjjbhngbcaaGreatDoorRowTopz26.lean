/- Lemmas and contracts of functions that the theorem of this claim leans on (texts E4). -/
import Derived.Test.YtcklnjjbhngbcaaGreatDoorRowTopz00
import Derived.Deep.RegionHeld3
import Derived.Test.YtcklnjjbhngbcaaGreatDoorRowTopz25
import Derived.Test.YtcklnjjbhngbcaaGreatDoorRowTopz16
namespace Go.Proofs.YtcklnjjbhngbcaaGreatDoor
open Go.RowKit Go.Proofs.Lens
set_option linter.unusedSimpArgs false
section
variable {w : World} {lo s x b : Nat} {v1 v2 vs vu : Value} {D : Nat → Value} {L : Lk} {F : Nat → Value}
theorem UnD.take {past:List Int} {n m c:Nat} (h:UnD w lo s past (.slice (some ⟨b,0,none⟩) n c)) (hn:past.length=n) (hm:m ≤ n):UnD w lo s (past.take m) (.slice (some ⟨b,0,none⟩) m c):=by
 subst hn
 obtain ⟨fb,sm,hO,hB⟩:=h
 have hl:(past.take m).length=m:=by rw [List.length_take];omega
 refine ⟨fb,sm,by rw [hl];exact hO.take hm,fun i hi=>?_⟩
 rw [hl] at hi
 have e:elt (past.take m) i=elt past i:=by rw [elt_eq (by omega),List.getElem_take,elt_eq (by omega)]
 rw [e]
 exact hB i (by omega)
theorem SeS.setUn {past:List Int} {u:Value} (h:SeS w lo s v1 v2 D L vs vu) (hU:UnD w lo s past u):SeS (w.setCell ⟨s,4,none⟩ u) lo s v1 v2 D ⟨L.place,L.ss,past⟩ vs u :=
 ⟨(h.blk.set (j:=4) (by omega) _).congr fun j hj=>by
  match j,hj with
  | 0,_=>rfl
  | 1,_=>rfl
  | 2,_=>rfl
  | 3,_=>rfl
  | 4,_=>rfl
  | j + 5,_=>rfl,h.st.other h.blk (by decide) _ _,hU.far h.blk (by decide) (by decide) (by decide) _ _⟩
theorem SeS.ofSt {k:Int} {past:List Int} {ss:List PStop} {u:Value} (h:Blk w s 94 19 (seF v1 v2 k vs vu D)) (hU:UnD w lo s past vu) (hO:OwR w lo 45 4 ss.length (stopC ss) u):SeS (w.setCell ⟨s,3,none⟩ u) lo s v1 v2 D ⟨k,ss,past⟩ u vu :=
 ⟨(h.set (j:=3) (by omega) _).congr fun j hj=>by
  match j,hj with
  | 0,_=>rfl
  | 1,_=>rfl
  | 2,_=>rfl
  | 3,_=>rfl
  | 4,_=>rfl
  | j + 5,_=>rfl,hO.other h (by decide) _ _,hU.far h (by decide) (by decide) (by decide) _ _⟩
theorem SeS.farX (h:SeS w lo s v1 v2 D L vs vu) (hX:Blk w x 38 6 F) (j:Nat) (u:Value):SeS (w.setCell ⟨x,j,none⟩ u) lo s v1 v2 D L vs vu :=
 ⟨h.blk.far (h.blk.ne hX (by decide)) _,h.st.other hX (by decide) _ _,h.un.far hX (by decide) (by decide) (by decide) _ _⟩
theorem SeE.farX {sb tb:Nat} (h:SeE w s sb tb v1 v2) (hX:Blk w x 38 6 F) (j:Nat) (u:Value):SeE (w.setCell ⟨x,j,none⟩ u) s sb tb v1 v2 :=
 ⟨h.sbx.far (h.sbx.ne hX (by decide)) _,h.tbx.far (h.tbx.ne hX (by decide)) _⟩
end
theorem i_stopE:(Tryz.prog.info? 45).map (fun i=>(i.zero,i.size,i.bytes))=some (some (.agg #[.int .i64 0,.int .i64 0,.int .i64 0,.string ⟨#[]⟩]),4,40):=by kernel_rfl
theorem stopC_old (ss:List PStop) (p:PStop) {i:Nat} (hi:i < ss.length) (j:Nat):stopC ss i j=stopC (ss ++ [p]) i j:=by
 unfold stopC
 rw [elt_app _ _ hi]
theorem stopC_new (ss:List PStop) (p:PStop) {j:Nat} (hj:j < 4):[Value.int .i64 p.kind,.int .i64 p.fn,.int .i64 p.line,.string p.nm][j]?=some (stopC (ss ++ [p]) ss.length j):=by
 unfold stopC
 rw [elt_last]
 match j,hj with
 | 0,_=>rfl
 | 1,_=>rfl
 | 2,_=>rfl
 | 3,_=>rfl
theorem undo_calls (fb sm s:Nat) (k old:Int) (w:World) {F:Nat → Value} (h1:Blk w fb 3 1 (fun _=>.int .i64 k)) (h2:Blk w sm 83 1 (fun _=>ptrB s)) (h3:Blk w s 94 19 F) (ho:F 2=.int .i64 old) :
  Calls Tryz.prog 144 #[.pointer (some ⟨fb,0,none⟩),.pointer (some ⟨sm,0,none⟩)] w fun e w'=>e=.returned (.tuple #[]) ∧ w'=w.setCell ⟨s,2,none⟩ (.int .i64 k):=by
 have x0:w.cell? ⟨fb,0,none⟩=some (.int .i64 k):=h1.cell (j:=0) (by omega)
 have x1:w.cell? ⟨sm,0,none⟩=some (.pointer (some ⟨s,0,none⟩)):=h2.cell (j:=0) (by omega)
 have x2:w.cell? ⟨s,2,none⟩=some (.int .i64 old):=(h3.cell (j:=2) (by omega)).trans (by rw [ho])
 have x3:=h3.free 2
 clear h1 h2 h3 ho
 go_enter Tryz.func144,Tryz.ntmps144
 go_wp2
 go_end0
 exact ⟨rfl,rfl⟩
set_option maxRecDepth 100000 in
set_option maxHeartbeats 4000000 in
theorem do8_calls (lo s sb tb x:Nat) (v1 v2:Value) (t:PTr) (D:Nat → Value) (L:Lk) (vs vu:Value) (a:PAsk) (w:World) (h:SeS w lo s v1 v2 D L vs vu) (he:SeE w s sb tb v1 v2) (hx:Td0 w x)
  (hr:RdTr w v1 v2 t) (hsm:smTr t) (hso:soundP t=true) (hok:LkOk t L) (hlo:lo ≤ s) (hl:L.past.length ≤ 1000000) :
  Calls Tryz.prog 112 #[.agg #[.int .i64 a.op,.int .i64 a.n,.string a.nm,.int .i64 a.stop.kind,.int .i64 a.stop.fn,.int .i64 a.stop.line,.string a.stop.nm],.pointer (some ⟨x,0,none⟩),.pointer (some ⟨sb,0,none⟩)] w (DoPost (doUndo L) lo s x v1 v2 D w):=by
 obtain ⟨A3,c3,rfl,hn3,hm3⟩:=h.st.cap
 obtain ⟨A4,c4,rfl,hn4,hm4⟩:=h.un.cap
 have HS:=qhq h
 have HE:=qhq he
 have HX:=qhq hx
 have HR:=qhq hr
 have HSM:=qhq hsm
 have HSO:=qhq hso
 have HOK:=qhq hok
 have hlw:lo ≤ w.heap.size:=Nat.le_trans hlo (Nat.le_of_lt h.blk.lt)
 obtain ⟨⟨A1,c1,rfl,hn1,-⟩,⟨vv,⟨A2,c2,rfl,hn2,-⟩,-⟩⟩:=hr
 have hln:=hok.ln
 have hpl:=hok.lo
 have hph:=hok.hi
 have hmn:=(sound_fns (sound_iff hso)).2.2
 have HA0:=qhq (askBox w a)
 have hbw:=qaq (qrq _ w) (.cells #[.int .i64 a.op,.int .i64 a.n,.string a.nm,.int .i64 a.stop.kind,.int .i64 a.stop.fn,.int .i64 a.stop.line,.string a.stop.nm] 47)
 have hsz:(w.alloc (.cells #[.int .i64 a.op,.int .i64 a.n,.string a.nm,.int .i64 a.stop.kind,.int .i64 a.stop.fn,.int .i64 a.stop.line,.string a.stop.nm] 47)).heap.size=w.heap.size + 1:=by simp
 clear h he hx hsm hso hok
 go_enter Tryz.func112,Tryz.ntmps112
 go_upto_region 1 with fail
 generalize World.alloc w _=W at HA0 hbw hsz ⊢
 have HMV:=qhq (Mv.of_below (ts:=eTys) hbw hlw)
 replace HS:=qhq (HS.out.later hbw);replace HE:=qhq (HE.out.later hbw);replace HX:=qhq (HX.out.later hbw);replace HR:=qhq (HR.out.later hbw);clear hbw
 obtain ⟨q,hq⟩:∃ q,w.heap.size=q:=⟨_,rfl⟩
 rw [hq] at HA0 hsz hlw ⊢
 have zs:W.cell? ⟨sb,0,none⟩=some (.pointer (some ⟨s,0,none⟩)):=HE.out.sbx.cell (j:=0) (by omega)
 have zu:W.cell? ⟨s,4,none⟩=some (.slice A4 L.past.length c4):=HS.out.blk.cell (j:=4) (by omega)
 obtain ⟨n,hn0⟩:∃ n,L.past.length=n:=⟨_,rfl⟩
 by_cases hc:n=0
 ·have hci:((L.past.length:Nat):Int)=0:=by omega
  go_wp2_with fail
  go_ret
  unfold doUndo
  rw [if_pos (by omega)]
  exact DoPost.plain rfl rfl HS.out HX.out HMV.out
 ·obtain ⟨fb,sm,hO,hB⟩:=HS.out.un
  rw [hn0] at hO zu hn4 hl
  have HP:=qhq hn0
  obtain ⟨m,hm⟩:∃ m,n=m + 1:=⟨n - 1,by omega⟩
  obtain ⟨hbf,hbs⟩:=hB m (by omega)
  obtain ⟨Au,cu,hv4,hop⟩:=hO.open'
  obtain ⟨rfl,rfl⟩:A4=Au ∧ c4=cu:=by simpa using hv4
  obtain ⟨b,rfl,hlb,hbw,hcl,hfz⟩:=hop (by omega)
  have zc:W.cell? ⟨b,m,none⟩=some (.func (.func 144) #[] #[.pointer (some ⟨fb m,0,none⟩),.pointer (some ⟨sm m,0,none⟩)]):=by
   have h:=hcl m (by omega) 0 (by omega)
   rw [Nat.mul_one,Nat.add_zero] at h
   exact h
  generalize fb m=bf at zc hbf
  generalize sm m=bs at zc hbs
  have HBF:=qhq hbf
  have HBS:=qhq hbs
  have hk:∃ k,elt L.past m=k:=⟨_,rfl⟩
  obtain ⟨k,hk⟩:=hk
  have HKE:=qhq hk
  rw [hk] at HBF
  clear hop hcl hfz hv4 hO hB hbf hbs hk
  have hni:¬ ((n:Nat):Int)=0:=by omega
  have hni1:((n:Nat):Int) - 1=(m:Int):=by omega
  have hnil:(m:Int) < (n:Int):=by omega
  have hwr:IntKind.i64.wrap (m:Int)=(m:Int):=by rw [IntKind.wrap_i64];omega
  rw [hn0] at HS
  clear hn0 hm hc
  go_upto_region 3 with fail
  replace HBF:=qhq (HBF.out.later (bl_drew (qrq _ W)))
  replace HBS:=qhq (HBS.out.later (bl_drew (qrq _ W)))
  replace zc:=qcq (bl_drew (qrq _ W)) zc
  clear zs zu
  refine wp_region_F 12 (fun w':World=>Below W.drew.heap.size W.drew w') (by kernel_rfl) ?_
  have hszd:W.drew.heap.size=q + 1:=hsz
  replace HMV:=qhq HMV.out.drew
  have hbd:Below W.heap.size W W.drew:=bl_drew (qrq _ W)
  replace HS:=qhq (HS.out.later hbd);replace HE:=qhq (HE.out.later hbd);replace HX:=qhq (HX.out.later hbd);replace HR:=qhq (HR.out.later hbd);replace HA0:=qhq (HA0.out.later hbd);clear hbd
  generalize W.drew=W2 at HMV HS HE HX HR HA0 HBF HBS zc hszd ⊢
  clear hsz
  have zs:W2.cell? ⟨sb,0,none⟩=some (.pointer (some ⟨s,0,none⟩)):=HE.out.sbx.cell (j:=0) (by omega)
  have zu:W2.cell? ⟨s,4,none⟩=some (.slice (some ⟨b,0,none⟩) n c4):=HS.out.blk.cell (j:=4) (by omega)
  have HS0:Hid (Below W2.heap.size W2 W2):=qhq (qrq _ _)
  refine wpAnyF_takeC 0 [1,2,3,10,11] (v:=?v0m) (by rfl) (by kernel_rfl) (by intro _ _ _ h;exact h) HS0.out (by rfl) ?hy0m ?rest0m
  case hy0m =>
   intro w' hSw
   have szs:=qcq hSw zs
   have szu:=qcq hSw zu
   have szc:=qcq hSw zc
   clear hSw
   go_simp
   try with_reducible rfl
  simp only [Act.put,q1q,q2q,q3q]
  refine wpAnyF_takeC 1 [2,3,10,11] (v:=?v1m) (by rfl) (by kernel_rfl) (by intro _ _ _ h;exact h) HS0.out (by rfl) ?hy1m ?rest1m
  case hy1m =>
   intro w' hSw
   have szs:=qcq hSw zs
   have szu:=qcq hSw zu
   have szc:=qcq hSw zc
   clear hSw
   go_simp
   try with_reducible rfl
  simp only [Act.put,q1q,q2q,q3q]
  refine wpAnyF_takeC 2 [3,10,11] (v:=?v2m) (by rfl) (by kernel_rfl) (by intro _ _ _ h;exact h) HS0.out (by rfl) ?hy2m ?rest2m
  case hy2m =>
   intro w' hSw
   have szs:=qcq hSw zs
   have szu:=qcq hSw zu
   have szc:=qcq hSw zc
   clear hSw
   go_simp
   try with_reducible rfl
  simp only [Act.put,q1q,q2q,q3q]
  refine wpAnyF_takeC 3 [10,11] (v:=?v3m) (by rfl) (by kernel_rfl) (by intro _ _ _ h;exact h) HS0.out (by rfl) ?hy3m ?rest3m
  case hy3m =>
   intro w' hSw
   have szs:=qcq hSw zs
   have szu:=qcq hSw zu
   have szc:=qcq hSw zc
   clear hSw
   go_simp
   try with_reducible rfl
  simp only [Act.put,q1q,q2q,q3q]
  refine wpAnyF_takeC 4 [5,6,7,8,9,10,11] (v:=?v4m) (by rfl) (by kernel_rfl) (by intro _ _ _ h;exact h) HS0.out (by rfl) ?hy4m ?rest4m
  case hy4m =>
   intro w' hSw
   have szs:=qcq hSw zs
   have szu:=qcq hSw zu
   have szc:=qcq hSw zc
   clear hSw
   go_simp
   try with_reducible rfl
  simp only [Act.put,q1q,q2q,q3q]
  refine wpAnyF_takeC 5 [6,7,8,9,10,11] (v:=?v5m) (by rfl) (by kernel_rfl) (by intro _ _ _ h;exact h) HS0.out (by rfl) ?hy5m ?rest5m
  case hy5m =>
   intro w' hSw
   have szs:=qcq hSw zs
   have szu:=qcq hSw zu
   have szc:=qcq hSw zc
   clear hSw
   go_simp
   try with_reducible rfl
  simp only [Act.put,q1q,q2q,q3q]
  refine wpAnyF_takeC 6 [7,8,9,10,11] (v:=?v6m) (by rfl) (by kernel_rfl) (by intro _ _ _ h;exact h) HS0.out (by rfl) ?hy6m ?rest6m
  case hy6m =>
   intro w' hSw
   have szs:=qcq hSw zs
   have szu:=qcq hSw zu
   have szc:=qcq hSw zc
   clear hSw
   go_simp
   try with_reducible rfl
  simp only [Act.put,q1q,q2q,q3q]
  refine wpAnyF_takeC 7 [8,9,10,11] (v:=?v7m) (by rfl) (by kernel_rfl) (by intro _ _ _ h;exact h) HS0.out (by rfl) ?hy7m ?rest7m
  case hy7m =>
   intro w' hSw
   have szs:=qcq hSw zs
   have szu:=qcq hSw zu
   have szc:=qcq hSw zc
   clear hSw
   go_simp
   try with_reducible rfl
  simp only [Act.put,q1q,q2q,q3q]
  refine wpAnyF_takeC 8 [9,10,11] (v:=?v8m) (by rfl) (by kernel_rfl) (by intro _ _ _ h;exact h) HS0.out (by rfl) ?hy8m ?rest8m
  case hy8m =>
   intro w' hSw
   have szs:=qcq hSw zs
   have szu:=qcq hSw zu
   have szc:=qcq hSw zc
   clear hSw
   go_simp
   try with_reducible rfl
  simp only [Act.put,q1q,q2q,q3q]
  refine wpAnyF_takeC 9 [10,11] (v:=?v9m) (by rfl) (by kernel_rfl) (by intro _ _ _ h;exact h) HS0.out (by rfl) ?hy9m ?rest9m
  case hy9m =>
   intro w' hSw
   have szs:=qcq hSw zs
   have szu:=qcq hSw zu
   have szc:=qcq hSw zc
   clear hSw
   go_simp
   try with_reducible rfl
  simp only [Act.put,q1q,q2q,q3q]
  refine wpAnyF_takeC 10 [11] (v:=?v10m) (by rfl) (by kernel_rfl) (by intro _ _ _ h;exact h) HS0.out (by rfl) ?hy10m ?rest10m
  case hy10m =>
   intro w' hSw
   have szs:=qcq hSw zs
   have szu:=qcq hSw zu
   have szc:=qcq hSw zc
   clear hSw
   go_simp
   rfl
  simp only [Act.put,q1q,q2q,q3q]
  refine wpAnyF_takeC 11 [] (v:=?v11m) (by rfl) (by kernel_rfl) (by intro _ _ _ h;exact h) HS0.out (by rfl) ?hy11m ?rest11m
  case hy11m =>
   intro w' hSw
   have szs:=qcq hSw zs
   have szu:=qcq hSw zu
   have szc:=qcq hSw zc
   clear hSw
   go_simp
   try with_reducible rfl
  simp only [Act.put,q1q,q2q,q3q]
  refine wpAnyF_one 12 (by rfl) (by kernel_rfl) rfl ?_
  intro K hK
  go_simp
  refine (undo_calls bf bs s k L.place _ HBF.out HBS.out HS.out.blk rfl).mono ?_;rintro e w3 ⟨rfl,rfl⟩
  dsimp only
  refine hK.out _ _ (fun h=>absurd rfl h) ?_
  clear hK K HS0 zs zu zc HBF HBS
  refine wpAnyF_done (by kernel_rfl) ?_ _
  have HS4:=qhq (HS.out.setAt k)
  have HX4:=qhq (HX.out.far (HX.out.ne HS.out.blk (by decide)) (p:=⟨s,2,none⟩) (.int .i64 k))
  have HE4:=qhq (SeE.mv HE.out ((Mv.refl eTys lo W2).set (p:=⟨s,2,none⟩) hlo HS.out.blk (by decide) (.int .i64 k)))
  have HM4:=qhq (HMV.out.set (p:=⟨s,2,none⟩) hlo HS.out.blk (by decide) (.int .i64 k))
  clear HS HX HE HMV HA0 HR
  have hs4:(W2.setCell ⟨s,2,none⟩ (.int .i64 k)).heap.size=q + 1:=by rw [World.size_setCell];exact hszd
  generalize World.setCell W2 _ _=W4 at HS4 HX4 HE4 HM4 hs4 ⊢
  have hsz4:W4.heap.size=q + 1:=hs4
  have hbd:Below W4.heap.size W4 W4.drew:=bl_drew (qrq _ _)
  replace HM4:=qhq HM4.out.drew
  replace HS4:=qhq (HS4.out.later hbd);replace HX4:=qhq (HX4.out.later hbd);replace HE4:=qhq (HE4.out.later hbd);clear hbd
  go_upto_region 4 with fail
  refine wp_region_F 14 (fun w':World=>Below W4.drew.heap.size W4.drew w') (by kernel_rfl) ?_
  generalize W4.drew=W5 at HS4 HX4 HE4 HM4 ⊢
  have HS0:Hid (Below W5.heap.size W5 W5):=qhq (qrq _ _)
  have zs:W5.cell? ⟨sb,0,none⟩=some (.pointer (some ⟨s,0,none⟩)):=HE4.out.sbx.cell (j:=0) (by omega)
  have zu:W5.cell? ⟨s,4,none⟩=some (.slice (some ⟨b,0,none⟩) n c4):=HS4.out.blk.cell (j:=4) (by omega)
  have zf:=HS4.out.blk.free 4
  refine wpAnyF_takeC 0 [] (v:=?v0k) (by rfl) (by kernel_rfl) (by intro _ _ _ h;exact h) HS0.out (by rfl) ?hy0k ?rest0k
  case hy0k =>
   intro w' hSw
   have szs:=qcq hSw zs
   have szu:=qcq hSw zu
   clear hSw
   go_simp
   try with_reducible rfl
  simp only [Act.put,q1q,q2q,q3q]
  refine wpAnyF_takeC 1 [] (v:=?v1k) (by rfl) (by kernel_rfl) (by intro _ _ _ h;exact h) HS0.out (by rfl) ?hy1k ?rest1k
  case hy1k =>
   intro w' hSw
   have szs:=qcq hSw zs
   have szu:=qcq hSw zu
   clear hSw
   go_simp
   try with_reducible rfl
  simp only [Act.put,q1q,q2q,q3q]
  refine wpAnyF_takeC 2 [] (v:=?v2k) (by rfl) (by kernel_rfl) (by intro _ _ _ h;exact h) HS0.out (by rfl) ?hy2k ?rest2k
  case hy2k =>
   intro w' hSw
   have szs:=qcq hSw zs
   have szu:=qcq hSw zu
   clear hSw
   go_simp
   try with_reducible rfl
  simp only [Act.put,q1q,q2q,q3q]
  refine wpAnyF_takeC 3 [] (v:=?v3k) (by rfl) (by kernel_rfl) (by intro _ _ _ h;exact h) HS0.out (by rfl) ?hy3k ?rest3k
  case hy3k =>
   intro w' hSw
   have szs:=qcq hSw zs
   have szu:=qcq hSw zu
   clear hSw
   go_simp
   try with_reducible rfl
  simp only [Act.put,q1q,q2q,q3q]
  refine wpAnyF_takeC 4 [] (v:=?v4k) (by rfl) (by kernel_rfl) (by intro _ _ _ h;exact h) HS0.out (by rfl) ?hy4k ?rest4k
  case hy4k =>
   intro w' hSw
   have szs:=qcq hSw zs
   have szu:=qcq hSw zu
   clear hSw
   go_simp
   try with_reducible rfl
  simp only [Act.put,q1q,q2q,q3q]
  refine wpAnyF_takeC 5 [] (v:=?v5k) (by rfl) (by kernel_rfl) (by intro _ _ _ h;exact h) HS0.out (by rfl) ?hy5k ?rest5k
  case hy5k =>
   intro w' hSw
   have szs:=qcq hSw zs
   have szu:=qcq hSw zu
   clear hSw
   go_simp
   try with_reducible rfl
  simp only [Act.put,q1q,q2q,q3q]
  refine wpAnyF_takeC 6 [] (v:=?v6k) (by rfl) (by kernel_rfl) (by intro _ _ _ h;exact h) HS0.out (by rfl) ?hy6k ?rest6k
  case hy6k =>
   intro w' hSw
   have szs:=qcq hSw zs
   have szu:=qcq hSw zu
   clear hSw
   go_simp
   try with_reducible rfl
  simp only [Act.put,q1q,q2q,q3q]
  refine wpAnyF_takeC 7 [] (v:=?v7k) (by rfl) (by kernel_rfl) (by intro _ _ _ h;exact h) HS0.out (by rfl) ?hy7k ?rest7k
  case hy7k =>
   intro w' hSw
   have szs:=qcq hSw zs
   have szu:=qcq hSw zu
   clear hSw
   go_simp
   try with_reducible rfl
  simp only [Act.put,q1q,q2q,q3q]
  refine wpAnyF_takeC 8 [] (v:=?v8k) (by rfl) (by kernel_rfl) (by intro _ _ _ h;exact h) HS0.out (by rfl) ?hy8k ?rest8k
  case hy8k =>
   intro w' hSw
   have szs:=qcq hSw zs
   have szu:=qcq hSw zu
   clear hSw
   go_simp
   try with_reducible rfl
  simp only [Act.put,q1q,q2q,q3q]
  refine wpAnyF_takeC 9 [] (v:=?v9k) (by rfl) (by kernel_rfl) (by intro _ _ _ h;exact h) HS0.out (by rfl) ?hy9k ?rest9k
  case hy9k =>
   intro w' hSw
   have szs:=qcq hSw zs
   have szu:=qcq hSw zu
   clear hSw
   go_simp
   try with_reducible rfl
  simp only [Act.put,q1q,q2q,q3q]
  refine wpAnyF_takeC 10 [] (v:=?v10k) (by rfl) (by kernel_rfl) (by intro _ _ _ h;exact h) HS0.out (by rfl) ?hy10k ?rest10k
  case hy10k =>
   intro w' hSw
   have szs:=qcq hSw zs
   have szu:=qcq hSw zu
   clear hSw
   go_simp
   try with_reducible rfl
  simp only [Act.put,q1q,q2q,q3q]
  refine wpAnyF_takeC 11 [] (v:=?v11k) (by rfl) (by kernel_rfl) (by intro _ _ _ h;exact h) HS0.out (by rfl) ?hy11k ?rest11k
  case hy11k =>
   intro w' hSw
   have szs:=qcq hSw zs
   have szu:=qcq hSw zu
   clear hSw
   go_simp
   rw [if_pos (by omega)]
  simp only [Act.put,q1q,q2q,q3q]
  refine wpAnyF_one 12 (by rfl) (by kernel_rfl) rfl ?_
  intro K hK
  go_simp
  refine hK.out _ _ (fun _=>HS0.out) ?_
  clear hK K
  refine wpAnyF_one 13 (by rfl) (by kernel_rfl) rfl ?_
  intro K hK
  go_simp
  refine hK.out _ _ (fun _=>HS0.out) ?_
  clear hK K
  refine wpAnyF_one 14 (by rfl) (by kernel_rfl) rfl ?_
  intro K hK
  go_simp
  refine hK.out _ _ (fun h=>absurd rfl h) ?_
  clear hK K
  refine wpAnyF_done (by kernel_rfl) ?_ _
  clear zs zu zf
  go_wp2_with fail
  go_ret
  have e:L.past.length - 1=m:=by rw [HP.out];omega
  unfold doUndo
  rw [if_neg (by rw [HP.out];omega),e,HKE.out]
  exact DoPost.plain rfl rfl (HS4.out.setUn (UnD.take HS4.out.un HP.out (by omega))) (HX4.out.far (HX4.out.ne HS4.out.blk (by decide)) _) (HM4.out.set (p:=⟨s,4,none⟩) hlo HS4.out.blk (by decide) _)
set_option maxRecDepth 100000 in
set_option maxHeartbeats 4000000 in
theorem do1_calls (lo s sb tb x:Nat) (v1 v2:Value) (t:PTr) (D:Nat → Value) (L:Lk) (vs vu:Value) (a:PAsk) (w:World) (h:SeS w lo s v1 v2 D L vs vu) (he:SeE w s sb tb v1 v2) (hx:Td0 w x)
  (hr:RdTr w v1 v2 t) (hsm:smTr t) (hso:soundP t=true) (hok:LkOk t L) (hlo:lo ≤ s) (hlx:lo ≤ x) :
  Calls Tryz.prog 99 #[.agg #[.int .i64 a.op,.int .i64 a.n,.string a.nm,.int .i64 a.stop.kind,.int .i64 a.stop.fn,.int .i64 a.stop.line,.string a.stop.nm],.pointer (some ⟨x,0,none⟩),.pointer (some ⟨sb,0,none⟩)] w (DoPost (doStop L a) lo s x v1 v2 D w):=by
 obtain ⟨A3,c3,rfl,hn3,hm3⟩:=h.st.cap
 obtain ⟨A4,c4,rfl,hn4,hm4⟩:=h.un.cap
 have HS:=qhq h
 have HE:=qhq he
 have HX:=qhq hx
 have HR:=qhq hr
 have HSM:=qhq hsm
 have HSO:=qhq hso
 have HOK:=qhq hok
 have hlw:lo ≤ w.heap.size:=Nat.le_trans hlo (Nat.le_of_lt h.blk.lt)
 obtain ⟨⟨A1,c1,rfl,hn1,-⟩,⟨vv,⟨A2,c2,rfl,hn2,-⟩,-⟩⟩:=hr
 have hln:=hok.ln
 have hpl:=hok.lo
 have hph:=hok.hi
 have hmn:=(sound_fns (sound_iff hso)).2.2
 have HA0:=qhq (askBox w a)
 have hbw:=qaq (qrq _ w) (.cells #[.int .i64 a.op,.int .i64 a.n,.string a.nm,.int .i64 a.stop.kind,.int .i64 a.stop.fn,.int .i64 a.stop.line,.string a.stop.nm] 47)
 have hsz:(w.alloc (.cells #[.int .i64 a.op,.int .i64 a.n,.string a.nm,.int .i64 a.stop.kind,.int .i64 a.stop.fn,.int .i64 a.stop.line,.string a.stop.nm] 47)).heap.size=w.heap.size + 1:=by simp
 clear h he hx hsm hso hok
 go_enter Tryz.func99,Tryz.ntmps99
 go_upto_region 1 with fail
 generalize World.alloc w _=W at HA0 hbw hsz ⊢
 have HMV:=qhq (Mv.of_below (ts:=eTys) hbw hlw)
 replace HS:=qhq (HS.out.later hbw);replace HE:=qhq (HE.out.later hbw);replace HX:=qhq (HX.out.later hbw);replace HR:=qhq (HR.out.later hbw);clear hbw
 obtain ⟨q,hq⟩:∃ q,w.heap.size=q:=⟨_,rfl⟩
 rw [hq] at HA0 hsz hlw ⊢
 have zs:W.cell? ⟨sb,0,none⟩=some (.pointer (some ⟨s,0,none⟩)):=HE.out.sbx.cell (j:=0) (by omega)
 have zv:W.cell? ⟨s,3,none⟩=some (.slice A3 L.ss.length c3):=HS.out.blk.cell (j:=3) (by omega)
 by_cases hc:L.ss.length=50
 ·have hci:((L.ss.length:Nat):Int)=50:=by omega
  go_wp2_with fail
  go_ret
  unfold doStop
  rw [if_pos (by omega)]
  exact DoPost.plain rfl rfl HS.out HX.out HMV.out
 ·have hci:¬ ((L.ss.length:Nat):Int)=50:=by omega
  have zx2:W.cell? ⟨x,2,none⟩=some (.int .i64 0):=HX.out.cell (j:=2) (by omega)
  have zf2:=HX.out.free 2
  go_upto_region 4 with fail
  have HX1:Hid (Blk (W.setCell ⟨x,2,none⟩ (.int .i64 L.ss.length)) x 38 6 (tdF ⟨0,0,L.ss.length,⟨#[]⟩,[],[]⟩ (.slice none 0 0) (.slice none 0 0))):=qhq ((HX.out.set (j:=2) (by omega) _).congr fun j hj=>by
   match j,hj with
   | 0,_=>rfl
   | 1,_=>rfl
   | 2,_=>rfl
   | 3,_=>rfl
   | 4,_=>rfl
   | 5,_=>rfl)
  have HS1:=qhq (HS.out.farX HX.out 2 (.int .i64 L.ss.length))
  have HE1:=qhq (HE.out.farX HX.out 2 (.int .i64 L.ss.length))
  have HA1:=qhq (HA0.out.far (HA0.out.ne HX.out (by decide)) (p:=⟨x,2,none⟩) (.int .i64 L.ss.length))
  have HM1:=qhq ((Mx.ofMv HMV.out).set hlx 2 (.int .i64 L.ss.length))
  have hsz1:(W.setCell ⟨x,2,none⟩ (.int .i64 L.ss.length)).heap.size=q + 1:=by rw [World.size_setCell];exact hsz
  clear HX HS HE HA0 HMV HR zs zv zx2 zf2 hsz
  generalize World.setCell W _ _=W1 at HX1 HS1 HE1 HA1 HM1 hsz1 ⊢
  have hbd:Below W1.heap.size W1 W1.drew:=bl_drew (qrq _ _)
  replace HM1:=qhq (HM1.out.trans (Mx.below hbd (by omega)))
  have hszd:W1.drew.heap.size=q + 1:=hsz1
  replace HX1:=qhq (HX1.out.later hbd);replace HS1:=qhq (HS1.out.later hbd);replace HE1:=qhq (HE1.out.later hbd);replace HA1:=qhq (HA1.out.later hbd);clear hbd
  refine wp_region_F 11 (fun w':World=>w'.cell? ⟨sb,0,none⟩=some (.pointer (some ⟨s,0,none⟩)) ∧ w'.cell? ⟨s,3,none⟩=some (.slice A3 L.ss.length c3) ∧ w'.cell? ⟨q,3,none⟩=some (.int .i64 a.stop.kind) ∧ w'.cell? ⟨q,4,none⟩=some (.int .i64 a.stop.fn) ∧ w'.cell? ⟨q,5,none⟩=some (.int .i64 a.stop.line) ∧ w'.cell? ⟨q,6,none⟩=some (.string a.stop.nm)) (by kernel_rfl) ?_
  clear hsz1
  generalize W1.drew=W2 at HX1 HS1 HE1 HA1 HM1 hszd ⊢
  have HS0:Hid (W2.cell? ⟨sb,0,none⟩=some (.pointer (some ⟨s,0,none⟩)) ∧ W2.cell? ⟨s,3,none⟩=some (.slice A3 L.ss.length c3) ∧ W2.cell? ⟨q,3,none⟩=some (.int .i64 a.stop.kind) ∧ W2.cell? ⟨q,4,none⟩=some (.int .i64 a.stop.fn) ∧ W2.cell? ⟨q,5,none⟩=some (.int .i64 a.stop.line) ∧ W2.cell? ⟨q,6,none⟩=some (.string a.stop.nm)):=qhq
   ⟨HE1.out.sbx.cell (j:=0) (by omega),HS1.out.blk.cell (j:=3) (by omega),HA1.out.cell (j:=3) (by omega),HA1.out.cell (j:=4) (by omega),HA1.out.cell (j:=5) (by omega),HA1.out.cell (j:=6) (by omega)⟩
  refine wpAnyF_takeC 0 [] (v:=?v0m) (by rfl) (by kernel_rfl) (by intro _ _ _ h;exact h) HS0.out (by rfl) ?hy0m ?rest0m
  case hy0m =>
   intro w' hSw
   obtain ⟨s0,s1,s2,s3,s4,s5⟩:=hSw
   go_simp
   try with_reducible rfl
  simp only [Act.put,q1q,q2q,q3q]
  refine wpAnyF_takeC 1 [] (v:=?v1m) (by rfl) (by kernel_rfl) (by intro _ _ _ h;exact h) HS0.out (by rfl) ?hy1m ?rest1m
  case hy1m =>
   intro w' hSw
   obtain ⟨s0,s1,s2,s3,s4,s5⟩:=hSw
   go_simp
   try with_reducible rfl
  simp only [Act.put,q1q,q2q,q3q]
  refine wpAnyF_takeC 2 [] (v:=?v2m) (by rfl) (by kernel_rfl) (by intro _ _ _ h;exact h) HS0.out (by rfl) ?hy2m ?rest2m
  case hy2m =>
   intro w' hSw
   obtain ⟨s0,s1,s2,s3,s4,s5⟩:=hSw
   go_simp
   try with_reducible rfl
  simp only [Act.put,q1q,q2q,q3q]
  refine wpAnyF_takeC 3 [] (v:=?v3m) (by rfl) (by kernel_rfl) (by intro _ _ _ h;exact h) HS0.out (by rfl) ?hy3m ?rest3m
  case hy3m =>
   intro w' hSw
   obtain ⟨s0,s1,s2,s3,s4,s5⟩:=hSw
   go_simp
   try with_reducible rfl
  simp only [Act.put,q1q,q2q,q3q]
  refine wpAnyF_takeC 4 [] (v:=?v4m) (by rfl) (by kernel_rfl) (by intro _ _ _ h;exact h) HS0.out (by rfl) ?hy4m ?rest4m
  case hy4m =>
   intro w' hSw
   obtain ⟨s0,s1,s2,s3,s4,s5⟩:=hSw
   go_simp
   try with_reducible rfl
  simp only [Act.put,q1q,q2q,q3q]
  refine wpAnyF_takeC 5 [] (v:=?v5m) (by rfl) (by kernel_rfl) (by intro _ _ _ h;exact h) HS0.out (by rfl) ?hy5m ?rest5m
  case hy5m =>
   intro w' hSw
   obtain ⟨s0,s1,s2,s3,s4,s5⟩:=hSw
   go_simp
   try with_reducible rfl
  simp only [Act.put,q1q,q2q,q3q]
  refine wpAnyF_takeC 6 [] (v:=?v6m) (by rfl) (by kernel_rfl) (by intro _ _ _ h;exact h) HS0.out (by rfl) ?hy6m ?rest6m
  case hy6m =>
   intro w' hSw
   obtain ⟨s0,s1,s2,s3,s4,s5⟩:=hSw
   go_simp
   try with_reducible rfl
  simp only [Act.put,q1q,q2q,q3q]
  refine wpAnyF_one 7 (by rfl) (by kernel_rfl) rfl ?_
  intro K hK
  go_simp
  have hba:=qaq (qrq _ W2) (.cells #[.int .i64 a.stop.kind,.int .i64 a.stop.fn,.int .i64 a.stop.line,.string a.stop.nm] 45)
  refine hK.out _ _ (fun _=>⟨qcq hba HS0.out.1,qcq hba HS0.out.2.1,qcq hba HS0.out.2.2.1,qcq hba HS0.out.2.2.2.1,qcq hba HS0.out.2.2.2.2.1,qcq hba HS0.out.2.2.2.2.2⟩) ?_
  clear hK K
  refine wpAnyF_one 8 (by rfl) (by kernel_rfl) rfl ?_
  intro K hK
  have hnew:∀ j u,[Value.int .i64 a.stop.kind,.int .i64 a.stop.fn,.int .i64 a.stop.line,.string a.stop.nm][j]?=some u → (W2.alloc (.cells #[.int .i64 a.stop.kind,.int .i64 a.stop.fn,.int .i64 a.stop.line,.string a.stop.nm] 45)).cell? ⟨q + 1,0 + j,none⟩=some u:=fun j u hj=>by
   rw [Nat.zero_add,← hszd]
   exact BoxAt.new W2 [Value.int .i64 a.stop.kind,.int .i64 a.stop.fn,.int .i64 a.stop.line,.string a.stop.nm] 45 j u hj
  have hlo2:lo ≤ W2.heap.size:=by omega
  refine wp_appendG _ _ _ 90 (by rfl) lo 45 _ 4 40 1 Tryz.underlying90 i_stopE rfl (by omega) _ L.ss.length (stopC L.ss) (stopC (L.ss ++ [a.stop])) (by rfl) (HS1.out.st.later hba)
   [Value.int .i64 a.stop.kind,.int .i64 a.stop.fn,.int .i64 a.stop.line,.string a.stop.nm] rfl (by omega) (fun u hu=>by
    simp only [List.mem_cons,List.not_mem_nil,or_false] at hu
    rcases hu with rfl | rfl | rfl | rfl <;> rfl) (q + 1) 0 1 (by rfl) hnew (fun i hi j _=>stopC_old L.ss a.stop hi j) (fun i hi j hj=>?_) (by simp;omega) (by omega) (by omega) ?_
  ·obtain rfl:i=0:=by omega
   rw [Nat.zero_mul,Nat.zero_add,Nat.add_zero];exact stopC_new L.ss a.stop hj
  intro g9 cap9 w7 hO7 hg7 hat7 hlt7
  have hOa:=HS1.out.st.later hba
  have hmv:Mv [45] lo (W2.alloc (.cells #[.int .i64 a.stop.kind,.int .i64 a.stop.fn,.int .i64 a.stop.line,.string a.stop.nm] 45)) w7 :=
   (Mv.refl _ _ _).grown (by simp;omega) hg7 (fun b hb=>by obtain ⟨N,F,hB⟩:=hOa.block hb;exact ⟨(hOa.lt b hb).1,_,N,F,hB,by simp⟩)
  have HMe:=qhq (Mv.mono hmv (ts':=eTys) (fun e he=>by rw [List.mem_singleton.1 he];decide))
  have HBK:=qhq ((HS1.out.blk.later hba).mv hmv (by decide))
  have HUN:Hid (UnD w7 lo s L.past (.slice A4 L.past.length c4)):=qhq (by
   obtain ⟨fb,sm,h1,h2⟩:=HS1.out.un.later hba
   exact ⟨fb,sm,h1.mv hmv (by decide),fun i hi=>⟨(h2 i hi).1.mv hmv (by decide),(h2 i hi).2.mv hmv (by decide)⟩⟩)
  have HX7:=qhq ((HX1.out.later hba).mv hmv (by decide))
  have HE7:=qhq ((HE1.out.later hba).mv HMe.out)
  have HA7:=qhq ((HA1.out.later hba).mv hmv (by decide))
  have HM7:=qhq ((HM1.out.trans (Mx.below hba hlo2)).trans (Mx.ofMv HMe.out))
  have hS7:w7.cell? ⟨sb,0,none⟩=some (.pointer (some ⟨s,0,none⟩)) ∧ w7.cell? ⟨s,3,none⟩=some (.slice A3 L.ss.length c3) ∧ w7.cell? ⟨q,3,none⟩=some (.int .i64 a.stop.kind) ∧ w7.cell? ⟨q,4,none⟩=some (.int .i64 a.stop.fn) ∧ w7.cell? ⟨q,5,none⟩=some (.int .i64 a.stop.line) ∧ w7.cell? ⟨q,6,none⟩=some (.string a.stop.nm) :=
   ⟨HE7.out.sbx.cell (j:=0) (by omega),HBK.out.cell (j:=3) (by omega),HA7.out.cell (j:=3) (by omega),HA7.out.cell (j:=4) (by omega),HA7.out.cell (j:=5) (by omega),HA7.out.cell (j:=6) (by omega)⟩
  have HS7:=qhq hS7
  have HO7:=qhq hO7
  refine hK.out _ _ (fun _=>HS7.out) ?_
  clear hK K hOa hba hmv hO7 hg7 hat7 hlt7 hnew HMe HX1 HS1 HE1 HA1 HM1 HS0 hszd hlo2
  obtain ⟨z0,z3,-⟩:=hS7
  have f3:=HBK.out.free 3
  refine wpAnyF_one 9 (by rfl) (by kernel_rfl) rfl ?_
  intro K hK
  go_simp
  refine hK.out _ _ (fun _=>HS7.out) ?_
  clear hK K
  refine wpAnyF_one 10 (by rfl) (by kernel_rfl) rfl ?_
  intro K hK
  go_simp
  refine hK.out _ _ (fun _=>HS7.out) ?_
  clear hK K
  refine wpAnyF_one 11 (by rfl) (by kernel_rfl) rfl ?_
  intro K hK
  go_simp
  refine hK.out _ _ (fun h=>absurd rfl h) ?_
  clear hK K
  refine wpAnyF_done (by kernel_rfl) ?_ _
  clear z0 z3 f3
  go_wp2_with fail
  go_ret
  unfold doStop
  rw [if_neg (by omega)]
  have hO9:=HO7.out
  rw [show L.ss.length + 1=(L.ss ++ [a.stop]).length by simp] at hO9 ⊢
  exact ⟨rfl,⟨_,_,SeS.ofSt HBK.out HUN.out hO9⟩,⟨_,_,HX7.out.far (HX7.out.ne HBK.out (by decide)) _,OwR.nil,owr_z OwR.nil⟩,HM7.out.trans (Mx.ofMv ((Mv.refl eTys lo w7).set (p:=⟨s,3,none⟩) hlo HBK.out (by decide) _))⟩
end Go.Proofs.YtcklnjjbhngbcaaGreatDoor
