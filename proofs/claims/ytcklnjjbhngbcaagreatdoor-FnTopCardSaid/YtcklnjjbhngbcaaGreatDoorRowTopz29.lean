/- Lemmas and contracts of functions that the theorem of this claim leans on (texts E9, E10, E10b). -/
import Derived.Test.YtcklnjjbhngbcaaGreatDoorRowTopz00
import Derived.Test.YtcklnjjbhngbcaaGreatDoorRowTopz28
import Derived.Test.YtcklnjjbhngbcaaGreatDoorRowTopz05
namespace Go.Proofs.YtcklnjjbhngbcaaGreatDoor
open Go.RowKit Go.Proofs.Lens
set_option linter.unusedSimpArgs false
set_option maxRecDepth 100000 in
set_option maxHeartbeats 4000000 in
theorem do13_calls (lo s sb tb x:Nat) (v1 v2:Value) (t:PTr) (D:Nat → Value) (L:Lk) (vs vu:Value) (a:PAsk) (w:World) (h:SeS w lo s v1 v2 D L vs vu) (he:SeE w s sb tb v1 v2) (hx:Td0 w x)
  (hr:RdTr w v1 v2 t) (hsm:smTr t) (hso:soundP t=true) (hok:LkOk t L) (hlo:lo ≤ s) (hlx:lo ≤ x) (hn0:0 ≤ a.n) :
  Calls Tryz.prog 155 #[.agg #[.int .i64 a.op,.int .i64 a.n,.string a.nm,.int .i64 a.stop.kind,.int .i64 a.stop.fn,.int .i64 a.stop.line,.string a.stop.nm],.pointer (some ⟨x,0,none⟩),.pointer (some ⟨sb,0,none⟩),.pointer (some ⟨tb,0,none⟩)] w (DoPost (doCount t L a) lo s x v1 v2 D w):=by
 obtain ⟨A3,c3,rfl,hn3,hm3⟩:=h.st.cap
 obtain ⟨A4,c4,rfl,hn4,hm4⟩:=h.un.cap
 have HS:=qhq h
 have HE:=qhq he
 have HX:=qhq hx
 have HR:=qhq hr
 have HSM:=qhq hsm
 have HSO:=qhq hso
 have HOK:=qhq hok
 have hlw:lo ≤ w.heap.size:=Nat.le_trans hlo (Nat.le_of_lt h.blk.lt)
 obtain ⟨⟨A1,c1,rfl,hn1,-⟩,⟨vv,⟨A2,c2,rfl,hn2,-⟩,-⟩⟩:=hr
 have hln:=hok.ln
 have hpl:=hok.lo
 have hph:=hok.hi
 have hmn:=(sound_fns (sound_iff hso)).2.2
 have HA0:=qhq (askBox w a)
 have hbw:=qaq (qrq _ w) (.cells #[.int .i64 a.op,.int .i64 a.n,.string a.nm,.int .i64 a.stop.kind,.int .i64 a.stop.fn,.int .i64 a.stop.line,.string a.stop.nm] 47)
 have hsz:(w.alloc (.cells #[.int .i64 a.op,.int .i64 a.n,.string a.nm,.int .i64 a.stop.kind,.int .i64 a.stop.fn,.int .i64 a.stop.line,.string a.stop.nm] 47)).heap.size=w.heap.size + 1:=by simp
 clear h he hx hsm hso hok
 go_enter Tryz.func155,Tryz.ntmps155
 go_upto_region 1 with fail
 generalize World.alloc w _=W at HA0 hbw hsz ⊢
 have HMV:=qhq (Mv.of_below (ts:=eTys) hbw hlw)
 replace HS:=qhq (HS.out.later hbw);replace HE:=qhq (HE.out.later hbw);replace HX:=qhq (HX.out.later hbw);replace HR:=qhq (HR.out.later hbw);clear hbw
 obtain ⟨q,hq⟩:∃ q,w.heap.size=q:=⟨_,rfl⟩
 rw [hq] at HA0 hsz hlw ⊢
 obtain ⟨i,hia⟩:∃ i:Nat,a.n=(i:Int):=⟨a.n.toNat,by omega⟩
 have HIA:=qhq hia
 refine wp_region_H (fun w':World=>Below W.drew.heap.size W.drew w') (by kernel_rfl) ?_
 have hszd:W.drew.heap.size=q + 1:=hsz
 replace HMV:=qhq HMV.out.drew
 have hbd:Below W.heap.size W W.drew:=bl_drew (qrq _ _)
 replace HS:=qhq (HS.out.later hbd);replace HE:=qhq (HE.out.later hbd);replace HX:=qhq (HX.out.later hbd);replace HR:=qhq (HR.out.later hbd);replace HA0:=qhq (HA0.out.later hbd);clear hbd
 generalize W.drew=W2 at HMV HS HE HX HR HA0 hszd ⊢
 clear hsz
 have hsz:=hszd
 clear hszd
 have HS0:Hid (Below W2.heap.size W2 W2):=qhq (qrq _ _)
 have zs:W2.cell? ⟨sb,0,none⟩=some (.pointer (some ⟨s,0,none⟩)):=HE.out.sbx.cell (j:=0) (by omega)
 have zv:W2.cell? ⟨s,3,none⟩=some (.slice A3 L.ss.length c3):=HS.out.blk.cell (j:=3) (by omega)
 have zn:W2.cell? ⟨q,1,none⟩=some (.int .i64 a.n):=HA0.out.cell (j:=1) (by omega)
 rw [hia] at zn hn0
 clear hia
 refine wpAnyH_take2 0 (v:=?v0m) (by rfl) (by kernel_rfl) (by intro _ _ _ h;exact h) HS0.out (by rfl) ?hy0m ?rest0m
 case hy0m =>
  intro w' hSw
  have szs:=qcq hSw zs
  have szv:=qcq hSw zv
  have szn:=qcq hSw zn
  clear hSw
  go_simp
  try with_reducible rfl
 simp only [Act.put,q1q,q2q,q3q]
 refine wpAnyH_take2 1 (v:=?v1m) (by rfl) (by kernel_rfl) (by intro _ _ _ h;exact h) HS0.out (by rfl) ?hy1m ?rest1m
 case hy1m =>
  intro w' hSw
  have szs:=qcq hSw zs
  have szv:=qcq hSw zv
  have szn:=qcq hSw zn
  clear hSw
  go_simp
  try with_reducible rfl
 simp only [Act.put,q1q,q2q,q3q]
 refine wpAnyH_take2 2 (v:=?v2m) (by rfl) (by kernel_rfl) (by intro _ _ _ h;exact h) HS0.out (by rfl) ?hy2m ?rest2m
 case hy2m =>
  intro w' hSw
  have szs:=qcq hSw zs
  have szv:=qcq hSw zv
  have szn:=qcq hSw zn
  clear hSw
  go_simp
  try with_reducible rfl
 simp only [Act.put,q1q,q2q,q3q]
 refine wpAnyH_take2 3 (v:=?v3m) (by rfl) (by kernel_rfl) (by intro _ _ _ h;exact h) HS0.out (by rfl) ?hy3m ?rest3m
 case hy3m =>
  intro w' hSw
  have szs:=qcq hSw zs
  have szv:=qcq hSw zv
  have szn:=qcq hSw zn
  clear hSw
  go_simp
  try with_reducible rfl
 simp only [Act.put,q1q,q2q,q3q]
 refine wpAnyH_take2 4 (v:=?v4m) (by rfl) (by kernel_rfl) (by intro _ _ _ h;exact h) HS0.out (by rfl) ?hy4m ?rest4m
 case hy4m =>
  intro w' hSw
  have szs:=qcq hSw zs
  have szv:=qcq hSw zv
  have szn:=qcq hSw zn
  clear hSw
  go_simp
  try with_reducible rfl
 simp only [Act.put,q1q,q2q,q3q]
 refine wpAnyH_take2 5 (v:=?v5m) (by rfl) (by kernel_rfl) (by intro _ _ _ h;exact h) HS0.out (by rfl) ?hy5m ?rest5m
 case hy5m =>
  intro w' hSw
  have szs:=qcq hSw zs
  have szv:=qcq hSw zv
  have szn:=qcq hSw zn
  clear hSw
  go_simp
  try with_reducible rfl
 simp only [Act.put,q1q,q2q,q3q]
 refine wpAnyH_take2 6 (v:=?v6m) (by rfl) (by kernel_rfl) (by intro _ _ _ h;exact h) HS0.out (by rfl) ?hy6m ?rest6m
 case hy6m =>
  intro w' hSw
  have szs:=qcq hSw zs
  have szv:=qcq hSw zv
  have szn:=qcq hSw zn
  clear hSw
  go_simp
  try with_reducible rfl
 simp only [Act.put,q1q,q2q,q3q]
 refine wpAnyH_take2 7 (v:=?v7m) (by rfl) (by kernel_rfl) (by intro _ _ _ h;exact h) HS0.out (by rfl) ?hy7m ?rest7m
 case hy7m =>
  intro w' hSw
  have szs:=qcq hSw zs
  have szv:=qcq hSw zv
  have szn:=qcq hSw zn
  clear hSw
  go_simp
  try with_reducible rfl
 simp only [Act.put,q1q,q2q,q3q]
 refine wpAnyH_done (by kernel_rfl) ?_ _
 simp only [List.getElem_toArray,List.getElem_cons_zero,List.getElem_cons_succ,q1q,q2q,q3q]
 by_cases hc:L.ss.length ≤ i
 ·have hci:(L.ss.length:Int) ≤ (i:Int):=by omega
  clear HS0
  go_wp2_with fail
  go_ret
  unfold doCount
  rw [if_pos (by rw [HIA.out];omega)]
  exact DoPost.plain rfl rfl HS.out HX.out HMV.out
 ·have hci:(i:Int) < (L.ss.length:Int):=by omega
  obtain ⟨st,hst⟩:∃ st,elt L.ss i=st:=⟨_,rfl⟩
  have hso:stopOk st=true:=by rw [← hst];exact elt_ok HOK.out.ok (by omega)
  have HSTO:=qhq hso
  obtain ⟨Av9,cv9,hv9,hop⟩:=HS.out.st.open'
  obtain ⟨rfl,rfl⟩:A3=Av9 ∧ c3=cv9:=by simpa using hv9
  obtain ⟨b3,rfl,-,-,hcl,-⟩:=hop (by omega)
  have q0:W2.cell? ⟨b3,i * 4,none⟩=some (.int .i64 st.kind):=(hcl i (by omega) 0 (by omega)).trans (by rw [← hst];rfl)
  have q1:W2.cell? ⟨b3,i * 4 + 1,none⟩=some (.int .i64 st.fn):=(hcl i (by omega) 1 (by omega)).trans (by rw [← hst];rfl)
  have q2:W2.cell? ⟨b3,i * 4 + 2,none⟩=some (.int .i64 st.line):=(hcl i (by omega) 2 (by omega)).trans (by rw [← hst];rfl)
  have q3:W2.cell? ⟨b3,i * 4 + 3,none⟩=some (.string st.nm):=(hcl i (by omega) 3 (by omega)).trans (by rw [← hst];rfl)
  have HST:=qhq hst
  clear HS0 hop hv9 hcl hst hso
  go_upto_region 3 with fail
  clear zs zv zn
  have hbd:Below W2.heap.size W2 W2.drew:=bl_drew (qrq _ _)
  replace q0:=qcq hbd q0
  replace q1:=qcq hbd q1
  replace q2:=qcq hbd q2
  replace q3:=qcq hbd q3
  clear hbd
  refine wp_region_H (fun w':World=>Below W2.drew.heap.size W2.drew w') (by kernel_rfl) ?_
  have hszd:W2.drew.heap.size=q + 1:=hsz
  replace HMV:=qhq HMV.out.drew
  have hbd:Below W2.heap.size W2 W2.drew:=bl_drew (qrq _ _)
  replace HS:=qhq (HS.out.later hbd);replace HE:=qhq (HE.out.later hbd);replace HX:=qhq (HX.out.later hbd);replace HR:=qhq (HR.out.later hbd);replace HA0:=qhq (HA0.out.later hbd);clear hbd
  generalize W2.drew=W3 at HMV HS HE HX HR HA0 q0 q1 q2 q3 hszd ⊢
  clear hsz
  have hsz:=hszd
  clear hszd
  have HS0:Hid (Below W3.heap.size W3 W3):=qhq (qrq _ _)
  have zs:W3.cell? ⟨sb,0,none⟩=some (.pointer (some ⟨s,0,none⟩)):=HE.out.sbx.cell (j:=0) (by omega)
  have zt0:W3.cell? ⟨tb,0,none⟩=some (.slice A1 t.fns.length c1):=HE.out.tbx.cell (j:=0) (by omega)
  have zt1:W3.cell? ⟨tb,1,none⟩=some (.slice A2 t.moms.length c2):=HE.out.tbx.cell (j:=1) (by omega)
  have zv:W3.cell? ⟨s,3,none⟩=some (.slice (some ⟨b3,0,none⟩) L.ss.length c3):=HS.out.blk.cell (j:=3) (by omega)
  have zn:W3.cell? ⟨q,1,none⟩=some (.int .i64 a.n):=HA0.out.cell (j:=1) (by omega)
  rw [HIA.out] at zn
  refine wpAnyH_take2 0 (v:=?v0k) (by rfl) (by kernel_rfl) (by intro _ _ _ h;exact h) HS0.out (by rfl) ?hy0k ?rest0k
  case hy0k =>
   intro w' hSw
   have szs:=qcq hSw zs
   have szt0:=qcq hSw zt0
   have szt1:=qcq hSw zt1
   have szv:=qcq hSw zv
   have szn:=qcq hSw zn
   clear hSw
   go_simp
   try with_reducible rfl
  simp only [Act.put,q1q,q2q,q3q]
  refine wpAnyH_take2 1 (v:=?v1k) (by rfl) (by kernel_rfl) (by intro _ _ _ h;exact h) HS0.out (by rfl) ?hy1k ?rest1k
  case hy1k =>
   intro w' hSw
   have szs:=qcq hSw zs
   have szt0:=qcq hSw zt0
   have szt1:=qcq hSw zt1
   have szv:=qcq hSw zv
   have szn:=qcq hSw zn
   clear hSw
   go_simp
   try with_reducible rfl
  simp only [Act.put,q1q,q2q,q3q]
  refine wpAnyH_take2 2 (v:=?v2k) (by rfl) (by kernel_rfl) (by intro _ _ _ h;exact h) HS0.out (by rfl) ?hy2k ?rest2k
  case hy2k =>
   intro w' hSw
   have szs:=qcq hSw zs
   have szt0:=qcq hSw zt0
   have szt1:=qcq hSw zt1
   have szv:=qcq hSw zv
   have szn:=qcq hSw zn
   clear hSw
   go_simp
   try with_reducible rfl
  simp only [Act.put,q1q,q2q,q3q]
  refine wpAnyH_take2 3 (v:=?v3k) (by rfl) (by kernel_rfl) (by intro _ _ _ h;exact h) HS0.out (by rfl) ?hy3k ?rest3k
  case hy3k =>
   intro w' hSw
   have szs:=qcq hSw zs
   have szt0:=qcq hSw zt0
   have szt1:=qcq hSw zt1
   have szv:=qcq hSw zv
   have szn:=qcq hSw zn
   clear hSw
   go_simp
   try with_reducible rfl
  simp only [Act.put,q1q,q2q,q3q]
  refine wpAnyH_take2 4 (v:=?v4k) (by rfl) (by kernel_rfl) (by intro _ _ _ h;exact h) HS0.out (by rfl) ?hy4k ?rest4k
  case hy4k =>
   intro w' hSw
   have szs:=qcq hSw zs
   have szt0:=qcq hSw zt0
   have szt1:=qcq hSw zt1
   have szv:=qcq hSw zv
   have szn:=qcq hSw zn
   clear hSw
   go_simp
   try with_reducible rfl
  simp only [Act.put,q1q,q2q,q3q]
  refine wpAnyH_take2 5 (v:=?v5k) (by rfl) (by kernel_rfl) (by intro _ _ _ h;exact h) HS0.out (by rfl) ?hy5k ?rest5k
  case hy5k =>
   intro w' hSw
   have szs:=qcq hSw zs
   have szt0:=qcq hSw zt0
   have szt1:=qcq hSw zt1
   have szv:=qcq hSw zv
   have szn:=qcq hSw zn
   clear hSw
   go_simp
   try with_reducible rfl
  simp only [Act.put,q1q,q2q,q3q]
  refine wpAnyH_take2 6 (v:=?v6k) (by rfl) (by kernel_rfl) (by intro _ _ _ h;exact h) HS0.out (by rfl) ?hy6k ?rest6k
  case hy6k =>
   intro w' hSw
   have szs:=qcq hSw zs
   have szt0:=qcq hSw zt0
   have szt1:=qcq hSw zt1
   have szv:=qcq hSw zv
   have szn:=qcq hSw zn
   clear hSw
   go_simp
   try with_reducible rfl
  simp only [Act.put,q1q,q2q,q3q]
  refine wpAnyH_take2 7 (v:=?v7k) (by rfl) (by kernel_rfl) (by intro _ _ _ h;exact h) HS0.out (by rfl) ?hy7k ?rest7k
  case hy7k =>
   intro w' hSw
   have szs:=qcq hSw zs
   have szt0:=qcq hSw zt0
   have szt1:=qcq hSw zt1
   have szv:=qcq hSw zv
   have szn:=qcq hSw zn
   clear hSw
   go_simp
   rfl
  simp only [Act.put,q1q,q2q,q3q]
  refine wpAnyH_take2 8 (v:=?v8k) (by rfl) (by kernel_rfl) (by intro _ _ _ h;exact h) HS0.out (by rfl) ?hy8k ?rest8k
  case hy8k =>
   intro w' hSw
   have szs:=qcq hSw zs
   have szt0:=qcq hSw zt0
   have szt1:=qcq hSw zt1
   have szv:=qcq hSw zv
   have szn:=qcq hSw zn
   have sq0:=qcq hSw q0
   have sq1:=qcq hSw q1
   have sq2:=qcq hSw q2
   have sq3:=qcq hSw q3
   clear hSw
   go_simp
   try with_reducible rfl
  simp only [Act.put,q1q,q2q,q3q]
  refine wpAnyH_take2 11 (v:=?v11k) (by rfl) (by kernel_rfl) (by intro _ _ _ h;exact h) HS0.out (by rfl) ?hy11k ?rest11k
  case hy11k =>
   intro w' hSw
   clear hSw
   go_simp
   try with_reducible rfl
  simp only [Act.put,q1q,q2q,q3q]
  refine wpAnyH_one 9 (by rfl) (by kernel_rfl) rfl ?_
  intro K hK
  go_simp
  refine (holds_un _ _ t st _ HR.out HSM.out HSO.out HSTO.out).mono ?_;rintro e w4 ⟨u,rfl,hO,hb⟩
  have HO:=qhq hO
  have HS1:=qhq hb
  obtain ⟨A5,c5,rfl,-⟩:=hO.cap
  dsimp only
  refine hK.out _ _ HS1.out ?_
  clear hK K hO
  refine wpAnyH_take2 10 (v:=?v10n) (by rfl) (by kernel_rfl) (by intro _ _ _ h;exact h) HS1.out (by rfl) ?hy10n ?rest10n
  case hy10n =>
   intro w' hSw
   clear hSw
   go_simp
   try with_reducible rfl
  simp only [Act.put,q1q,q2q,q3q]
  refine wpAnyH_done (by kernel_rfl) ?_ _
  simp only [List.getElem_toArray,List.getElem_cons_zero,List.getElem_cons_succ,q1q,q2q,q3q]
  have hb:=HS1.out
  replace HMV:=qhq (HMV.out.trans (Mv.of_below hb (by omega)))
  replace HS:=qhq (HS.out.later hb);replace HX:=qhq (HX.out.later hb);replace HE:=qhq (HE.out.later hb);clear hb
  clear zs zt0 zt1 zv zn q0 q1 q2 q3 HS0 HS1 HR HA0 hsz
  have HO0:=qhq HO.out.rd
  have hlx8:lo ≤ w4.heap.size:=HMV.out.bl.size |> Nat.le_trans (by omega)
  go_wp2_with fail
  go_loopw [29] (fun k wr=>∃ j:Nat,j ≤ t.moms.length ∧ k=.int .i64 j ∧ Blk wr x 38 6 (tdF ⟨0,0,cntN t.moms st L.place j,⟨#[]⟩,[],[]⟩ (.slice none 0 0) (.slice none 0 0)) ∧ SeS wr lo s (.slice A1 t.fns.length c1) (.slice A2 t.moms.length c2) D L (.slice (some ⟨b3,0,none⟩) L.ss.length c3) (.slice A4 L.past.length c4) ∧ SeE wr s sb tb (.slice A1 t.fns.length c1) (.slice A2 t.moms.length c2) ∧ OwR wr W3.heap.size 4 1 t.moms.length (hdC t.moms st) (.slice A5 t.moms.length c5) ∧ Mx eTys x lo w wr) (fun k _=>t.moms.length - (intOf k).toNat)
  case atStart=>exact ⟨0,Nat.zero_le _,rfl,HX.out,HS.out,HE.out,HO.out,Mx.ofMv HMV.out⟩
  case round =>
   obtain ⟨j9,hj,rfl,hX,hS,hE,hO,hM⟩:=hrel
   clear HX HS HE HO HMV
   have HX:=qhq hX
   have HS:=qhq hS
   have HE:=qhq hE
   have HO:=qhq hO
   have HM:=qhq hM
   clear hX hS hE hM
   by_cases hlt:j9 < t.moms.length
   ·have hlt':(j9:Int) < (t.moms.length:Int):=by omega
    obtain ⟨A',c',he,-,hrow⟩:=hO.rd
    obtain ⟨rfl,rfl⟩:A5=A' ∧ c5=c':=by simpa using he
    obtain ⟨bh,oh,rfl,hch⟩:=hrow (by omega)
    have zh0:=hch j9 hlt 0 (by omega)
    rw [Nat.mul_one,Nat.add_zero] at zh0
    obtain ⟨hh,hhe⟩:∃ hh,holdsP t.moms st j9=hh:=⟨_,rfl⟩
    have zh:wr.cell? ⟨bh,oh + j9,none⟩=some (.bool hh):=zh0.trans (by rw [← hhe];rfl)
    have HHE:=qhq hhe
    have zs:wr.cell? ⟨sb,0,none⟩=some (.pointer (some ⟨s,0,none⟩)):=HE.out.sbx.cell (j:=0) (by omega)
    have za:wr.cell? ⟨s,2,none⟩=some (.int .i64 L.place):=HS.out.blk.cell (j:=2) (by omega)
    obtain ⟨cn,hcn⟩:∃ cn,cntN t.moms st L.place j9=cn:=⟨_,rfl⟩
    have hcr:=cntN_rng t.moms st L.place j9
    rw [hcn] at hcr
    have xc:wr.cell? ⟨x,2,none⟩=some (.int .i64 cn):=(HX.out.cell (j:=2) (by omega)).trans (by rw [← hcn];rfl)
    have xf:=HX.out.free 2
    have HCN:=qhq hcn
    clear he hrow hch zh0 hhe hcn hO
    cases hh with
    | false =>
     go_wp2_with fail
     go_roundw
     case rel =>
      refine ⟨j9 + 1,by omega,by go_num,HX.out.congr fun j hj=>?_,HS.out,HE.out,HO.out,HM.out⟩
      have e:cntN t.moms st L.place (j9 + 1)=cntN t.moms st L.place j9:=by
       show cntN t.moms st L.place j9 + (if (decide ((j9:Int) ≤ L.place) && holdsP t.moms st j9)=true then 1 else 0)=_
       rw [HHE.out]
       simp
      rw [e]
     case measure=>simp [intOf];omega
    | true =>
     by_cases hp:(j9:Int) ≤ L.place
     ·go_wp2_with fail
      go_roundw
      case rel =>
       refine ⟨j9 + 1,by omega,by go_num,(HX.out.set (j:=2) (by omega) _).congr fun j hj=>?_,HS.out.farX HX.out 2 _,HE.out.farX HX.out 2 _,HO.out.other HX.out (by decide) 2 _,HM.out.set hlx 2 _⟩
       have e:cntN t.moms st L.place (j9 + 1)=cn + 1:=by
        show cntN t.moms st L.place j9 + (if (decide ((j9:Int) ≤ L.place) && holdsP t.moms st j9)=true then 1 else 0)=_
        rw [HHE.out,decide_eq_true hp,HCN.out]
        rfl
       rw [e]
       match j,hj with
       | 0,_=>rfl
       | 1,_=>rfl
       | 2,_=>rfl
       | 3,_=>rfl
       | 4,_=>rfl
       | 5,_=>rfl
      case measure=>simp [intOf];omega
     ·have hp':L.place < (j9:Int):=by omega
      go_wp2_with fail
      go_roundw
      case rel =>
       refine ⟨j9 + 1,by omega,by go_num,HX.out.congr fun j hj=>?_,HS.out,HE.out,HO.out,HM.out⟩
       have e:cntN t.moms st L.place (j9 + 1)=cntN t.moms st L.place j9:=by
        show cntN t.moms st L.place j9 + (if (decide ((j9:Int) ≤ L.place) && holdsP t.moms st j9)=true then 1 else 0)=_
        rw [decide_eq_false (by omega)]
        simp
       rw [e]
      case measure=>simp [intOf];omega
   ·obtain rfl:j9=t.moms.length:=by omega
    clear hO
    go_wp2_with fail
    go_ret
    unfold doCount
    rw [if_neg (by rw [HIA.out];omega),HIA.out,Int.toNat_natCast,HST.out]
    exact ⟨rfl,⟨_,_,HS.out⟩,TdAt.of HX.out (fun j hj=>rfl) OwR.nil (owr_z OwR.nil),HM.out⟩
set_option linter.unusedSimpArgs false
theorem stF {P:Program} (fn:Fn) (bs:Array Value) (W:World) (a:Addr) (h:(W.cell? a).isSome=true) (hf:W.frozen? a=false):(store a (.func fn #[] bs)).run P W=.ok () (W.setCell a (.func fn #[] bs)):=by
 obtain ⟨u,hu⟩:=Option.isSome_iff_exists.1 h
 rw [run_store P W _ _ _ rfl,hu]
 simp [hf]
def fnB (F:Nat) (bs:Array Value):Value:=.func (.func F) #[] bs
def doV (sb tb sb2 tb2:Nat) (j:Nat):Value:=match j with
 | 1=>fnB 99 #[ptrB sb]
 | 2=>fnB 100 #[ptrB sb]
 | 3=>fnB 102 #[ptrB sb,ptrB tb]
 | 4=>fnB 105 #[ptrB sb,ptrB tb]
 | 5=>fnB 107 #[ptrB sb,ptrB tb]
 | 6=>fnB 108 #[ptrB sb,ptrB tb]
 | 7=>fnB 110 #[ptrB sb,ptrB tb]
 | 8=>fnB 112 #[ptrB sb]
 | 9=>fnB 113 #[ptrB tb,ptrB sb]
 | 10=>fnB 148 #[ptrB tb2,ptrB sb2]
 | 11=>fnB 150 #[ptrB sb2]
 | 12=>fnB 153 #[ptrB sb2]
 | 13=>fnB 155 #[ptrB sb2,ptrB tb2]
 | _=>.nilFunc
def loF (F:Nat → Value) (sb2 tb2:Nat):Nat → Value :=
 upd (upd (upd (upd F 15 (fnB 148 #[ptrB tb2,ptrB sb2])) 16 (fnB 150 #[ptrB sb2])) 17 (fnB 153 #[ptrB sb2])) 18 (fnB 155 #[ptrB sb2,ptrB tb2])
set_option maxRecDepth 100000 in
set_option maxHeartbeats 4000000 in
theorem looks_calls (s:Nat) (A1 A2:Option Addr) (n1 n2 c1 c2:Nat) (F:Nat → Value) (w:World) (h:Blk w s 94 19 F) (h0:F 0=.slice A1 n1 c1) (h1:F 1=.slice A2 n2 c2) :
  Calls Tryz.prog 114 #[.pointer (some ⟨s,0,none⟩)] w fun e w'=>∃ sb2 tb2,e=.returned (.tuple #[]) ∧ Blk w' s 94 19 (loF F sb2 tb2) ∧ SeE w' s sb2 tb2 (.slice A1 n1 c1) (.slice A2 n2 c2) ∧ Mv [94] s w w':=by
 have hst:=@stF Tryz.prog
 have HB:=qhq h
 have z0:w.cell? ⟨s,0,none⟩=some (.slice A1 n1 c1):=(h.cell (j:=0) (by omega)).trans (by rw [h0])
 have z1:w.cell? ⟨s,1,none⟩=some (.slice A2 n2 c2):=(h.cell (j:=1) (by omega)).trans (by rw [h1])
 have hsw:=h.lt
 clear h h0 h1
 go_enter Tryz.func114,Tryz.ntmps114
 go_upto_region 2 with fail
 have HS1:=qhq (((Blk.made w #[.pointer (some ⟨s,0,none⟩)] 83).alloc (.cells #[.slice A1 n1 c1,.slice A2 n2 c2] 26)).congr (f':=fun _=>ptrB s) fun j hj=>by
  obtain rfl:j=0:=by simp at hj;omega
  rfl)
 have HT1:=(Blk.made (w.alloc (.cells #[.pointer (some ⟨s,0,none⟩)] 83)) #[.slice A1 n1 c1,.slice A2 n2 c2] 26).congr (f':=trF (.slice A1 n1 c1) (.slice A2 n2 c2)) fun j hj=>by
  have hj:j < 2:=hj
  match j,hj with
  | 0,_=>rfl
  | 1,_=>rfl
 rw [World.size_alloc] at HT1
 have HT:=qhq HT1
 have hbl:=qaq (qaq (qrq _ w) (.cells #[.pointer (some ⟨s,0,none⟩)] 83)) (.cells #[.slice A1 n1 c1,.slice A2 n2 c2] 26)
 clear HT1
 generalize World.alloc (World.alloc w _) _=W at HS1 HT hbl ⊢
 replace HB:=qhq (HB.out.later hbl)
 have HM:=qhq (Mv.of_below (ts:=[94]) (lo:=s) hbl (Nat.le_of_lt hsw))
 clear z0 z1 hbl
 have zs:W.cell? ⟨w.heap.size,0,none⟩=some (.pointer (some ⟨s,0,none⟩)):=HS1.out.cell (j:=0) (by simp)
 have x15:=HB.out.cell (j:=15) (by omega)
 have f15:=HB.out.free 15
 have x16:=HB.out.cell (j:=16) (by omega)
 have f16:=HB.out.free 16
 have x17:=HB.out.cell (j:=17) (by omega)
 have f17:=HB.out.free 17
 have x18:=HB.out.cell (j:=18) (by omega)
 have f18:=HB.out.free 18
 have hne:s ≠ w.heap.size:=by omega
 go_wp2_with fail
 go_end0
 refine ⟨w.heap.size,w.heap.size + 1,rfl,?_,?_,?_⟩
 ·exact (((HB.out.set (j:=15) (by omega) _).set (j:=16) (by omega) _).set (j:=17) (by omega) _).set (j:=18) (by omega) _
 ·have hs2:=HS1.out.ne HB.out (by decide)
  have ht2:=HT.out.ne HB.out (by decide)
  exact ⟨(((HS1.out.far hs2 _).far hs2 _).far hs2 _).far hs2 _,(((HT.out.far ht2 _).far ht2 _).far ht2 _).far ht2 _⟩
 ·exact (((HM.out.set (p:=⟨s,15,none⟩) (Nat.le_refl _) HB.out (by simp) _).set (p:=⟨s,16,none⟩) (Nat.le_refl _) (HB.out.set (j:=15) (by omega) _) (by simp) _).set (p:=⟨s,17,none⟩) (Nat.le_refl _) ((HB.out.set (j:=15) (by omega) _).set (j:=16) (by omega) _) (by simp) _).set (p:=⟨s,18,none⟩) (Nat.le_refl _) (((HB.out.set (j:=15) (by omega) _).set (j:=16) (by omega) _).set (j:=17) (by omega) _) (by simp) _
set_option linter.unusedSimpArgs false
def nsF (v1 v2:Value) (sb tb:Nat) (j:Nat):Value:=match j with
 | 0=>v1 | 1=>v2 | 2=>.int .i64 (-1) | 3=>.slice none 0 0 | 4=>.slice none 0 0
 | 6=>doV sb tb 0 0 1 | 7=>doV sb tb 0 0 2 | 8=>doV sb tb 0 0 3 | 9=>doV sb tb 0 0 4 | 10=>doV sb tb 0 0 5 | 11=>doV sb tb 0 0 6 | 12=>doV sb tb 0 0 7 | 13=>doV sb tb 0 0 8 | 14=>doV sb tb 0 0 9
 | _=>.nilFunc
theorem nsF_end (v1 v2:Value) (sb tb sb2 tb2:Nat) (j:Nat) (hj:j < 19):loF (nsF v1 v2 sb tb) sb2 tb2 j=seF v1 v2 lk0.place (.slice none 0 0) (.slice none 0 0) (doV sb tb sb2 tb2) j:=by
 match j,hj with
 | 0,_=>rfl
 | 1,_=>rfl
 | 2,_=>rfl
 | 3,_=>rfl
 | 4,_=>rfl
 | 5,_=>rfl
 | 6,_=>rfl
 | 7,_=>rfl
 | 8,_=>rfl
 | 9,_=>rfl
 | 10,_=>rfl
 | 11,_=>rfl
 | 12,_=>rfl
 | 13,_=>rfl
 | 14,_=>rfl
 | 15,_=>rfl
 | 16,_=>rfl
 | 17,_=>rfl
 | 18,_=>rfl
 | j + 19,hj=>exact absurd hj (by omega)
set_option maxRecDepth 100000 in
set_option maxHeartbeats 4000000 in
theorem newSession_calls (A1 A2:Option Addr) (n1 n2 c1 c2:Nat) (w:World) :
  Calls Tryz.prog 39 #[.agg #[.slice A1 n1 c1,.slice A2 n2 c2]] w fun e w'=>∃ s sb tb sb2 tb2,e=.returned (.pointer (some ⟨s,0,none⟩)) ∧ SeS w' w.heap.size s (.slice A1 n1 c1) (.slice A2 n2 c2) (doV sb tb sb2 tb2) lk0 (.slice none 0 0) (.slice none 0 0) ∧
   SeE w' s sb tb (.slice A1 n1 c1) (.slice A2 n2 c2) ∧ SeE w' s sb2 tb2 (.slice A1 n1 c1) (.slice A2 n2 c2) ∧ w.heap.size ≤ s ∧ Below w.heap.size w w':=by
 have hst:=@stF Tryz.prog
 go_enter Tryz.func39,Tryz.ntmps39
 go_upto_region 2 with fail
 have hB1:=((Blk.made (w.alloc (.cells #[.slice A1 n1 c1,.slice A2 n2 c2] 26)) #[.slice A1 n1 c1,.slice A2 n2 c2,.int .i64 (-1),.slice none 0 0,.slice none 0 0,.nilFunc,.nilFunc,.nilFunc,.nilFunc,.nilFunc,.nilFunc,.nilFunc,.nilFunc,.nilFunc,.nilFunc,.nilFunc,.nilFunc,.nilFunc,.nilFunc] 94).alloc (.cells #[.pointer (some ⟨w.heap.size + 1,0,none⟩)] 83)).congr (f':=seF (.slice A1 n1 c1) (.slice A2 n2 c2) (-1) (.slice none 0 0) (.slice none 0 0) (fun _=>.nilFunc)) fun j hj=>by
  have hj:j < 19:=hj
  match j,hj with
  | 0,_=>rfl
  | 1,_=>rfl
  | 2,_=>rfl
  | 3,_=>rfl
  | 4,_=>rfl
  | 5,_=>rfl
  | 6,_=>rfl
  | 7,_=>rfl
  | 8,_=>rfl
  | 9,_=>rfl
  | 10,_=>rfl
  | 11,_=>rfl
  | 12,_=>rfl
  | 13,_=>rfl
  | 14,_=>rfl
  | 15,_=>rfl
  | 16,_=>rfl
  | 17,_=>rfl
  | 18,_=>rfl
  | j + 19,hj=>exact absurd hj (by omega)
 have hT1:=(((Blk.made w #[.slice A1 n1 c1,.slice A2 n2 c2] 26).alloc (.cells #[.slice A1 n1 c1,.slice A2 n2 c2,.int .i64 (-1),.slice none 0 0,.slice none 0 0,.nilFunc,.nilFunc,.nilFunc,.nilFunc,.nilFunc,.nilFunc,.nilFunc,.nilFunc,.nilFunc,.nilFunc,.nilFunc,.nilFunc,.nilFunc,.nilFunc] 94)).alloc (.cells #[.pointer (some ⟨w.heap.size + 1,0,none⟩)] 83)).congr (f':=trF (.slice A1 n1 c1) (.slice A2 n2 c2)) fun j hj=>by
  have hj:j < 2:=hj
  match j,hj with
  | 0,_=>rfl
  | 1,_=>rfl
 have hS1:=(Blk.made ((w.alloc (.cells #[.slice A1 n1 c1,.slice A2 n2 c2] 26)).alloc (.cells #[.slice A1 n1 c1,.slice A2 n2 c2,.int .i64 (-1),.slice none 0 0,.slice none 0 0,.nilFunc,.nilFunc,.nilFunc,.nilFunc,.nilFunc,.nilFunc,.nilFunc,.nilFunc,.nilFunc,.nilFunc,.nilFunc,.nilFunc,.nilFunc,.nilFunc] 94)) #[.pointer (some ⟨w.heap.size + 1,0,none⟩)] 83).congr (f':=fun _=>ptrB (w.heap.size + 1)) fun j hj=>by
  obtain rfl:j=0:=by simp at hj;omega
  rfl
 have hbl:=qaq (qaq (qaq (qrq _ w) (.cells #[.slice A1 n1 c1,.slice A2 n2 c2] 26)) (.cells #[.slice A1 n1 c1,.slice A2 n2 c2,.int .i64 (-1),.slice none 0 0,.slice none 0 0,.nilFunc,.nilFunc,.nilFunc,.nilFunc,.nilFunc,.nilFunc,.nilFunc,.nilFunc,.nilFunc,.nilFunc,.nilFunc,.nilFunc,.nilFunc,.nilFunc] 94)) (.cells #[.pointer (some ⟨w.heap.size + 1,0,none⟩)] 83)
 simp only [World.size_alloc] at hB1 hT1 hS1
 generalize World.alloc (World.alloc (World.alloc w _) _) _=W at hB1 hT1 hS1 hbl ⊢
 have HB:Hid (Blk W (w.heap.size + 1) 94 19 (seF (.slice A1 n1 c1) (.slice A2 n2 c2) (-1) (.slice none 0 0) (.slice none 0 0) (fun _=>.nilFunc))):=qhq hB1
 have HT:Hid (Blk W w.heap.size 26 2 (trF (.slice A1 n1 c1) (.slice A2 n2 c2))):=qhq hT1
 have HS:Hid (Blk W (w.heap.size + 1 + 1) 83 1 (fun _=>ptrB (w.heap.size + 1))):=qhq hS1
 have HL:=qhq hbl
 clear hB1 hT1 hS1 hbl
 have zs:W.cell? ⟨w.heap.size + 1 + 1,0,none⟩=some (.pointer (some ⟨w.heap.size + 1,0,none⟩)):=HS.out.cell (j:=0) (by omega)
 have x6:W.cell? ⟨w.heap.size + 1,6,none⟩=some .nilFunc:=HB.out.cell (j:=6) (by omega)
 have f6:=HB.out.free 6
 have x7:W.cell? ⟨w.heap.size + 1,7,none⟩=some .nilFunc:=HB.out.cell (j:=7) (by omega)
 have f7:=HB.out.free 7
 have x8:W.cell? ⟨w.heap.size + 1,8,none⟩=some .nilFunc:=HB.out.cell (j:=8) (by omega)
 have f8:=HB.out.free 8
 have x9:W.cell? ⟨w.heap.size + 1,9,none⟩=some .nilFunc:=HB.out.cell (j:=9) (by omega)
 have f9:=HB.out.free 9
 have x10:W.cell? ⟨w.heap.size + 1,10,none⟩=some .nilFunc:=HB.out.cell (j:=10) (by omega)
 have f10:=HB.out.free 10
 have x11:W.cell? ⟨w.heap.size + 1,11,none⟩=some .nilFunc:=HB.out.cell (j:=11) (by omega)
 have f11:=HB.out.free 11
 have x12:W.cell? ⟨w.heap.size + 1,12,none⟩=some .nilFunc:=HB.out.cell (j:=12) (by omega)
 have f12:=HB.out.free 12
 have x13:W.cell? ⟨w.heap.size + 1,13,none⟩=some .nilFunc:=HB.out.cell (j:=13) (by omega)
 have f13:=HB.out.free 13
 have x14:W.cell? ⟨w.heap.size + 1,14,none⟩=some .nilFunc:=HB.out.cell (j:=14) (by omega)
 have f14:=HB.out.free 14
 go_wp2_with fail
 have hB9:=(((((((((HB.out.set (j:=6) (by omega) (.func (.func 99) #[] #[.pointer (some ⟨w.heap.size + 1 + 1,0,none⟩)])).set (j:=7) (by omega) (.func (.func 100) #[] #[.pointer (some ⟨w.heap.size + 1 + 1,0,none⟩)])).set (j:=8) (by omega) (.func (.func 102) #[] #[.pointer (some ⟨w.heap.size + 1 + 1,0,none⟩),.pointer (some ⟨w.heap.size,0,none⟩)])).set (j:=9) (by omega) (.func (.func 105) #[] #[.pointer (some ⟨w.heap.size + 1 + 1,0,none⟩),.pointer (some ⟨w.heap.size,0,none⟩)])).set (j:=10) (by omega) (.func (.func 107) #[] #[.pointer (some ⟨w.heap.size + 1 + 1,0,none⟩),.pointer (some ⟨w.heap.size,0,none⟩)])).set (j:=11) (by omega) (.func (.func 108) #[] #[.pointer (some ⟨w.heap.size + 1 + 1,0,none⟩),.pointer (some ⟨w.heap.size,0,none⟩)])).set (j:=12) (by omega) (.func (.func 110) #[] #[.pointer (some ⟨w.heap.size + 1 + 1,0,none⟩),.pointer (some ⟨w.heap.size,0,none⟩)])).set (j:=13) (by omega) (.func (.func 112) #[] #[.pointer (some ⟨w.heap.size + 1 + 1,0,none⟩)])).set (j:=14) (by omega) (.func (.func 113) #[] #[.pointer (some ⟨w.heap.size,0,none⟩),.pointer (some ⟨w.heap.size + 1 + 1,0,none⟩)]))
 have hB10:Blk _ (w.heap.size + 1) 94 19 (nsF (.slice A1 n1 c1) (.slice A2 n2 c2) (w.heap.size + 1 + 1) w.heap.size):=hB9.congr fun j hj=>by
  match j,hj with
  | 0,_=>rfl
  | 1,_=>rfl
  | 2,_=>rfl
  | 3,_=>rfl
  | 4,_=>rfl
  | 5,_=>rfl
  | 6,_=>rfl
  | 7,_=>rfl
  | 8,_=>rfl
  | 9,_=>rfl
  | 10,_=>rfl
  | 11,_=>rfl
  | 12,_=>rfl
  | 13,_=>rfl
  | 14,_=>rfl
  | 15,_=>rfl
  | 16,_=>rfl
  | 17,_=>rfl
  | 18,_=>rfl
  | j + 19,hj=>exact absurd hj (by omega)
 clear hB9
 have hs2:=HS.out.ne HB.out (by decide)
 have ht2:=HT.out.ne HB.out (by decide)
 have hS9:=(((((((((HS.out.far (p:=⟨w.heap.size + 1,6,none⟩) hs2 (.func (.func 99) #[] #[.pointer (some ⟨w.heap.size + 1 + 1,0,none⟩)])).far (p:=⟨w.heap.size + 1,7,none⟩) hs2 (.func (.func 100) #[] #[.pointer (some ⟨w.heap.size + 1 + 1,0,none⟩)])).far (p:=⟨w.heap.size + 1,8,none⟩) hs2 (.func (.func 102) #[] #[.pointer (some ⟨w.heap.size + 1 + 1,0,none⟩),.pointer (some ⟨w.heap.size,0,none⟩)])).far (p:=⟨w.heap.size + 1,9,none⟩) hs2 (.func (.func 105) #[] #[.pointer (some ⟨w.heap.size + 1 + 1,0,none⟩),.pointer (some ⟨w.heap.size,0,none⟩)])).far (p:=⟨w.heap.size + 1,10,none⟩) hs2 (.func (.func 107) #[] #[.pointer (some ⟨w.heap.size + 1 + 1,0,none⟩),.pointer (some ⟨w.heap.size,0,none⟩)])).far (p:=⟨w.heap.size + 1,11,none⟩) hs2 (.func (.func 108) #[] #[.pointer (some ⟨w.heap.size + 1 + 1,0,none⟩),.pointer (some ⟨w.heap.size,0,none⟩)])).far (p:=⟨w.heap.size + 1,12,none⟩) hs2 (.func (.func 110) #[] #[.pointer (some ⟨w.heap.size + 1 + 1,0,none⟩),.pointer (some ⟨w.heap.size,0,none⟩)])).far (p:=⟨w.heap.size + 1,13,none⟩) hs2 (.func (.func 112) #[] #[.pointer (some ⟨w.heap.size + 1 + 1,0,none⟩)])).far (p:=⟨w.heap.size + 1,14,none⟩) hs2 (.func (.func 113) #[] #[.pointer (some ⟨w.heap.size,0,none⟩),.pointer (some ⟨w.heap.size + 1 + 1,0,none⟩)]))
 have hT9:=(((((((((HT.out.far (p:=⟨w.heap.size + 1,6,none⟩) ht2 (.func (.func 99) #[] #[.pointer (some ⟨w.heap.size + 1 + 1,0,none⟩)])).far (p:=⟨w.heap.size + 1,7,none⟩) ht2 (.func (.func 100) #[] #[.pointer (some ⟨w.heap.size + 1 + 1,0,none⟩)])).far (p:=⟨w.heap.size + 1,8,none⟩) ht2 (.func (.func 102) #[] #[.pointer (some ⟨w.heap.size + 1 + 1,0,none⟩),.pointer (some ⟨w.heap.size,0,none⟩)])).far (p:=⟨w.heap.size + 1,9,none⟩) ht2 (.func (.func 105) #[] #[.pointer (some ⟨w.heap.size + 1 + 1,0,none⟩),.pointer (some ⟨w.heap.size,0,none⟩)])).far (p:=⟨w.heap.size + 1,10,none⟩) ht2 (.func (.func 107) #[] #[.pointer (some ⟨w.heap.size + 1 + 1,0,none⟩),.pointer (some ⟨w.heap.size,0,none⟩)])).far (p:=⟨w.heap.size + 1,11,none⟩) ht2 (.func (.func 108) #[] #[.pointer (some ⟨w.heap.size + 1 + 1,0,none⟩),.pointer (some ⟨w.heap.size,0,none⟩)])).far (p:=⟨w.heap.size + 1,12,none⟩) ht2 (.func (.func 110) #[] #[.pointer (some ⟨w.heap.size + 1 + 1,0,none⟩),.pointer (some ⟨w.heap.size,0,none⟩)])).far (p:=⟨w.heap.size + 1,13,none⟩) ht2 (.func (.func 112) #[] #[.pointer (some ⟨w.heap.size + 1 + 1,0,none⟩)])).far (p:=⟨w.heap.size + 1,14,none⟩) ht2 (.func (.func 113) #[] #[.pointer (some ⟨w.heap.size,0,none⟩),.pointer (some ⟨w.heap.size + 1 + 1,0,none⟩)]))
 have hL9:=(bl_set (bl_set (bl_set (bl_set (bl_set (bl_set (bl_set (bl_set (bl_set HL.out (p:=⟨w.heap.size + 1,6,none⟩) (Nat.le_succ _) (.func (.func 99) #[] #[.pointer (some ⟨w.heap.size + 1 + 1,0,none⟩)])) (p:=⟨w.heap.size + 1,7,none⟩) (Nat.le_succ _) (.func (.func 100) #[] #[.pointer (some ⟨w.heap.size + 1 + 1,0,none⟩)])) (p:=⟨w.heap.size + 1,8,none⟩) (Nat.le_succ _) (.func (.func 102) #[] #[.pointer (some ⟨w.heap.size + 1 + 1,0,none⟩),.pointer (some ⟨w.heap.size,0,none⟩)])) (p:=⟨w.heap.size + 1,9,none⟩) (Nat.le_succ _) (.func (.func 105) #[] #[.pointer (some ⟨w.heap.size + 1 + 1,0,none⟩),.pointer (some ⟨w.heap.size,0,none⟩)])) (p:=⟨w.heap.size + 1,10,none⟩) (Nat.le_succ _) (.func (.func 107) #[] #[.pointer (some ⟨w.heap.size + 1 + 1,0,none⟩),.pointer (some ⟨w.heap.size,0,none⟩)])) (p:=⟨w.heap.size + 1,11,none⟩) (Nat.le_succ _) (.func (.func 108) #[] #[.pointer (some ⟨w.heap.size + 1 + 1,0,none⟩),.pointer (some ⟨w.heap.size,0,none⟩)])) (p:=⟨w.heap.size + 1,12,none⟩) (Nat.le_succ _) (.func (.func 110) #[] #[.pointer (some ⟨w.heap.size + 1 + 1,0,none⟩),.pointer (some ⟨w.heap.size,0,none⟩)])) (p:=⟨w.heap.size + 1,13,none⟩) (Nat.le_succ _) (.func (.func 112) #[] #[.pointer (some ⟨w.heap.size + 1 + 1,0,none⟩)])) (p:=⟨w.heap.size + 1,14,none⟩) (Nat.le_succ _) (.func (.func 113) #[] #[.pointer (some ⟨w.heap.size,0,none⟩),.pointer (some ⟨w.heap.size + 1 + 1,0,none⟩)]))
 generalize World.setCell (World.setCell (World.setCell (World.setCell (World.setCell (World.setCell (World.setCell (World.setCell (World.setCell W _ _) _ _) _ _) _ _) _ _) _ _) _ _) _ _) _ _=W9 at hB10 hS9 hT9 hL9 ⊢
 have HS9:=qhq hS9
 have HT9:=qhq hT9
 have HL9:=qhq hL9
 refine (looks_calls (w.heap.size + 1) A1 A2 n1 n2 c1 c2 _ W9 hB10 rfl rfl).mono ?_;rintro e w8 ⟨sb2,tb2,rfl,hB,hE,hm⟩
 have HB8:=qhq hB
 have HE8:=qhq hE
 have HS8:=qhq (HS9.out.mv hm (by decide))
 have HT8:=qhq (HT9.out.mv hm (by decide))
 have HL8:=qhq (bl_trans9 HL9.out (bl_low9 hm.bl (Nat.le_succ _)))
 clear hB hE hm hB10 hS9 hT9 hL9 HS9 HT9 HL9 HB HT HS HL zs x6 f6 x7 f7 x8 f8 x9 f9 x10 f10 x11 f11 x12 f12 x13 f13 x14 f14
 have zs:w8.cell? ⟨w.heap.size + 1 + 1,0,none⟩=some (.pointer (some ⟨w.heap.size + 1,0,none⟩)):=HS8.out.cell (j:=0) (by omega)
 go_wp2_with fail
 go_ret
 exact ⟨w.heap.size + 1,w.heap.size + 1 + 1,w.heap.size,sb2,tb2,rfl,⟨HB8.out.congr fun j hj=>nsF_end _ _ _ _ _ _ j hj,OwR.nil,fun _=>0,fun _=>0,OwR.nil,fun i hi=>absurd hi (by simp [lk0])⟩,⟨HS8.out,HT8.out⟩,HE8.out,Nat.le_succ _,HL8.out⟩
end Go.Proofs.YtcklnjjbhngbcaaGreatDoor
