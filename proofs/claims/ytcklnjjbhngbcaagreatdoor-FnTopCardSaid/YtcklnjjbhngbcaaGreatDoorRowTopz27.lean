/- Lemmas and contracts of functions that the theorem of this claim leans on (texts B12, E5, E6, E7). -/
import Derived.Test.YtcklnjjbhngbcaaGreatDoorRowTopz00
import Derived.Laws.OwnMore
import Derived.Test.YtcklnjjbhngbcaaGreatDoorRowUnz05
import Derived.Lib.SliceRun
import Derived.Test.YtcklnjjbhngbcaaGreatDoorRowTopz26
namespace Go.Proofs.Lens
open Go.Proofs.YtcklnjjbhngbcaaGreatDoor
open Go.RowKit
theorem OwR.lit {w:World} {e:TypeId} {sz n:Nat} {C:Nat → Nat → Value} (cs:Array Value) (hs:cs.size=n * sz) (hm:n ≤ maxLen) (hC:∀ i,i < n → ∀ j,j < sz → cs.getD (i * sz + j) undef=C i j) :
  OwR (w.alloc (.cells cs e)) w.heap.size e sz n C (.slice (some ⟨w.heap.size,0,none⟩) n n) :=
 .inr ⟨w.heap.size,n,fun j=>cs.getD j undef,rfl,Nat.le_refl _,Nat.le_refl _,hm,by rw [← hs];exact Blk.made w cs e,hC⟩
section
variable {P : Program} {o : Oper} {a : Act} {K : Act → World → Prop} {Q : Exit → Act → World → Prop}
theorem wp_appendR (w:World) (s x:Operand) (t:TypeId)
  (ho:o.op=.call { callee:=.builtin .append,args:=#[s,x],argTypes:=#[t,t] }) (lo:Nat) (e:TypeId) (z:Value) (sz bytes k:Nat) (ht:P.underlying t=some (.slice e))
  (hinfo:(P.info? e).map (fun i=>(i.zero,i.size,i.bytes))=some (some z,sz,bytes)) (hzs:z.cells.size=sz) (hsz:0 < sz) (v:Value) (n:Nat) (C C' C2:Nat → Nat → Value) (hs:a.eval s=v)
  (hO:OwR w lo e sz n C v) (A:Option Addr) (c:Nat) (hx:a.eval x=.slice A k c)
  (hsrc:(A=none ∧ k=0 ∧ c=0) ∨ ∃ b off,A=some ⟨b,off,none⟩ ∧ ∀ i,i < k → ∀ j,j < sz → w.cell? ⟨b,off + (i * sz + j),none⟩=some (C2 i j)) (h1:∀ i j,(C2 i j).oneCell'=true)
  (hC:∀ i,i < n → ∀ j,j < sz → C i j=C' i j) (hN:∀ i,i < k → ∀ j,j < sz → C2 i j=C' (n + i) j) (hlo:lo ≤ w.heap.size) (hn:n + k ≤ 9223372036854775807) (hb:(n + k) * bytes ≤ 140737488355328)
  (h:∀ v' w',OwR w' lo e sz (n + k) C' v' → w.grownBy w' v.ownBlock → K (a.put o.dst v') w'):o.wp P a w K Q:=by
 cases hi:P.info? e with
 | none=>rw [hi] at hinfo;cases hinfo
 | some i =>
  rw [hi] at hinfo
  simp only [Option.map_some,Option.some.injEq,Prod.mk.injEq] at hinfo
  obtain ⟨hz,hs1,hb1⟩:=hinfo
  rcases hsrc with ⟨rfl,rfl,rfl⟩ | ⟨b,off,rfl,hcell⟩
  ·have hr:=run_append_owned_none (P:=P) (w:=w) lo t o.type e i sz ht hi v n _ hO.row
   unfold Oper.wp execOp
   simp only [ho,resolve,invoke,builtin,Sem.run_bind,Sem.run_pure,Result.andThen_ok,List.map_toArray,List.map_cons,List.map_nil,hs,hx,hr]
   exact h v w (hO.congr hC) (World.grownBy.refl w _)
  ·obtain ⟨v',w',hr,h2,h3,-⟩:=run_append_own (P:=P) w lo t o.type e i z sz bytes ht hi hz hs1 hb1 hzs hsz v n (cellsR sz C n) hO.row ⟨b,off,none⟩ k c (cellsR sz C2 k) (cellsR_length _ _ _)
    (fun j u hj=>by
     have hlt:=(List.getElem?_eq_some_iff.1 hj).1
     rw [cellsR_length] at hlt
     have h4:j / sz < k:=by rw [Nat.div_lt_iff_lt_mul hsz];exact hlt
     have h5:j % sz < sz:=Nat.mod_lt _ hsz
     have e1:j / sz * sz + j % sz=j:=by rw [Nat.mul_comm];exact Nat.div_add_mod j sz
     have h6:=cellsR_at (C:=C2) h4 h5
     rw [e1,hj] at h6
     have h7:=hcell _ h4 _ h5
     rw [e1] at h7
     have ha:(Addr.add ⟨b,off,none⟩ j)=⟨b,off + j,none⟩:=by unfold Addr.add;split <;> simp_all
     rw [ha,h7,h6])
    (fun u hu=>by
     obtain ⟨p,-,rfl⟩:=List.mem_map.1 hu
     exact h1 _ _) (by simp only [maxLen];omega) hb hlo
   unfold Oper.wp execOp
   simp only [ho,resolve,invoke,builtin,Sem.run_bind,Sem.run_pure,Result.andThen_ok,List.map_toArray,List.map_cons,List.map_nil,hs,hx,hr]
   exact h v' w' (OwR.of_append h2 hC fun i hi j hj=>by rw [cellsR_at hi hj,hN i hi j hj]) h3
end
section
variable {P : Program} {ops : Array Oper} {rest : List Oper} {o : Oper} {a : Act} {Q : Exit → Act → World → Prop}
theorem wpList_appendR (w:World) (hgd:o.guard=none) (s x:Operand) (t:TypeId)
  (ho:o.op=.call { callee:=.builtin .append,args:=#[s,x],argTypes:=#[t,t] }) (lo:Nat) (e:TypeId) (z:Value) (sz bytes k:Nat) (ht:P.underlying t=some (.slice e))
  (hinfo:(P.info? e).map (fun i=>(i.zero,i.size,i.bytes))=some (some z,sz,bytes)) (hzs:z.cells.size=sz) (hsz:0 < sz) (v:Value) (n:Nat) (C C' C2:Nat → Nat → Value) (hs:a.eval s=v)
  (hO:OwR w lo e sz n C v) (A:Option Addr) (c:Nat) (hx:a.eval x=.slice A k c)
  (hsrc:(A=none ∧ k=0 ∧ c=0) ∨ ∃ b off,A=some ⟨b,off,none⟩ ∧ ∀ i,i < k → ∀ j,j < sz → w.cell? ⟨b,off + (i * sz + j),none⟩=some (C2 i j)) (h1:∀ i j,(C2 i j).oneCell'=true)
  (hC:∀ i,i < n → ∀ j,j < sz → C i j=C' i j) (hN:∀ i,i < k → ∀ j,j < sz → C2 i j=C' (n + i) j) (hlo:lo ≤ w.heap.size) (hn:n + k ≤ 9223372036854775807) (hb:(n + k) * bytes ≤ 140737488355328)
  (h:∀ v' w',OwR w' lo e sz (n + k) C' v' → w.grownBy w' v.ownBlock → wpList P ops Q rest (a.put o.dst v') w'):wpList P ops Q (o :: rest) a w :=
 wpList_plain hgd fun _K hK=>wp_appendR w s x t ho lo e z sz bytes k ht hinfo hzs hsz v n C C' C2 hs hO A c hx hsrc h1 hC hN hlo hn hb fun v' w' h2 h3=>hK _ _ (h v' w' h2 h3)
end
end Go.Proofs.Lens

namespace Go.Proofs.YtcklnjjbhngbcaaGreatDoor
open Go.RowKit Go.Proofs.Lens
set_option linter.unusedSimpArgs false
theorem wpList_append0 {P:Program} {ops:Array Oper} {rest:List Oper} {o:Oper} {a:Act} {Q:Exit → Act → World → Prop} (w:World) (hgd:o.guard=none) (s x:Operand) (t:TypeId)
  (ho:o.op=.call { callee:=.builtin .append,args:=#[s,x],argTypes:=#[t,t] }) (lo:Nat) (e:TypeId) (z:Value) (sz bytes:Nat) (ht:P.underlying t=some (.slice e))
  (hinfo:(P.info? e).map (fun i=>(i.zero,i.size,i.bytes))=some (some z,sz,bytes)) (v:Value) (n:Nat) (C:Nat → Nat → Value) (hs:a.eval s=v) (hO:OwR w lo e sz n C v) (A:Option Addr) (c:Nat) (hx:a.eval x=.slice A 0 c)
  (h:wpList P ops Q rest (a.put o.dst v) w):wpList P ops Q (o :: rest) a w:=by
 refine wpList_plain hgd fun K hK=>?_
 cases hi:P.info? e with
 | none=>rw [hi] at hinfo;cases hinfo
 | some i =>
  have hr:(Builtin.append_ #[t,t] o.type #[v,.slice A 0 c]).run P w=.ok v w:=by
   rcases hO with ⟨rfl,rfl⟩ | ⟨b,cap,f,rfl,h2,h3,h4,h5,h6⟩
   ·cases A with
    | none=>simp [Builtin.append_,run_underlying ht,sizeOf,typeInfo,hi,Builtin.lenOf,Builtin.firstCells]
    | some p=>simp [Builtin.append_,run_underlying ht,sizeOf,typeInfo,hi,Builtin.lenOf,Builtin.firstCells,loadCells,loadCellsFrom,storeCells]
   ·cases A with
    | none=>simp [Builtin.append_,run_underlying ht,sizeOf,typeInfo,hi,Builtin.lenOf,Builtin.firstCells,loadCells,loadCellsFrom,storeCells,h3]
    | some p=>simp [Builtin.append_,run_underlying ht,sizeOf,typeInfo,hi,Builtin.lenOf,Builtin.firstCells,loadCells,loadCellsFrom,storeCells,h3]
  unfold Oper.wp execOp
  simp only [ho,resolve,invoke,builtin,Sem.run_bind,Sem.run_pure,Result.andThen_ok,List.map_toArray,List.map_cons,List.map_nil,hs,hx,hr]
  exact hK _ _ h
set_option maxRecDepth 100000 in
set_option maxHeartbeats 4000000 in
theorem clone_calls (A:Option Addr) (c:Nat) (xs:List PVar) (w:World) (h:RdVars w (.slice A xs.length c) xs) (hn:xs.length ≤ 1048576) :
  Calls Tryz.prog 151 #[.slice A xs.length c] w (OwRet w 40 2 xs.length (varC xs)):=by
 have H:=qhq h
 obtain ⟨A',c',he,-,hrow⟩:=h
 obtain ⟨rfl,rfl⟩:A=A' ∧ c=c':=by simpa using he
 have heq:=fun (W:World)=>Go.Lib.run_eql_slice_nil (P:=Tryz.prog) W 36 40 A xs.length c 0 0 Tryz.underlying36
 by_cases h0:xs.length=0
 ·rw [h0] at heq ⊢
  cases A with
  | none =>
   go_enter Tryz.func151,Tryz.ntmps151
   go_wp2
   go_ret
   exact ⟨_,rfl,OwR.nil,qrq _ _⟩
  | some p =>
   go_enter Tryz.func151,Tryz.ntmps151
   go_wp2_with (at_builtin;refine stopped ?_)
   unfold Stopped
   refine wpList_append0 _ (by rfl) _ _ 36 (by rfl) w.heap.size 40 _ 2 32 Tryz.underlying36 i_var' (.slice (some ⟨w.heap.size,0,none⟩) 0 0) 0 (varC xs) (by rfl) (OwR.lit #[] rfl (by simp) (fun i hi=>absurd hi (by omega))) _ _ (by rfl) ?_
   go_wp2_with fail
   go_ret
   exact ⟨_,rfl,OwR.lit #[] rfl (by simp) (fun i hi=>absurd hi (by omega)),qaq (qrq _ _) _⟩
 ·obtain ⟨b,o,rfl,hc⟩:=hrow (by omega)
  go_enter Tryz.func151,Tryz.ntmps151
  go_wp2_with (at_builtin;refine stopped ?_)
  unfold Stopped
  refine wpList_appendR _ (by rfl) _ _ 36 (by rfl) w.heap.size 40 _ 2 32 xs.length Tryz.underlying36 i_var' rfl (by omega) (.slice (some ⟨w.heap.size,0,none⟩) 0 0) 0 (varC xs) (varC xs) (varC xs) (by rfl) (OwR.lit #[] rfl (by simp) (fun i hi=>absurd hi (by omega))) _ _ (by rfl)
   (.inr ⟨b,o,rfl,fun i hi j hj=>by rw [← Nat.add_assoc];exact qcq (qaq (qrq _ w) (.cells #[] 40)) (hc i hi j hj)⟩) (fun i j=>by unfold varC;split <;> rfl) (fun i hi=>absurd hi (by omega)) (fun i hi j hj=>by rw [Nat.zero_add]) (by simp) (by omega) (by omega) ?_
  intro v5 w5 hO5 hG5
  rw [Nat.zero_add] at hO5
  have HO5:=qhq hO5
  have HB5:Hid (Below w.heap.size w w5):=qhq (bl_grown (qaq (qrq _ _) _) hG5 (Nat.le_refl _))
  clear hO5 hG5 heq
  go_wp2_with fail
  go_ret
  exact ⟨_,rfl,HO5.out,HB5.out⟩
def MoPost (w:World) (vars:List PVar) (e:Ending) (w':World):Prop :=
 ∃ (m:PMom) (Av:Option Addr) (cv:Nat),e=.returned (.agg #[.int .i64 m.kind,.int .i64 m.task,.int .i64 m.fn,.int .i64 m.line,.string m.text,.slice Av m.vars.length cv]) ∧ m.vars=vars ∧ RdVars w' (.slice Av m.vars.length cv) m.vars ∧ Below w.heap.size w w'
set_option maxRecDepth 100000 in
set_option maxHeartbeats 4000000 in
theorem moment_calls (lo s:Nat) (v1 v2:Value) (t:PTr) (D:Nat → Value) (L:Lk) (vs vu:Value) (w:World) (h:SeS w lo s v1 v2 D L vs vu) (hr:RdTr w v1 v2 t) (hln:t.moms.length ≤ 3000) :
  Calls Tryz.prog 152 #[.pointer (some ⟨s,0,none⟩)] w (MoPost w (varsAt t L.place)):=by
 have HS:=qhq h
 have HR:=qhq hr
 have HR0:=qhq hr
 obtain ⟨-,⟨vv,⟨A2,c2,rfl,hn2,-⟩,-⟩⟩:=hr
 clear h
 have HB:=qhq (qaq (qrq _ w) (.cells #[.int .i64 0,.int .i64 0,.int .i64 0,.int .i64 0,.string ⟨#[]⟩,.slice none 0 0] 114))
 have HX:=qhq (Blk.made w #[.int .i64 0,.int .i64 0,.int .i64 0,.int .i64 0,.string ⟨#[]⟩,.slice none 0 0] 114)
 obtain ⟨p,hp⟩:∃ p,L.place=p:=⟨_,rfl⟩
 go_enter Tryz.func152,Tryz.ntmps152
 go_upto_region 1 with fail
 generalize World.alloc w _=W at HB HX ⊢
 replace HS:=qhq (HS.out.later HB.out)
 replace HR:=qhq (HR.out.later HB.out)
 have z1:W.cell? ⟨s,1,none⟩=some (.slice A2 t.moms.length c2):=HS.out.blk.cell (j:=1) (by omega)
 have z2:W.cell? ⟨s,2,none⟩=some (.int .i64 p):=(HS.out.blk.cell (j:=2) (by omega)).trans (by rw [← hp];rfl)
 have HP:=qhq hp
 clear hp
 obtain ⟨q,hq⟩:∃ q,inB p 0 ((t.moms.length:Int) - 1)=q:=⟨_,rfl⟩
 have HQ:=qhq hq
 clear hq
 have hwr:IntKind.i64.wrap ((t.moms.length:Int) - 1)=(t.moms.length:Int) - 1:=by rw [IntKind.wrap_i64];omega
 have hbd:Below W.heap.size W W.drew:=bl_drew (qrq _ _)
 replace z1:=qcq hbd z1
 replace z2:=qcq hbd z2
 have HX2:=qhq (HX.out.later hbd)
 have HR2:=qhq (HR.out.later hbd)
 have HB2:=qhq (qtq HB.out hbd)
 refine wp_region_F 11 (fun w':World=>Below W.drew.heap.size W.drew w') (by kernel_rfl) ?_
 clear hbd HX HR HB HS
 generalize W.drew=W2 at z1 z2 HX2 HR2 HB2 ⊢
 have HS0:Hid (Below W2.heap.size W2 W2):=qhq (qrq _ _)
 refine wpAnyF_takeC 0 [1,2,3] (v:=?v0m) (by rfl) (by kernel_rfl) (by intro _ _ _ h;exact h) HS0.out (by rfl) ?hy0m ?rest0m
 case hy0m =>
  intro w' hSw
  have sz1:=qcq hSw z1
  have sz2:=qcq hSw z2
  clear hSw
  go_simp
  try with_reducible rfl
 simp only [Act.put,q1q,q2q,q3q]
 refine wpAnyF_takeC 1 [2,3] (v:=?v1m) (by rfl) (by kernel_rfl) (by intro _ _ _ h;exact h) HS0.out (by rfl) ?hy1m ?rest1m
 case hy1m =>
  intro w' hSw
  have sz1:=qcq hSw z1
  have sz2:=qcq hSw z2
  clear hSw
  go_simp
  try with_reducible rfl
 simp only [Act.put,q1q,q2q,q3q]
 refine wpAnyF_takeC 2 [3] (v:=?v2m) (by rfl) (by kernel_rfl) (by intro _ _ _ h;exact h) HS0.out (by rfl) ?hy2m ?rest2m
 case hy2m =>
  intro w' hSw
  have sz1:=qcq hSw z1
  have sz2:=qcq hSw z2
  clear hSw
  go_simp
  try with_reducible rfl
 simp only [Act.put,q1q,q2q,q3q]
 refine wpAnyF_takeC 3 [] (v:=?v3m) (by rfl) (by kernel_rfl) (by intro _ _ _ h;exact h) HS0.out (by rfl) ?hy3m ?rest3m
 case hy3m =>
  intro w' hSw
  have sz1:=qcq hSw z1
  have sz2:=qcq hSw z2
  clear hSw
  go_simp
  try with_reducible rfl
 simp only [Act.put,q1q,q2q,q3q]
 refine wpAnyF_takeC 4 [5,6,7,8,9,10] (v:=?v4m) (by rfl) (by kernel_rfl) (by intro _ _ _ h;exact h) HS0.out (by rfl) ?hy4m ?rest4m
 case hy4m =>
  intro w' hSw
  have sz1:=qcq hSw z1
  have sz2:=qcq hSw z2
  clear hSw
  go_simp
  try with_reducible rfl
 simp only [Act.put,q1q,q2q,q3q]
 refine wpAnyF_takeC 5 [6,7,8,9,10] (v:=?v5m) (by rfl) (by kernel_rfl) (by intro _ _ _ h;exact h) HS0.out (by rfl) ?hy5m ?rest5m
 case hy5m =>
  intro w' hSw
  have sz1:=qcq hSw z1
  have sz2:=qcq hSw z2
  clear hSw
  go_simp
  try with_reducible rfl
 simp only [Act.put,q1q,q2q,q3q]
 refine wpAnyF_takeC 6 [7,8,9,10] (v:=?v6m) (by rfl) (by kernel_rfl) (by intro _ _ _ h;exact h) HS0.out (by rfl) ?hy6m ?rest6m
 case hy6m =>
  intro w' hSw
  have sz1:=qcq hSw z1
  have sz2:=qcq hSw z2
  clear hSw
  go_simp
  try with_reducible rfl
 simp only [Act.put,q1q,q2q,q3q]
 refine wpAnyF_takeC 7 [8,9,10] (v:=?v7m) (by rfl) (by kernel_rfl) (by intro _ _ _ h;exact h) HS0.out (by rfl) ?hy7m ?rest7m
 case hy7m =>
  intro w' hSw
  have sz1:=qcq hSw z1
  have sz2:=qcq hSw z2
  clear hSw
  go_simp
  try with_reducible rfl
 simp only [Act.put,q1q,q2q,q3q]
 refine wpAnyF_takeC 8 [9,10] (v:=?v8m) (by rfl) (by kernel_rfl) (by intro _ _ _ h;exact h) HS0.out (by rfl) ?hy8m ?rest8m
 case hy8m =>
  intro w' hSw
  have sz1:=qcq hSw z1
  have sz2:=qcq hSw z2
  clear hSw
  go_simp
  try with_reducible rfl
 simp only [Act.put,q1q,q2q,q3q]
 refine wpAnyF_takeC 9 [10] (v:=?v9m) (by rfl) (by kernel_rfl) (by intro _ _ _ h;exact h) HS0.out (by rfl) ?hy9m ?rest9m
 case hy9m =>
  intro w' hSw
  have sz1:=qcq hSw z1
  have sz2:=qcq hSw z2
  clear hSw
  go_simp
  try with_reducible rfl
 simp only [Act.put,q1q,q2q,q3q]
 refine wpAnyF_takeC 10 [] (v:=?v10m) (by rfl) (by kernel_rfl) (by intro _ _ _ h;exact h) HS0.out (by rfl) ?hy10m ?rest10m
 case hy10m =>
  intro w' hSw
  have sz1:=qcq hSw z1
  have sz2:=qcq hSw z2
  clear hSw
  go_simp
  try with_reducible rfl
 simp only [Act.put,q1q,q2q,q3q]
 refine wpAnyF_one 11 (by rfl) (by kernel_rfl) rfl ?_
 intro K hK
 go_simp
 refine (inside_is _ _ _ _ HQ.out).mono ?_;rintro e w3 ⟨rfl,rfl⟩
 dsimp only
 refine hK.out _ _ (fun h=>absurd rfl h) ?_
 clear hK K
 refine wpAnyF_done (by kernel_rfl) ?_ _
 have c0:=HX2.out.cell (j:=0) (by simp)
 have c1:=HX2.out.cell (j:=1) (by simp)
 have c2':=HX2.out.cell (j:=2) (by simp)
 have c3:=HX2.out.cell (j:=3) (by simp)
 have c4:=HX2.out.cell (j:=4) (by simp)
 have c5:=HX2.out.cell (j:=5) (by simp)
 have e0:=HX2.out.free 0
 have e1:=HX2.out.free 1
 have e2:=HX2.out.free 2
 have e3:=HX2.out.free 3
 have e4:=HX2.out.free 4
 have e5:=HX2.out.free 5
 have hxl:=HX2.out.lt
 cases q with
 | false =>
  go_wp2_with fail
  refine bodyPost_ret (v:=.agg #[.int .i64 0,.int .i64 0,.int .i64 0,.int .i64 0,.string ⟨#[]⟩,.slice none 0 0]) (by simp [results,Tryz.results152,go_sem,c0,c1,c2',c3,c4,c5]) rfl ?_
  refine ⟨⟨0,0,0,0,⟨#[]⟩,[]⟩,none,0,rfl,?_,⟨none,0,rfl,by simp,fun h=>absurd h (by simp)⟩,?_⟩
  ·unfold varsAt
   rw [HP.out,if_neg (by rw [HQ.out];simp)]
  ·repeat (with_reducible first | exact HB2.out | refine bl_set ?_ (by dsimp only;omega) _)
 | true =>
  obtain ⟨hp0,hp1⟩:=inB_true.1 HQ.out
  obtain ⟨k,rfl⟩:∃ k:Nat,p=(k:Int):=⟨p.toNat,by omega⟩
  obtain ⟨b,o,vx,rfl,d0,d1,d2,d3,d4,d5,hvx⟩:=rd_moment HR0.out.2 (k:=k) (by omega)
  replace d0:=qcq HB2.out d0
  replace d1:=qcq HB2.out d1
  replace d2:=qcq HB2.out d2
  replace d3:=qcq HB2.out d3
  replace d4:=qcq HB2.out d4
  replace d5:=qcq HB2.out d5
  obtain ⟨Av,cv,rfl,-⟩:=id hvx
  have HVX:=qhq hvx
  have hki:(k:Int) < (t.moms.length:Int):=by omega
  clear hvx
  go_upto_region 2 with fail
  have hbd:Below W2.heap.size W2 W2.drew:=bl_drew (qrq _ _)
  replace z1:=qcq hbd z1
  replace z2:=qcq hbd z2
  replace d0:=qcq hbd d0
  replace d1:=qcq hbd d1
  replace d2:=qcq hbd d2
  replace d3:=qcq hbd d3
  replace d4:=qcq hbd d4
  replace d5:=qcq hbd d5
  replace HX2:=qhq (HX2.out.later hbd);replace HB2:=qhq (qtq HB2.out hbd);clear hbd
  refine wp_region_F 11 (fun w':World=>Below W2.drew.heap.size W2.drew w') (by kernel_rfl) ?_
  clear HS0 c0 c1 c2' c3 c4 c5 e0 e1 e2 e3 e4 e5 hxl HR2
  generalize W2.drew=W3 at z1 z2 d0 d1 d2 d3 d4 d5 HX2 HB2 ⊢
  have HS0:Hid (Below W3.heap.size W3 W3):=qhq (qrq _ _)
  refine wpAnyF_takeC 0 [] (v:=?v0k) (by rfl) (by kernel_rfl) (by intro _ _ _ h;exact h) HS0.out (by rfl) ?hy0k ?rest0k
  case hy0k =>
   intro w' hSw
   have sz1:=qcq hSw z1
   have sz2:=qcq hSw z2
   clear hSw
   go_simp
   try with_reducible rfl
  simp only [Act.put,q1q,q2q,q3q]
  refine wpAnyF_takeC 1 [] (v:=?v1k) (by rfl) (by kernel_rfl) (by intro _ _ _ h;exact h) HS0.out (by rfl) ?hy1k ?rest1k
  case hy1k =>
   intro w' hSw
   have sz1:=qcq hSw z1
   have sz2:=qcq hSw z2
   clear hSw
   go_simp
   try with_reducible rfl
  simp only [Act.put,q1q,q2q,q3q]
  refine wpAnyF_takeC 2 [] (v:=?v2k) (by rfl) (by kernel_rfl) (by intro _ _ _ h;exact h) HS0.out (by rfl) ?hy2k ?rest2k
  case hy2k =>
   intro w' hSw
   have sz1:=qcq hSw z1
   have sz2:=qcq hSw z2
   clear hSw
   go_simp
   try with_reducible rfl
  simp only [Act.put,q1q,q2q,q3q]
  refine wpAnyF_takeC 3 [] (v:=?v3k) (by rfl) (by kernel_rfl) (by intro _ _ _ h;exact h) HS0.out (by rfl) ?hy3k ?rest3k
  case hy3k =>
   intro w' hSw
   have sz1:=qcq hSw z1
   have sz2:=qcq hSw z2
   clear hSw
   go_simp
   try with_reducible rfl
  simp only [Act.put,q1q,q2q,q3q]
  refine wpAnyF_takeC 4 [] (v:=?v4k) (by rfl) (by kernel_rfl) (by intro _ _ _ h;exact h) HS0.out (by rfl) ?hy4k ?rest4k
  case hy4k =>
   intro w' hSw
   have sz1:=qcq hSw z1
   have sz2:=qcq hSw z2
   clear hSw
   go_simp
   try with_reducible rfl
  simp only [Act.put,q1q,q2q,q3q]
  refine wpAnyF_takeC 5 [] (v:=?v5k) (by rfl) (by kernel_rfl) (by intro _ _ _ h;exact h) HS0.out (by rfl) ?hy5k ?rest5k
  case hy5k =>
   intro w' hSw
   have sz1:=qcq hSw z1
   have sz2:=qcq hSw z2
   clear hSw
   go_simp
   try with_reducible rfl
  simp only [Act.put,q1q,q2q,q3q]
  refine wpAnyF_takeC 6 [] (v:=?v6k) (by rfl) (by kernel_rfl) (by intro _ _ _ h;exact h) HS0.out (by rfl) ?hy6k ?rest6k
  case hy6k =>
   intro w' hSw
   have sz1:=qcq hSw z1
   have sz2:=qcq hSw z2
   clear hSw
   go_simp
   try with_reducible rfl
  simp only [Act.put,q1q,q2q,q3q]
  refine wpAnyF_takeC 7 [] (v:=?v7k) (by rfl) (by kernel_rfl) (by intro _ _ _ h;exact h) HS0.out (by rfl) ?hy7k ?rest7k
  case hy7k =>
   intro w' hSw
   have sz1:=qcq hSw z1
   have sz2:=qcq hSw z2
   clear hSw
   go_simp
   try with_reducible rfl
  simp only [Act.put,q1q,q2q,q3q]
  refine wpAnyF_takeC 8 [] (v:=?v8k) (by rfl) (by kernel_rfl) (by intro _ _ _ h;exact h) HS0.out (by rfl) ?hy8k ?rest8k
  case hy8k =>
   intro w' hSw
   have sz1:=qcq hSw z1
   have sz2:=qcq hSw z2
   clear hSw
   go_simp
   try with_reducible rfl
  simp only [Act.put,q1q,q2q,q3q]
  refine wpAnyF_takeC 9 [] (v:=?v9k) (by rfl) (by kernel_rfl) (by intro _ _ _ h;exact h) HS0.out (by rfl) ?hy9k ?rest9k
  case hy9k =>
   intro w' hSw
   have sz1:=qcq hSw z1
   have sz2:=qcq hSw z2
   clear hSw
   go_simp
   rfl
  simp only [Act.put,q1q,q2q,q3q]
  refine wpAnyF_takeC 10 [] (v:=?v10k) (by rfl) (by kernel_rfl) (by intro _ _ _ h;exact h) HS0.out (by rfl) ?hy10k ?rest10k
  case hy10k =>
   intro w' hSw
   have sz1:=qcq hSw z1
   have sz2:=qcq hSw z2
   have sd0:=qcq hSw d0
   have sd1:=qcq hSw d1
   have sd2:=qcq hSw d2
   have sd3:=qcq hSw d3
   have sd4:=qcq hSw d4
   have sd5:=qcq hSw d5
   clear hSw
   go_simp
   try with_reducible rfl
  simp only [Act.put,q1q,q2q,q3q]
  have c0:=HX2.out.cell (j:=0) (by simp)
  have c1:=HX2.out.cell (j:=1) (by simp)
  have c2':=HX2.out.cell (j:=2) (by simp)
  have c3:=HX2.out.cell (j:=3) (by simp)
  have c4:=HX2.out.cell (j:=4) (by simp)
  have c5:=HX2.out.cell (j:=5) (by simp)
  have e0:=HX2.out.free 0
  have e1:=HX2.out.free 1
  have e2:=HX2.out.free 2
  have e3:=HX2.out.free 3
  have e4:=HX2.out.free 4
  have e5:=HX2.out.free 5
  refine wpAnyF_one 11 (by rfl) (by kernel_rfl) rfl ?_
  intro K hK
  go_simp
  refine hK.out _ _ (fun h=>absurd rfl h) ?_
  clear hK K
  refine wpAnyF_done (by kernel_rfl) ?_ _
  go_wp2_with fail
  refine bodyPost_ret (v:=.agg #[.int .i64 (elt t.moms k).kind,.int .i64 (elt t.moms k).task,.int .i64 (elt t.moms k).fn,.int .i64 (elt t.moms k).line,.string (elt t.moms k).text,.slice Av (elt t.moms k).vars.length cv]) (by simp [results,Tryz.results152,go_sem,c0,c1,c2',c3,c4,c5]) rfl ?_
  refine ⟨elt t.moms k,Av,cv,rfl,?_,?_,?_⟩
  ·unfold varsAt
   rw [HP.out,if_pos HQ.out]
   rfl
  ·refine HVX.out.later ?_
   repeat (with_reducible first | exact HB2.out | refine bl_set ?_ (by dsimp only;omega) _)
  ·repeat (with_reducible first | exact HB2.out | refine bl_set ?_ (by dsimp only;omega) _)
set_option linter.unusedSimpArgs false
section
variable {P : Program} {o : Oper} {a : Act} {K : Act → World → Prop} {Q : Exit → Act → World → Prop}
theorem wp_append0 (w:World) (s x:Operand) (t:TypeId)
  (ho:o.op=.call { callee:=.builtin .append,args:=#[s,x],argTypes:=#[t,t] }) (lo:Nat) (e:TypeId) (z:Value) (sz bytes:Nat) (ht:P.underlying t=some (.slice e))
  (hinfo:(P.info? e).map (fun i=>(i.zero,i.size,i.bytes))=some (some z,sz,bytes)) (v:Value) (n:Nat) (C:Nat → Nat → Value) (hs:a.eval s=v) (hO:OwR w lo e sz n C v) (A:Option Addr) (c:Nat) (hx:a.eval x=.slice A 0 c)
  (h:K (a.put o.dst v) w):o.wp P a w K Q:=by
 cases hi:P.info? e with
 | none=>rw [hi] at hinfo;cases hinfo
 | some i =>
  have hr:(Builtin.append_ #[t,t] o.type #[v,.slice A 0 c]).run P w=.ok v w:=by
   rcases hO with ⟨rfl,rfl⟩ | ⟨b,cap,f,rfl,h2,h3,h4,h5,h6⟩
   ·cases A with
    | none=>simp [Builtin.append_,run_underlying ht,sizeOf,typeInfo,hi,Builtin.lenOf,Builtin.firstCells]
    | some p=>simp [Builtin.append_,run_underlying ht,sizeOf,typeInfo,hi,Builtin.lenOf,Builtin.firstCells,loadCells,loadCellsFrom,storeCells]
   ·cases A with
    | none=>simp [Builtin.append_,run_underlying ht,sizeOf,typeInfo,hi,Builtin.lenOf,Builtin.firstCells,loadCells,loadCellsFrom,storeCells,h3]
    | some p=>simp [Builtin.append_,run_underlying ht,sizeOf,typeInfo,hi,Builtin.lenOf,Builtin.firstCells,loadCells,loadCellsFrom,storeCells,h3]
  unfold Oper.wp execOp
  simp only [ho,resolve,invoke,builtin,Sem.run_bind,Sem.run_pure,Result.andThen_ok,List.map_toArray,List.map_cons,List.map_nil,hs,hx,hr]
  exact h
theorem wp_append_fits (w:World) (s x:Operand) (t:TypeId)
  (ho:o.op=.call { callee:=.builtin .append,args:=#[s,x],argTypes:=#[t,t] }) (lo:Nat) (e:TypeId) (z:Value) (sz bytes:Nat) (ht:P.underlying t=some (.slice e))
  (hinfo:(P.info? e).map (fun i=>(i.zero,i.size,i.bytes))=some (some z,sz,bytes)) (hsz:0 < sz) (g n cap m c:Nat) (C C' C2:Nat → Nat → Value) (hs:a.eval s=.slice (some ⟨g,0,none⟩) n cap) (hO:OwR w lo e sz n C (.slice (some ⟨g,0,none⟩) n cap))
  (b off:Nat) (hx:a.eval x=.slice (some ⟨b,off,none⟩) m c) (hcell:∀ i,i < m → ∀ j,j < sz → w.cell? ⟨b,off + (i * sz + j),none⟩=some (C2 i j)) (h1:∀ i j,(C2 i j).oneCell'=true) (hroom:n + m ≤ cap)
  (hC:∀ i,i < n → ∀ j,j < sz → C i j=C' i j) (hN:∀ i,i < m → ∀ j,j < sz → C2 i j=C' (n + i) j)
  (h:∀ w',OwR w' lo e sz (n + m) C' (.slice (some ⟨g,0,none⟩) (n + m) cap) → w.grownBy w' (some g) → K (a.put o.dst (.slice (some ⟨g,0,none⟩) (n + m) cap)) w'):o.wp P a w K Q:=by
 cases hi:P.info? e with
 | none=>rw [hi] at hinfo;cases hinfo
 | some i =>
  rw [hi] at hinfo
  simp only [Option.map_some,Option.some.injEq,Prod.mk.injEq] at hinfo
  obtain ⟨hz,hs1,hb1⟩:=hinfo
  obtain ⟨w',hr,h2,h3⟩:=run_append_fits (P:=P) w lo t o.type e i sz ht hi hs1 g n cap (cellsR sz C n) hO.row ⟨b,off,none⟩ m c (cellsR sz C2 m) (cellsR_length _ _ _)
   (fun j u hj=>by
    have hlt:=(List.getElem?_eq_some_iff.1 hj).1
    rw [cellsR_length] at hlt
    have h4:j / sz < m:=by rw [Nat.div_lt_iff_lt_mul hsz];exact hlt
    have h5:j % sz < sz:=Nat.mod_lt _ hsz
    have e1:j / sz * sz + j % sz=j:=by rw [Nat.mul_comm];exact Nat.div_add_mod j sz
    have h6:=cellsR_at (C:=C2) h4 h5
    rw [e1,hj] at h6
    have h7:=hcell _ h4 _ h5
    rw [e1] at h7
    have ha:(Addr.add ⟨b,off,none⟩ j)=⟨b,off + j,none⟩:=by unfold Addr.add;split <;> simp_all
    rw [ha,h7,h6])
   (fun u hu=>by
    obtain ⟨p,-,rfl⟩:=List.mem_map.1 hu
    exact h1 _ _) hroom
  unfold Oper.wp execOp
  simp only [ho,resolve,invoke,builtin,Sem.run_bind,Sem.run_pure,Result.andThen_ok,List.map_toArray,List.map_cons,List.map_nil,hs,hx,hr]
  exact h w' (OwR.of_append h2 hC fun i hi j hj=>by rw [cellsR_at hi hj,hN i hi j hj]) h3
end
theorem owr_beyond {w:World} {lo sz n b cap j:Nat} {e:TypeId} {C:Nat → Nat → Value} (h:OwR w lo e sz n C (.slice (some ⟨b,0,none⟩) n cap)) (hj:n * sz ≤ j) (u:Value):OwR (w.setCell ⟨b,j,none⟩ u) lo e sz n C (.slice (some ⟨b,0,none⟩) n cap):=by
 rcases h with ⟨h1,-⟩ | ⟨b',cap',f,h1,h2,h3,h4,h5,h6⟩
 ·cases h1
 ·simp only [Value.slice.injEq,Option.some.injEq,Addr.mk.injEq,and_true,true_and] at h1
  obtain ⟨rfl,rfl⟩:=h1
  by_cases hlt:j < cap * sz
  ·refine .inr ⟨b,cap,_,rfl,h2,h3,h4,h5.set hlt u,fun i hi j' hj'=>?_⟩
   rw [upd_ne _ _ (by have:=mul_lt hi hj';omega)]
   exact h6 i hi j' hj'
  ·obtain ⟨cur,c1,c2,c3⟩:=h5
   refine .inr ⟨b,cap,f,rfl,h2,h3,h4,⟨cur,?_,c2,c3⟩,h6⟩
   simp only [World.setCell,Array.getElem?_modify]
   rw [if_pos trivial,c1]
   simp only [Option.map_some]
   congr 2
   exact Array.setIfInBounds_eq_of_size_le (by omega)
theorem run_clear1 {P:Program} (w:World) (t e ty:TypeId) (z:Value) (ht:P.underlying t=some (.slice e)) (hv:∀ w,(zeroValue e).run P w=.ok z w) (b o c:Nat) (h1:∀ v ∈ z.cells.toList,v.oneCell'=true)
  (hc:∀ j,j < z.cells.toList.length → (w.cell? ⟨b,o + j,none⟩).isSome=true) (hf:∀ j,j < z.cells.toList.length → w.frozen? ⟨b,o + j,none⟩=false) :
  (Builtin.clear_ #[t] ty #[.slice (some ⟨b,o,none⟩) 1 c]).run P w=.ok (.tuple #[]) (w.setCells b o z.cells.toList):=by
 have hzc:(Builtin.zeroCells z.cells 1).toList=z.cells.toList:=by
  unfold Builtin.zeroCells
  apply List.ext_getElem?
  intro i
  by_cases hi:i < z.cells.size
  ·simp [hi,Nat.mod_eq_of_lt hi]
  ·simp [hi]
 have hst:=run_storeCells_cells (P:=P) b o z.cells.toList 0 w (by simpa using hc) (by simpa using hf) h1
 simp only [Nat.add_zero] at hst
 simp [Builtin.clear_,run_underlying ht,hv,hzc,hst]
theorem erase_len {ss:List PStop} {i:Nat} (hi:i < ss.length):(ss.eraseIdx i).length=ss.length - 1:=by rw [List.length_eraseIdx,if_pos hi]
theorem erase_lo {ss:List PStop} {i k:Nat} (hi:i < ss.length) (hk:k < i) (j:Nat):stopC ss k j=stopC (ss.eraseIdx i) k j:=by
 unfold stopC
 have e:elt (ss.eraseIdx i) k=elt ss k:=by rw [elt_eq (by rw [erase_len hi];omega),elt_eq (by omega),List.getElem_eraseIdx_of_lt _ hk]
 rw [e]
theorem erase_hi {ss:List PStop} {i k:Nat} (hi:i < ss.length) (hk:i + 1 + k < ss.length) (j:Nat):stopC ss (i + 1 + k) j=stopC (ss.eraseIdx i) (i + k) j:=by
 unfold stopC
 have e:elt (ss.eraseIdx i) (i + k)=elt ss (i + 1 + k):=by
  rw [elt_eq (by rw [erase_len hi];omega),elt_eq hk,List.getElem_eraseIdx_of_ge _ (by omega)]
  congr 1
  omega
 rw [e]
theorem owr_capcell {w:World} {lo sz n b cap j:Nat} {e:TypeId} {C:Nat → Nat → Value} (h:OwR w lo e sz n C (.slice (some ⟨b,0,none⟩) n cap)) (hj:j < cap * sz):(w.cell? ⟨b,j,none⟩).isSome=true ∧ w.frozen? ⟨b,j,none⟩=false:=by
 rcases h with ⟨h1,-⟩ | ⟨b',cap',f,h1,h2,h3,h4,h5,h6⟩
 ·cases h1
 ·simp only [Value.slice.injEq,Option.some.injEq,Addr.mk.injEq,and_true,true_and] at h1
  obtain ⟨rfl,rfl⟩:=h1
  exact ⟨by rw [h5.cell hj];rfl,h5.free j⟩
theorem owr_setCells {lo sz n b cap:Nat} {e:TypeId} {C:Nat → Nat → Value}:∀ (vs:List Value) (o:Nat) (w:World),OwR w lo e sz n C (.slice (some ⟨b,0,none⟩) n cap) → n * sz ≤ o → OwR (w.setCells b o vs) lo e sz n C (.slice (some ⟨b,0,none⟩) n cap) ∧ Mv [e] lo w (w.setCells b o vs)
 | [],_,w,h,_=>⟨h,Mv.refl _ _ _⟩
 | v :: r,o,w,h,ho=>by
  obtain ⟨h1,h2⟩:=owr_setCells r (o + 1) (w.setCell ⟨b,o,none⟩ v) (owr_beyond h ho v) (by omega)
  refine ⟨h1,Mv.trans ?_ h2⟩
  obtain ⟨N,F,hB⟩:=h.block (b:=b) rfl
  exact (Mv.refl _ _ _).set (p:=⟨b,o,none⟩) (h.lt b rfl).1 hB (by simp) v
theorem zv_stop (w:World):(zeroValue 45).run Tryz.prog w=.ok (.agg #[.int .i64 0,.int .i64 0,.int .i64 0,.string ⟨#[]⟩]) w:=by kernel_rfl
theorem wp_delA {o:Oper} {a:Act} {K:Act → World → Prop} {Q:Exit → Act → World → Prop} (w:World) (s x:Operand) (ho:o.op=.call { callee:=.builtin .append,args:=#[s,x],argTypes:=#[90,90] }) (lo b cap n i:Nat) (ss:List PStop)
  (hs:a.eval s=.slice (some ⟨b,0,none⟩) i cap) (hx:a.eval x=.slice (if cap=i + 1 then some ⟨b,0,none⟩ else some ⟨b,(i + 1) * 4,none⟩) (n - (i + 1)) (cap - (i + 1))) (hO:OwR w lo 45 4 n (stopC ss) (.slice (some ⟨b,0,none⟩) n cap)) (hi:i < n) (hn:ss.length=n) (hcap:n ≤ cap) (hlo:lo ≤ w.heap.size)
  (h:∀ w',OwR w' lo 45 4 (n - 1) (stopC (ss.eraseIdx i)) (.slice (some ⟨b,0,none⟩) (n - 1) cap) → Mv [45] lo w w' → K (a.put o.dst (.slice (some ⟨b,0,none⟩) (n - 1) cap)) w'):o.wp Tryz.prog a w K Q:=by
 have hT:=hO.take (m:=i) (by omega)
 by_cases hm:n=i + 1
 ·have e1:n - (i + 1)=0:=by omega
  have e2:n - 1=i:=by omega
  rw [e1] at hx
  rw [e2] at h
  refine wp_append0 w s x _ ho lo 45 _ 4 40 Tryz.underlying90 i_stopE _ i (stopC ss) hs hT _ _ hx ?_
  exact h w (hT.congr fun k hk j _=>erase_lo (by omega) hk j) (Mv.refl _ _ _)
 ·rw [if_neg (by omega)] at hx
  refine wp_append_fits w s x _ ho lo 45 _ 4 40 Tryz.underlying90 i_stopE (by omega) b i cap (n - (i + 1)) _ (stopC ss) (stopC (ss.eraseIdx i)) (fun k j=>stopC ss (i + 1 + k) j) hs hT b _ hx (fun k hk j hj=>?_) (fun k j=>by unfold stopC;split <;> rfl) (by omega)
   (fun k hk j _=>erase_lo (by omega) hk j) (fun k hk j _=>erase_hi (by omega) (by omega) j) ?_
  ·obtain ⟨A',c',he,hop⟩:=hO.open'
   obtain ⟨b',hb',-,-,hc,-⟩:=hop (by omega)
   have hbb:b=b':=by
    simp at he
    rw [← he.1] at hb'
    simpa using hb'
   subst hbb
   have h:=hc (i + 1 + k) (by omega) j hj
   rw [Nat.add_mul,Nat.add_assoc] at h
   exact h
  ·intro w' h1 h2
   rw [show i + (n - (i + 1))=n - 1 by omega] at h1 ⊢
   exact h w' h1 ((Mv.refl _ _ _).grown hlo h2 (fun c hc=>by
    cases hc
    obtain ⟨N,F,hB⟩:=hO.block (b:=b) rfl
    exact ⟨(hO.lt b rfl).1,_,N,F,hB,by simp⟩))
set_option maxRecDepth 100000 in
set_option maxHeartbeats 4000000 in
theorem delete_calls (lo:Nat) (ss:List PStop) (v:Value) (i:Nat) (w:World) (h:OwR w lo 45 4 ss.length (stopC ss) v) (hi:i < ss.length) (hn:ss.length ≤ 50) (hlo:lo ≤ w.heap.size) :
  Calls Tryz.prog 101 #[v,.int .i64 i,.int .i64 (i + 1)] w fun e w'=>∃ v',e=.returned v' ∧ OwR w' lo 45 4 (ss.eraseIdx i).length (stopC (ss.eraseIdx i)) v' ∧ Mv [45] lo w w':=by
 have HO:=qhq h
 obtain ⟨A,cap,rfl,hop⟩:=h.open'
 obtain ⟨b,rfl,hlb,hbw,-,-⟩:=hop (by omega)
 obtain ⟨A9,cap',he,hcap,hcm⟩:=h.cap
 obtain rfl:cap=cap':=by simp at he;exact he.2
 obtain ⟨n,hnn⟩:∃ n,ss.length=n:=⟨_,rfl⟩
 have HN:=qhq hnn
 have hsl:(ss.eraseIdx i).length=n - 1:=by rw [erase_len hi,hnn]
 rw [hnn] at hi hn hcap HO ⊢
 clear h he hop hnn
 have hni:(i:Int) < (n:Int):=by omega
 have hii:((i:Int) == (i:Int) + 1)=false:=by rw [beq_eq_false_iff_ne];omega
 go_enter Tryz.func101,Tryz.ntmps101
 go_upto_region 5 with fail
 have HO2:=qhq (HO.out.later (bl_drew (qrq _ w)))
 have HMV:=qhq ((Mv.refl [45] lo w).drew)
 have hlo2:lo ≤ w.drew.heap.size:=hlo
 obtain ⟨A5,hA5⟩:∃ A5,(if cap=i + 1 then (some ⟨b,0,none⟩:Option Addr) else some ⟨b,(i + 1) * 4,none⟩)=A5:=⟨_,rfl⟩
 have HA5:=qhq hA5
 clear hA5
 refine wp_region_F 7 (fun _:World=>True) (by kernel_rfl) ?_
 generalize w.drew=W2 at HO2 HMV hlo2 ⊢
 have HS0:Hid True:=qhq trivial
 refine wpAnyF_takeC 0 [] (v:=?v0k) (by rfl) (by kernel_rfl) (by intro _ _ _ h;exact h) HS0.out (by rfl) ?hy0k ?rest0k
 case hy0k =>
  intro w' hSw
  clear hSw
  go_simp
  try with_reducible rfl
 simp only [Act.put,q1q,q2q,q3q]
 refine wpAnyF_takeC 1 [] (v:=?v1k) (by rfl) (by kernel_rfl) (by intro _ _ _ h;exact h) HS0.out (by rfl) ?hy1k ?rest1k
 case hy1k =>
  intro w' hSw
  clear hSw
  go_simp
  try with_reducible rfl
 simp only [Act.put,q1q,q2q,q3q]
 refine wpAnyF_takeC 2 [] (v:=?v2k) (by rfl) (by kernel_rfl) (by intro _ _ _ h;exact h) HS0.out (by rfl) ?hy2k ?rest2k
 case hy2k =>
  intro w' hSw
  clear hSw
  go_simp
  try rw [if_pos (by omega)]
 simp only [Act.put,q1q,q2q,q3q]
 refine wpAnyF_takeC 3 [] (v:=?v3k) (by rfl) (by kernel_rfl) (by intro _ _ _ h;exact h) HS0.out (by rfl) ?hy3k ?rest3k
 case hy3k =>
  intro w' hSw
  clear hSw
  go_simp
  try with_reducible rfl
 simp only [Act.put,q1q,q2q,q3q]
 refine wpAnyF_takeC 4 [] (v:=?v4k) (by rfl) (by kernel_rfl) (by intro _ _ _ h;exact h) HS0.out (by rfl) ?hy4k ?rest4k
 case hy4k =>
  intro w' hSw
  clear hSw
  go_simp
  try with_reducible rfl
 simp only [Act.put,q1q,q2q,q3q]
 refine wpAnyF_takeC 5 [] (v:=?v5k) (by rfl) (by kernel_rfl) (by intro _ _ _ h;exact h) HS0.out (by rfl) ?hy5k ?rest5k
 case hy5k =>
  intro w' hSw
  clear hSw
  go_simp
  rw [if_pos ⟨by omega,by omega⟩,HA5.out]
 simp only [Act.put,q1q,q2q,q3q]
 refine wpAnyF_one 6 (by rfl) (by kernel_rfl) rfl ?_
 intro K hK
 refine wp_delA _ _ _ (by rfl) lo b cap n i ss (by rfl) (by rw [HA5.out];rfl) HO2.out hi HN.out hcap hlo2 ?_
 intro w3 hO3 hm3
 have HO3:=qhq hO3
 have HM3:=qhq (HMV.out.trans hm3)
 refine hK.out _ _ (fun _=>trivial) ?_
 clear hK K hO3 hm3 HS0
 refine wpAnyF_one 7 (by rfl) (by kernel_rfl) rfl ?_
 intro K hK
 go_simp
 refine hK.out _ _ (fun h=>absurd rfl h) ?_
 clear hK K
 refine wpAnyF_done (by kernel_rfl) ?_ _
 have hn1:((n - 1:Nat):Int) ≤ (n:Int):=by omega
 have hclr:(Builtin.clear_ #[90] 0 #[.slice (some ⟨b,(n - 1) * 4,none⟩) (n - (n - 1)) (cap - (n - 1))]).run Tryz.prog w3=.ok (.tuple #[]) (w3.setCells b ((n - 1) * 4) [.int .i64 0,.int .i64 0,.int .i64 0,.string ⟨#[]⟩]):=by
  rw [show n - (n - 1)=1 by omega]
  exact run_clear1 w3 90 45 0 (.agg #[.int .i64 0,.int .i64 0,.int .i64 0,.string ⟨#[]⟩]) Tryz.underlying90 zv_stop b ((n - 1) * 4) _ (fun v hv=>by
   have hv:v ∈ [Value.int .i64 0,.int .i64 0,.int .i64 0,.string ⟨#[]⟩]:=hv
   simp only [List.mem_cons,List.not_mem_nil,or_false] at hv
   rcases hv with rfl | rfl | rfl | rfl <;> rfl) (fun j hj=>(owr_capcell HO3.out (by have hj:j < 4:=hj;omega)).1) (fun j hj=>(owr_capcell HO3.out (by have hj:j < 4:=hj;omega)).2)
 go_wp2_with fail
 go_ret
 obtain ⟨h1,h2⟩:=owr_setCells [.int .i64 0,.int .i64 0,.int .i64 0,.string ⟨#[]⟩] ((n - 1) * 4) w3 HO3.out (Nat.le_refl _)
 exact ⟨_,rfl,by rw [hsl];exact h1,HM3.out.trans h2⟩
set_option linter.unusedSimpArgs false
theorem TdAt.of {w:World} {lo x:Nat} {q:PTold} {F:Nat → Value} {sv vv:Value} (h:Blk w x 38 6 F) (hF:∀ j,j < 6 → F j=tdF q sv vv j) (h1:OwR w lo 42 3 q.stack.length (frC q.stack) sv) (h2:OwZ w lo 40 2 q.vars.length (varC q.vars) vv):TdAt w lo x q :=
 ⟨sv,vv,h.congr hF,h1,h2⟩
set_option maxRecDepth 100000 in
set_option maxHeartbeats 4000000 in
theorem do2_calls (lo s sb tb x:Nat) (v1 v2:Value) (t:PTr) (D:Nat → Value) (L:Lk) (vs vu:Value) (a:PAsk) (w:World) (h:SeS w lo s v1 v2 D L vs vu) (he:SeE w s sb tb v1 v2) (hx:Td0 w x)
  (hr:RdTr w v1 v2 t) (hsm:smTr t) (hso:soundP t=true) (hok:LkOk t L) (hlo:lo ≤ s) (hn0:0 ≤ a.n) :
  Calls Tryz.prog 100 #[.agg #[.int .i64 a.op,.int .i64 a.n,.string a.nm,.int .i64 a.stop.kind,.int .i64 a.stop.fn,.int .i64 a.stop.line,.string a.stop.nm],.pointer (some ⟨x,0,none⟩),.pointer (some ⟨sb,0,none⟩)] w (DoPost (doClear L a) lo s x v1 v2 D w):=by
 obtain ⟨A3,c3,rfl,hn3,hm3⟩:=h.st.cap
 obtain ⟨A4,c4,rfl,hn4,hm4⟩:=h.un.cap
 have HS:=qhq h
 have HE:=qhq he
 have HX:=qhq hx
 have HR:=qhq hr
 have HSM:=qhq hsm
 have HSO:=qhq hso
 have HOK:=qhq hok
 have hlw:lo ≤ w.heap.size:=Nat.le_trans hlo (Nat.le_of_lt h.blk.lt)
 obtain ⟨⟨A1,c1,rfl,hn1,-⟩,⟨vv,⟨A2,c2,rfl,hn2,-⟩,-⟩⟩:=hr
 have hln:=hok.ln
 have hpl:=hok.lo
 have hph:=hok.hi
 have hmn:=(sound_fns (sound_iff hso)).2.2
 have HA0:=qhq (askBox w a)
 have hbw:=qaq (qrq _ w) (.cells #[.int .i64 a.op,.int .i64 a.n,.string a.nm,.int .i64 a.stop.kind,.int .i64 a.stop.fn,.int .i64 a.stop.line,.string a.stop.nm] 47)
 have hsz:(w.alloc (.cells #[.int .i64 a.op,.int .i64 a.n,.string a.nm,.int .i64 a.stop.kind,.int .i64 a.stop.fn,.int .i64 a.stop.line,.string a.stop.nm] 47)).heap.size=w.heap.size + 1:=by simp
 clear h he hx hsm hso hok
 go_enter Tryz.func100,Tryz.ntmps100
 go_upto_region 1 with fail
 generalize World.alloc w _=W at HA0 hbw hsz ⊢
 have HMV:=qhq (Mv.of_below (ts:=eTys) hbw hlw)
 replace HS:=qhq (HS.out.later hbw);replace HE:=qhq (HE.out.later hbw);replace HX:=qhq (HX.out.later hbw);replace HR:=qhq (HR.out.later hbw);clear hbw
 obtain ⟨q,hq⟩:∃ q,w.heap.size=q:=⟨_,rfl⟩
 rw [hq] at HA0 hsz hlw ⊢
 obtain ⟨i,hia⟩:∃ i:Nat,a.n=(i:Int):=⟨a.n.toNat,by omega⟩
 have HIA:=qhq hia
 refine wp_region_H (fun w':World=>Below W.drew.heap.size W.drew w') (by kernel_rfl) ?_
 have hszd:W.drew.heap.size=q + 1:=hsz
 replace HMV:=qhq HMV.out.drew
 have hbd:Below W.heap.size W W.drew:=bl_drew (qrq _ _)
 replace HS:=qhq (HS.out.later hbd);replace HE:=qhq (HE.out.later hbd);replace HX:=qhq (HX.out.later hbd);replace HR:=qhq (HR.out.later hbd);replace HA0:=qhq (HA0.out.later hbd);clear hbd
 generalize W.drew=W2 at HMV HS HE HX HR HA0 hszd ⊢
 clear hsz
 have hsz:=hszd
 clear hszd
 have HS0:Hid (Below W2.heap.size W2 W2):=qhq (qrq _ _)
 have zs:W2.cell? ⟨sb,0,none⟩=some (.pointer (some ⟨s,0,none⟩)):=HE.out.sbx.cell (j:=0) (by omega)
 have zv:W2.cell? ⟨s,3,none⟩=some (.slice A3 L.ss.length c3):=HS.out.blk.cell (j:=3) (by omega)
 have zn:W2.cell? ⟨q,1,none⟩=some (.int .i64 a.n):=HA0.out.cell (j:=1) (by omega)
 rw [hia] at zn hn0
 clear hia
 refine wpAnyH_take2 0 (v:=?v0m) (by rfl) (by kernel_rfl) (by intro _ _ _ h;exact h) HS0.out (by rfl) ?hy0m ?rest0m
 case hy0m =>
  intro w' hSw
  have szs:=qcq hSw zs
  have szv:=qcq hSw zv
  have szn:=qcq hSw zn
  clear hSw
  go_simp
  try with_reducible rfl
 simp only [Act.put,q1q,q2q,q3q]
 refine wpAnyH_take2 1 (v:=?v1m) (by rfl) (by kernel_rfl) (by intro _ _ _ h;exact h) HS0.out (by rfl) ?hy1m ?rest1m
 case hy1m =>
  intro w' hSw
  have szs:=qcq hSw zs
  have szv:=qcq hSw zv
  have szn:=qcq hSw zn
  clear hSw
  go_simp
  try with_reducible rfl
 simp only [Act.put,q1q,q2q,q3q]
 refine wpAnyH_take2 2 (v:=?v2m) (by rfl) (by kernel_rfl) (by intro _ _ _ h;exact h) HS0.out (by rfl) ?hy2m ?rest2m
 case hy2m =>
  intro w' hSw
  have szs:=qcq hSw zs
  have szv:=qcq hSw zv
  have szn:=qcq hSw zn
  clear hSw
  go_simp
  try with_reducible rfl
 simp only [Act.put,q1q,q2q,q3q]
 refine wpAnyH_take2 3 (v:=?v3m) (by rfl) (by kernel_rfl) (by intro _ _ _ h;exact h) HS0.out (by rfl) ?hy3m ?rest3m
 case hy3m =>
  intro w' hSw
  have szs:=qcq hSw zs
  have szv:=qcq hSw zv
  have szn:=qcq hSw zn
  clear hSw
  go_simp
  try with_reducible rfl
 simp only [Act.put,q1q,q2q,q3q]
 refine wpAnyH_take2 4 (v:=?v4m) (by rfl) (by kernel_rfl) (by intro _ _ _ h;exact h) HS0.out (by rfl) ?hy4m ?rest4m
 case hy4m =>
  intro w' hSw
  have szs:=qcq hSw zs
  have szv:=qcq hSw zv
  have szn:=qcq hSw zn
  clear hSw
  go_simp
  try with_reducible rfl
 simp only [Act.put,q1q,q2q,q3q]
 refine wpAnyH_take2 5 (v:=?v5m) (by rfl) (by kernel_rfl) (by intro _ _ _ h;exact h) HS0.out (by rfl) ?hy5m ?rest5m
 case hy5m =>
  intro w' hSw
  have szs:=qcq hSw zs
  have szv:=qcq hSw zv
  have szn:=qcq hSw zn
  clear hSw
  go_simp
  try with_reducible rfl
 simp only [Act.put,q1q,q2q,q3q]
 refine wpAnyH_take2 6 (v:=?v6m) (by rfl) (by kernel_rfl) (by intro _ _ _ h;exact h) HS0.out (by rfl) ?hy6m ?rest6m
 case hy6m =>
  intro w' hSw
  have szs:=qcq hSw zs
  have szv:=qcq hSw zv
  have szn:=qcq hSw zn
  clear hSw
  go_simp
  try with_reducible rfl
 simp only [Act.put,q1q,q2q,q3q]
 refine wpAnyH_take2 7 (v:=?v7m) (by rfl) (by kernel_rfl) (by intro _ _ _ h;exact h) HS0.out (by rfl) ?hy7m ?rest7m
 case hy7m =>
  intro w' hSw
  have szs:=qcq hSw zs
  have szv:=qcq hSw zv
  have szn:=qcq hSw zn
  clear hSw
  go_simp
  try with_reducible rfl
 simp only [Act.put,q1q,q2q,q3q]
 refine wpAnyH_done (by kernel_rfl) ?_ _
 simp only [List.getElem_toArray,List.getElem_cons_zero,List.getElem_cons_succ,q1q,q2q,q3q]
 by_cases hc:L.ss.length ≤ i
 ·have hci:(L.ss.length:Int) ≤ (i:Int):=by omega
  clear HS0
  go_wp2_with fail
  go_ret
  unfold doClear
  rw [if_pos (by rw [HIA.out];omega)]
  exact DoPost.plain rfl rfl HS.out HX.out HMV.out
 ·have hci:(i:Int) < (L.ss.length:Int):=by omega
  have hwr:IntKind.i64.wrap ((i:Int) + 1)=(i:Int) + 1:=by rw [IntKind.wrap_i64];omega
  clear HS0
  go_upto_region 3 with fail
  clear zs zv zn
  replace HMV:=qhq HMV.out.drew
  have hbd:Below W2.heap.size W2 W2.drew:=bl_drew (qrq _ _)
  have hszd:W2.drew.heap.size=q + 1:=hsz
  replace HS:=qhq (HS.out.later hbd);replace HE:=qhq (HE.out.later hbd);replace HX:=qhq (HX.out.later hbd);replace HA0:=qhq (HA0.out.later hbd);clear hbd
  refine wp_region_F 13 (fun w':World=>w'.cell? ⟨sb,0,none⟩=some (.pointer (some ⟨s,0,none⟩)) ∧ w'.cell? ⟨s,3,none⟩=some (.slice A3 L.ss.length c3) ∧ w'.cell? ⟨q,1,none⟩=some (.int .i64 i)) (by kernel_rfl) ?_
  clear hsz HR
  generalize W2.drew=W3 at HS HE HX HA0 HMV hszd ⊢
  have HS0:Hid (W3.cell? ⟨sb,0,none⟩=some (.pointer (some ⟨s,0,none⟩)) ∧ W3.cell? ⟨s,3,none⟩=some (.slice A3 L.ss.length c3) ∧ W3.cell? ⟨q,1,none⟩=some (.int .i64 i)):=qhq ⟨HE.out.sbx.cell (j:=0) (by omega),HS.out.blk.cell (j:=3) (by omega),(HA0.out.cell (j:=1) (by omega)).trans (by rw [← HIA.out];rfl)⟩
  refine wpAnyF_takeC 0 [] (v:=?v0k) (by rfl) (by kernel_rfl) (by intro _ _ _ h;exact h) HS0.out (by rfl) ?hy0k ?rest0k
  case hy0k =>
   intro w' hSw
   obtain ⟨s0,s1,s2⟩:=hSw
   go_simp
   try with_reducible rfl
  simp only [Act.put,q1q,q2q,q3q]
  refine wpAnyF_takeC 1 [] (v:=?v1k) (by rfl) (by kernel_rfl) (by intro _ _ _ h;exact h) HS0.out (by rfl) ?hy1k ?rest1k
  case hy1k =>
   intro w' hSw
   obtain ⟨s0,s1,s2⟩:=hSw
   go_simp
   try with_reducible rfl
  simp only [Act.put,q1q,q2q,q3q]
  refine wpAnyF_takeC 2 [] (v:=?v2k) (by rfl) (by kernel_rfl) (by intro _ _ _ h;exact h) HS0.out (by rfl) ?hy2k ?rest2k
  case hy2k =>
   intro w' hSw
   obtain ⟨s0,s1,s2⟩:=hSw
   go_simp
   try with_reducible rfl
  simp only [Act.put,q1q,q2q,q3q]
  refine wpAnyF_takeC 3 [] (v:=?v3k) (by rfl) (by kernel_rfl) (by intro _ _ _ h;exact h) HS0.out (by rfl) ?hy3k ?rest3k
  case hy3k =>
   intro w' hSw
   obtain ⟨s0,s1,s2⟩:=hSw
   go_simp
   try with_reducible rfl
  simp only [Act.put,q1q,q2q,q3q]
  refine wpAnyF_takeC 4 [] (v:=?v4k) (by rfl) (by kernel_rfl) (by intro _ _ _ h;exact h) HS0.out (by rfl) ?hy4k ?rest4k
  case hy4k =>
   intro w' hSw
   obtain ⟨s0,s1,s2⟩:=hSw
   go_simp
   try with_reducible rfl
  simp only [Act.put,q1q,q2q,q3q]
  refine wpAnyF_takeC 5 [] (v:=?v5k) (by rfl) (by kernel_rfl) (by intro _ _ _ h;exact h) HS0.out (by rfl) ?hy5k ?rest5k
  case hy5k =>
   intro w' hSw
   obtain ⟨s0,s1,s2⟩:=hSw
   go_simp
   try with_reducible rfl
  simp only [Act.put,q1q,q2q,q3q]
  refine wpAnyF_takeC 6 [] (v:=?v6k) (by rfl) (by kernel_rfl) (by intro _ _ _ h;exact h) HS0.out (by rfl) ?hy6k ?rest6k
  case hy6k =>
   intro w' hSw
   obtain ⟨s0,s1,s2⟩:=hSw
   go_simp
   try with_reducible rfl
  simp only [Act.put,q1q,q2q,q3q]
  refine wpAnyF_takeC 7 [] (v:=?v7k) (by rfl) (by kernel_rfl) (by intro _ _ _ h;exact h) HS0.out (by rfl) ?hy7k ?rest7k
  case hy7k =>
   intro w' hSw
   obtain ⟨s0,s1,s2⟩:=hSw
   go_simp
   try with_reducible rfl
  simp only [Act.put,q1q,q2q,q3q]
  refine wpAnyF_takeC 8 [] (v:=?v8k) (by rfl) (by kernel_rfl) (by intro _ _ _ h;exact h) HS0.out (by rfl) ?hy8k ?rest8k
  case hy8k =>
   intro w' hSw
   obtain ⟨s0,s1,s2⟩:=hSw
   go_simp
   try with_reducible rfl
  simp only [Act.put,q1q,q2q,q3q]
  refine wpAnyF_takeC 9 [] (v:=?v9k) (by rfl) (by kernel_rfl) (by intro _ _ _ h;exact h) HS0.out (by rfl) ?hy9k ?rest9k
  case hy9k =>
   intro w' hSw
   obtain ⟨s0,s1,s2⟩:=hSw
   go_simp
   try with_reducible rfl
  simp only [Act.put,q1q,q2q,q3q]
  refine wpAnyF_one 10 (by rfl) (by kernel_rfl) rfl ?_
  intro K hK
  go_simp
  refine (delete_calls lo L.ss _ i _ HS.out.st (by omega) hln (by omega)).mono ?_;rintro e w4 ⟨v',rfl,hO4,hm⟩
  have HO4:=qhq hO4
  have HMe:=qhq (Mv.mono hm (ts':=eTys) (fun e he=>by rw [List.mem_singleton.1 he];decide))
  have HBK:=qhq (HS.out.blk.mv hm (by decide))
  have HUN:Hid (UnD w4 lo s L.past (.slice A4 L.past.length c4)):=qhq (by
   obtain ⟨fb,sm,h1,h2⟩:=HS.out.un
   exact ⟨fb,sm,h1.mv hm (by decide),fun i hi=>⟨(h2 i hi).1.mv hm (by decide),(h2 i hi).2.mv hm (by decide)⟩⟩)
  have HX4:=qhq (Blk.mv HX.out hm (by decide))
  have HE4:=qhq (HE.out.mv HMe.out)
  have HA4:=qhq (HA0.out.mv hm (by decide))
  have HM4:=qhq (HMV.out.trans HMe.out)
  obtain ⟨A9,c9,rfl,-⟩:=hO4.cap
  have hS4:w4.cell? ⟨sb,0,none⟩=some (.pointer (some ⟨s,0,none⟩)) ∧ w4.cell? ⟨s,3,none⟩=some (.slice A3 L.ss.length c3) ∧ w4.cell? ⟨q,1,none⟩=some (.int .i64 i):=⟨HE4.out.sbx.cell (j:=0) (by omega),HBK.out.cell (j:=3) (by omega),(HA4.out.cell (j:=1) (by omega)).trans (by rw [← HIA.out];rfl)⟩
  have HS4:=qhq hS4
  dsimp only
  refine hK.out _ _ (fun _=>HS4.out) ?_
  clear hK K hm hO4 HMe HS HX HE HA0 HMV HS0
  obtain ⟨z0,z3,-⟩:=hS4
  have f3:=HBK.out.free 3
  refine wpAnyF_one 11 (by rfl) (by kernel_rfl) rfl ?_
  intro K hK
  go_simp
  refine hK.out _ _ (fun _=>HS4.out) ?_
  clear hK K
  refine wpAnyF_one 12 (by rfl) (by kernel_rfl) rfl ?_
  intro K hK
  go_simp
  refine hK.out _ _ (fun _=>HS4.out) ?_
  clear hK K
  refine wpAnyF_one 13 (by rfl) (by kernel_rfl) rfl ?_
  intro K hK
  go_simp
  refine hK.out _ _ (fun h=>absurd rfl h) ?_
  clear hK K
  refine wpAnyF_done (by kernel_rfl) ?_ _
  clear z0 z3 f3
  go_wp2_with fail
  go_ret
  unfold doClear
  rw [if_neg (by rw [HIA.out];omega),HIA.out,Int.toNat_natCast]
  exact DoPost.plain rfl rfl (SeS.ofSt HBK.out HUN.out HO4.out) (HX4.out.far (HX4.out.ne HBK.out (by decide)) _) (HM4.out.set (p:=⟨s,3,none⟩) hlo HBK.out (by decide) _)
end Go.Proofs.YtcklnjjbhngbcaaGreatDoor
