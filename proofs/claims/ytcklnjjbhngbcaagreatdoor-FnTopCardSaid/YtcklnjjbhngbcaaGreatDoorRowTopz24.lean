/- Lemmas and contracts of functions that the theorem of this claim leans on (texts I5, I6). -/
import Derived.Test.YtcklnjjbhngbcaaGreatDoorRowTopz00
import Derived.Test.YtcklnjjbhngbcaaGreatDoorRowTopz16
import Derived.Deep.LoopGhost
import Derived.Test.YtcklnjjbhngbcaaGreatDoorRowUnz05
namespace Go.Proofs.YtcklnjjbhngbcaaGreatDoor
open Go.RowKit Go.Proofs.Lens
theorem IsW.at {w:World} {g:Nat} {v1 v2:Value} {s:PS} {cl:List PFr} {f:Nat → Value} (h:IsW w g v1 v2 s cl f) {i:Int} (h0:0 ≤ i) (h1:i ≤ 100) :
  ∃ p,w.cell? ⟨g,3 + i.toNat,none⟩=some (.pointer p) ∧ FrL w p (s.stk i):=by
 obtain ⟨p,e,hl⟩:=h.stk i.toNat (by omega)
 rw [Int.toNat_of_nonneg h0] at hl
 exact ⟨p,(h.blk.cell (by omega)).trans (by rw [e]),hl⟩
theorem igood_cur {t:PTr} {k:Int} (h:goodP t k=true):Inv (atP t k) (atN t k):=(sound_iff (goodP_true h).1).inv _ (atN_le t k)
def skQ (t:PTr) (k:Int) (Q:PMom → Int → Int → Bool) (i:Nat):Bool :=
 decide ((elt t.moms i).kind ≠ 7) && decide ((elt t.moms i).task=(atP t k).cur) && Q (elt t.moms i) ((stN t.moms (i + 1)).stk (atP t k).cur).length ((atP t k).stk (atP t k).cur).length
def Wants (F:Nat) (Q:PMom → Int → Int → Bool):Prop :=
 ∀ (m:PMom) (Av:Option Addr) (cv:Nat) (a b:Int) (w:World),Calls Tryz.prog F #[.agg #[.int .i64 m.kind,.int .i64 m.task,.int .i64 m.fn,.int .i64 m.line,.string m.text,.slice Av m.vars.length cv],.int .i64 a,.int .i64 b] w
  fun e w'=>e=.returned (.bool (Q m a b)) ∧ Below w.heap.size w w'
set_option maxRecDepth 100000 in
set_option maxHeartbeats 2000000 in
theorem seek_calls (F:Nat) (Q:PMom → Int → Int → Bool) (hF:Wants F Q) (hFs:F=79 ∨ F=146 ∨ F=147) (v1 v2:Value) (t:PTr) (k:Int) (w:World) (h:RdTr w v1 v2 t) (hsm:smTr t) :
  Calls Tryz.prog 78 #[.agg #[v1,v2],.int .i64 k,.func (.func F) #[] #[]] w fun e w'=>e=.returned (.int .i64 (seekP t k (skQ t k Q))) ∧ Below w.heap.size w w':=by
 have HT:=qhq h
 have HS:=qhq hsm
 have HF:=qhq hF
 have HFS:=qhq hFs
 clear hF hFs
 obtain ⟨⟨A1,c1,rfl,hn1,-⟩,⟨vv,⟨A2,c2,rfl,hn2,-⟩,-⟩⟩:=h
 obtain ⟨⟨hs1,-⟩,⟨hs2,-⟩⟩:=hsm
 cases hg:goodP t k with
 | false =>
  have HR:Hid (seekP t k (skQ t k Q)=-2):=qhq (by unfold seekP;rw [if_neg (by rw [hg];simp)])
  have HG:=qhq hg
  clear hg
  go_enter Tryz.func78,Tryz.ntmps78
  go_wp2_with fail
  refine (at_bad _ _ t k _ (HT.out.later (by repeat (with_reducible first | exact qrq _ _ | exact HL.out | refine qnq ?_ _ | refine bl_drew ?_ | refine qaq ?_ _ | refine bl_set ?_ (by dsimp only;omega) _))) HS.out HG.out).mono ?_;rintro e w1 ⟨rfl,hb⟩
  have HB:=qhq (qtq (qaq (qrq _ w) _) hb)
  clear hb
  go_wp2
  go_ret
  exact ⟨ret_int HR.out.symm,HB.out⟩
 | true =>
  obtain ⟨-,-,k0,k1⟩:=goodP_true hg
  have HP:Hid (seekP t k (skQ t k Q)=(firstB (skQ t k Q) t.moms.length (t.moms.length - (k + 1).toNat) (k + 1).toNat:Nat)):=qhq (by unfold seekP;rw [if_pos hg])
  have hi:=igood_cur hg
  have i0:=hi.lo
  have i1:=hi.hi
  have SO:=qhq (sound_iff (goodP_true hg).1)
  have HG:=qhq hg
  clear hg hi
  go_enter Tryz.func78,Tryz.ntmps78
  go_wp2_with fail
  refine (at_good _ _ t k _ (HT.out.later (by repeat (with_reducible first | exact qrq _ _ | exact HL.out | refine qnq ?_ _ | refine bl_drew ?_ | refine qaq ?_ _ | refine bl_set ?_ (by dsimp only;omega) _))) HS.out HG.out).mono ?_;rintro e w1 ⟨g,cl,f,rfl,hW,hgs,hb⟩
  have HX:=qhq ((BoxAt.new w [.slice A1 t.fns.length c1,.slice A2 t.moms.length c2] 26).later hb)
  have HB:=qhq (qtq (qaq (qrq _ w) _) hb)
  have HGS:Hid (w.heap.size + 1 ≤ g):=qhq (by simpa using hgs)
  have HW:=qhq hW
  have c2':w1.cell? ⟨g,2,none⟩=some (.int .i64 (atP t k).cur):=(hW.blk.cell (by omega)).trans (by rw [hW.cur])
  obtain ⟨p,cp,hl⟩:=hW.at i0 i1
  have hcx:(atP t k).cur < 101:=by omega
  have HL:=qhq hl
  clear hb hgs hW hl
  obtain ⟨x0,x1⟩:=HX.out.open2
  obtain ⟨j,hj⟩:∃ j:Nat,k + 1=(j:Int):=⟨(k + 1).toNat,by omega⟩
  have HJ:=qhq hj
  clear hj
  go_wp2_with fail
  refine (count_calls p _ _ HL.out).mono ?_;rintro e w2 ⟨rfl,rfl⟩
  go_wp2_with fail
  clear x0 x1 cp c2' HL
  go_loopw [10] (fun i wr=>∃ (n:Nat) (cl:List PFr) (f:Nat → Value),j ≤ n ∧ i=.int .i64 n ∧ firstB (skQ t k Q) t.moms.length (t.moms.length - j) j=firstB (skQ t k Q) t.moms.length (t.moms.length - n) n ∧
   (n ≤ t.moms.length → IsW wr g (.slice A1 t.fns.length c1) (.slice A2 t.moms.length c2) (stN t.moms n) cl f) ∧ Below w.heap.size w wr ∧ BoxAt wr w.heap.size [.slice A1 t.fns.length c1,.slice A2 t.moms.length c2]) (fun i _=>t.moms.length - (intOf i).toNat)
  case atStart =>
   refine ⟨j,cl,f,Nat.le_refl _,by rw [← HJ.out],rfl,fun hj=>?_,HB.out,HX.out⟩
   have e:atP t k=stN t.moms j:=by
    have:=HJ.out
    unfold atP atN;congr 1;omega
   rw [← e];exact HW.out
  case round =>
   obtain ⟨n,cl,f,hn,rfl,hq,hW,hb,hx⟩:=hrel
   clear HW HB HX
   have HQ:=qhq hq
   have HB:=qhq hb
   have HX:=qhq hx
   obtain ⟨x0,x1⟩:=HX.out.open2
   by_cases h2:n < t.moms.length
   ·have HW:=qhq (hW (by omega))
    have HI:=qhq (SO.out.inv n (by omega))
    clear hq hW hb hx
    go_wp2_with fail
    refine (step_calls g _ _ _ _ _ t.moms n t.fns.length _ HW.out (HT.out.2.later HB.out) h2 HI.out (SO.out.moms n h2) (SO.out.moves n h2)).mono ?_
    rintro e w3 ⟨rfl,⟨f',hW3⟩,hgb⟩
    replace HX:=qhq (BoxAt.gb HX.out hgb (by have:=HGS.out;omega))
    replace HB:=qhq (bl_grown HB.out hgb (by have:=HGS.out;omega))
    clear HW
    have HW:=qhq hW3
    clear hgb hW3 x0 x1
    obtain ⟨x0,x1⟩:=HX.out.open2
    obtain ⟨b,o,vk,hA,d0,d1,d2,d3,d4,d5,hvk⟩:=rd_moment (HT.out.2.later HB.out) h2
    obtain ⟨Av,cv,rfl,-⟩:=hvk
    have HA:=qhq hA
    subst hA
    go_upto_region 11 with fail
    generalize hW2:World.alloc w3 _=W2
    have hbl:Below w3.heap.size w3 W2:=by rw [← hW2];exact qaq (qrq _ _) _
    have y0:W2.cell? ⟨w3.heap.size,0,none⟩=some (.int .i64 (elt t.moms n).kind):=by rw [← hW2];clear hW2;go_simp
    have y1:W2.cell? ⟨w3.heap.size,1,none⟩=some (.int .i64 (elt t.moms n).task):=by rw [← hW2];clear hW2;go_simp
    have y2:W2.cell? ⟨w3.heap.size,2,none⟩=some (.int .i64 (elt t.moms n).fn):=by rw [← hW2];clear hW2;go_simp
    have y3:W2.cell? ⟨w3.heap.size,3,none⟩=some (.int .i64 (elt t.moms n).line):=by rw [← hW2];clear hW2;go_simp
    have y4:W2.cell? ⟨w3.heap.size,4,none⟩=some (.string (elt t.moms n).text):=by rw [← hW2];clear hW2;go_simp
    have y5:W2.cell? ⟨w3.heap.size,5,none⟩=some (.slice Av (elt t.moms n).vars.length cv):=by rw [← hW2];clear hW2;go_simp
    clear hW2
    replace HW:=qhq (HW.out.later hbl);replace HB:=qhq (qtq HB.out hbl);replace HX:=qhq (HX.out.later hbl);clear hbl
    clear x0 x1 d0 d1 d2 d3 d4 d5
    obtain ⟨p,cp,hl⟩:=HW.out.at i0 i1
    replace hl:FrL W2 p ((stN t.moms (n + 1)).stk (atP t k).cur):=hl
    have HL:=qhq hl
    clear hl
    have HI:Hid (skQ t k Q n=(((elt t.moms n).kind != 7) && ((elt t.moms n).task == (atP t k).cur) && Q (elt t.moms n) ((stN t.moms (n + 1)).stk (atP t k).cur).length ((atP t k).stk (atP t k).cur).length)):=qhq (by unfold skQ;rw [bne,Bool.beq_eq_decide_eq,Bool.beq_eq_decide_eq];simp)
    generalize hk1:((elt t.moms n).kind != 7)=q1 at HI
    generalize hk2:((elt t.moms n).task == (atP t k).cur)=q2 at HI
    cases q1
    ·go_quiet (fail)
     go_wp2
     go_roundw
     case rel=>exact ⟨n + 1,_,f',by omega,by go_num,HQ.out.trans (firstB_skip h2 HI.out),fun _=>HW.out.drewN _,qnq HB.out _,HX.out.later (qnq (qrq _ _) _)⟩
     case measure=>simp [intOf];omega
    ·cases q2
     ·go_quiet (fail)
      go_wp2
      go_roundw
      case rel=>exact ⟨n + 1,_,f',by omega,by go_num,HQ.out.trans (firstB_skip h2 HI.out),fun _=>HW.out.drewN _,qnq HB.out _,HX.out.later (qnq (qrq _ _) _)⟩
      case measure=>simp [intOf];omega
     ·go_still_tail 20,(by kernel_rfl)
      still_call ((count_calls p _ _ (HL.out.later (bl_drew (qrq _ _)))).mono (by rintro e w1 ⟨rfl,rfl⟩;exact ⟨rfl,rfl⟩))
      repeat still_step
      refine wpStill_nil ?_
      have hFS:=HFS.out
      rcases hFS with rfl | rfl | rfl
      all_goals
       go_wp2_with fail
       refine (HF.out (elt t.moms n) Av cv _ _ _).mono ?_
       rintro e w4 ⟨rfl,hb⟩
       replace hb:=qtq (bl_drew (qrq _ W2)) hb
       replace HW:=qhq (HW.out.later hb);replace HB:=qhq (qtq HB.out hb);replace HX:=qhq (HX.out.later hb);clear hb
       clear y0 y1 y2 y3 y4 y5 cp HL
       generalize hk3:Q (elt t.moms n) ((stN t.moms (n + 1)).stk (atP t k).cur).length ((atP t k).stk (atP t k).cur).length=q3 at HI ⊢
       cases q3
       ·go_wp2
        go_roundw
        case rel=>exact ⟨n + 1,_,f',by omega,by go_num,HQ.out.trans (firstB_skip h2 HI.out),fun _=>HW.out,HB.out,HX.out⟩
        case measure=>simp [intOf];omega
       ·go_wp2
        go_ret
        refine ⟨ret_int ?_,HB.out⟩
        rw [HP.out,HJ.out,Int.toNat_natCast,HQ.out,firstB_hit h2 HI.out]
   ·clear hq hW hb hx
    go_wp2
    go_ret
    refine ⟨ret_int ?_,HB.out⟩
    rw [HP.out,HJ.out,Int.toNat_natCast,HQ.out,firstB_end (by omega)]
def intoW (m:PMom) (_ _:Int):Bool:=m.kind == 1
set_option maxRecDepth 100000 in
set_option maxHeartbeats 400000 in
theorem into_wants:Wants 79 intoW:=by
 intro m Av cv a b w
 unfold intoW
 go_enter Tryz.func79,Tryz.ntmps79
 go_wp2
 all_goals
  go_ret
  exact ⟨ret_bool (by simp [*]),qaq (qrq _ _) _⟩
theorem into_sk (t:PTr) (k:Int) (i:Nat):skQ t k intoW i=intoQ t k i:=by
 unfold skQ intoW intoQ
 grind
set_option maxRecDepth 100000 in
set_option maxHeartbeats 400000 in
theorem impl_Into_calls (v1 v2:Value) (t:PTr) (k:Int) (w:World) (h:RdTr w v1 v2 t) (hsm:smTr t) :
  Calls Tryz.prog 31 #[.agg #[v1,v2],.int .i64 k] w fun e w'=>e=.returned (.int .i64 (intoP t k)) ∧ Below w.heap.size w w':=by
 have HT:=qhq h
 have HS:=qhq hsm
 obtain ⟨⟨A1,c1,rfl,hn1,-⟩,⟨vv,⟨A2,c2,rfl,hn2,-⟩,-⟩⟩:=h
 clear hsm
 go_enter Tryz.func31,Tryz.ntmps31
 go_wp2_with fail
 refine (seek_calls _ _ into_wants (by simp) _ _ t k _ (HT.out.later (by repeat (with_reducible first | exact qrq _ _ | exact HL.out | refine qnq ?_ _ | refine bl_drew ?_ | refine qaq ?_ _ | refine bl_set ?_ (by dsimp only;omega) _))) HS.out).mono ?_;rintro e w1 ⟨rfl,hb⟩
 have HB:=qhq (qtq (qaq (qrq _ w) _) hb)
 clear hb
 go_wp2
 go_ret
 exact ⟨ret_int (by unfold intoP seekP;rw [firstB_congr (into_sk t k)]),HB.out⟩
def overW (m:PMom) (a b:Int):Bool:=m.kind == 1 && decide (a ≤ b)
set_option maxRecDepth 100000 in
set_option maxHeartbeats 400000 in
theorem over_wants:Wants 146 overW:=by
 intro m Av cv a b w
 unfold overW
 go_enter Tryz.func146,Tryz.ntmps146
 go_wp2
 all_goals
  go_ret
  exact ⟨ret_bool (by simp [*]),qaq (qrq _ _) _⟩
theorem over_sk (t:PTr) (k:Int) (i:Nat):skQ t k overW i=overQ t k i:=by
 unfold skQ overW overQ
 grind
set_option maxRecDepth 100000 in
set_option maxHeartbeats 400000 in
theorem impl_Over_calls (v1 v2:Value) (t:PTr) (k:Int) (w:World) (h:RdTr w v1 v2 t) (hsm:smTr t) :
  Calls Tryz.prog 109 #[.agg #[v1,v2],.int .i64 k] w fun e w'=>e=.returned (.int .i64 (overP t k)) ∧ Below w.heap.size w w':=by
 have HT:=qhq h
 have HS:=qhq hsm
 obtain ⟨⟨A1,c1,rfl,hn1,-⟩,⟨vv,⟨A2,c2,rfl,hn2,-⟩,-⟩⟩:=h
 clear hsm
 go_enter Tryz.func109,Tryz.ntmps109
 go_wp2_with fail
 refine (seek_calls _ _ over_wants (by simp) _ _ t k _ (HT.out.later (by repeat (with_reducible first | exact qrq _ _ | exact HL.out | refine qnq ?_ _ | refine bl_drew ?_ | refine qaq ?_ _ | refine bl_set ?_ (by dsimp only;omega) _))) HS.out).mono ?_;rintro e w1 ⟨rfl,hb⟩
 have HB:=qhq (qtq (qaq (qrq _ w) _) hb)
 clear hb
 go_wp2
 go_ret
 exact ⟨ret_int (by unfold overP seekP;rw [firstB_congr (over_sk t k)]),HB.out⟩
def outW (m:PMom) (a b:Int):Bool:=m.kind == 3 && decide (a < b)
set_option maxRecDepth 100000 in
set_option maxHeartbeats 400000 in
theorem out_wants:Wants 147 outW:=by
 intro m Av cv a b w
 unfold outW
 go_enter Tryz.func147,Tryz.ntmps147
 go_wp2
 all_goals
  go_ret
  exact ⟨ret_bool (by simp [*]),qaq (qrq _ _) _⟩
theorem out_sk (t:PTr) (k:Int) (i:Nat):skQ t k outW i=outQ t k i:=by
 unfold skQ outW outQ
 grind
set_option maxRecDepth 100000 in
set_option maxHeartbeats 400000 in
theorem impl_Out_calls (v1 v2:Value) (t:PTr) (k:Int) (w:World) (h:RdTr w v1 v2 t) (hsm:smTr t) :
  Calls Tryz.prog 111 #[.agg #[v1,v2],.int .i64 k] w fun e w'=>e=.returned (.int .i64 (outP t k)) ∧ Below w.heap.size w w':=by
 have HT:=qhq h
 have HS:=qhq hsm
 obtain ⟨⟨A1,c1,rfl,hn1,-⟩,⟨vv,⟨A2,c2,rfl,hn2,-⟩,-⟩⟩:=h
 clear hsm
 go_enter Tryz.func111,Tryz.ntmps111
 go_wp2_with fail
 refine (seek_calls _ _ out_wants (by simp) _ _ t k _ (HT.out.later (by repeat (with_reducible first | exact qrq _ _ | exact HL.out | refine qnq ?_ _ | refine bl_drew ?_ | refine qaq ?_ _ | refine bl_set ?_ (by dsimp only;omega) _))) HS.out).mono ?_;rintro e w1 ⟨rfl,hb⟩
 have HB:=qhq (qtq (qaq (qrq _ w) _) hb)
 clear hb
 go_wp2
 go_ret
 exact ⟨ret_int (by unfold outP seekP;rw [firstB_congr (out_sk t k)]),HB.out⟩
theorem i_frame':(Tryz.prog.info? 42).map (fun i=>(i.zero,i.size,i.bytes))=some (some (.agg #[.int .i64 0,.int .i64 0,.int .i64 0]),3,24):=by kernel_rfl
theorem FrL.own {w w':World} {fs:List PFr} {p:Option Addr} (h:FrL w p fs) {lo n sz:Nat} {e:TypeId} {C:Nat → Nat → Value} {v:Value} (hO:OwR w lo e sz n C v) (he:e ≠ 148) (hg:w.grownBy w' v.ownBlock):FrL w' p fs :=
 h.keep fun b N f hB=>hg.block b hB.lt (fun hh=>by
  obtain ⟨N',f',hB'⟩:=hO.block hh.symm
  exact hB'.ne hB he rfl)
set_option maxRecDepth 100000 in
set_option maxHeartbeats 2000000 in
theorem impl_StackAt_calls (v1 v2:Value) (t:PTr) (k task:Int) (w:World) (h:RdTr w v1 v2 t) (hsm:smTr t) :
  Calls Tryz.prog 149 #[.agg #[v1,v2],.int .i64 k,.int .i64 task] w (OwRet w 42 3 (stackP t k task).length (frC (stackP t k task))):=by
 have HT:=qhq h
 have HS:=qhq hsm
 obtain ⟨⟨A1,c1,rfl,hn1,-⟩,⟨vv,⟨A2,c2,rfl,hn2,-⟩,-⟩⟩:=h
 clear hsm
 cases hg:goodP t k with
 | false =>
  have HR:Hid (stackP t k task=[]):=qhq (by unfold stackP;rw [hg];rfl)
  have HG:=qhq hg
  clear hg
  go_enter Tryz.func149,Tryz.ntmps149
  go_wp2_with fail
  refine (at_bad _ _ t k _ (HT.out.later (by repeat (with_reducible first | exact qrq _ _ | exact HL.out | refine qnq ?_ _ | refine bl_drew ?_ | refine qaq ?_ _ | refine bl_set ?_ (by dsimp only;omega) _))) HS.out HG.out).mono ?_;rintro e w1 ⟨rfl,hb⟩
  have HB:=qhq (qtq (qaq (qrq _ w) _) hb)
  clear hb
  go_wp2
  go_ret
  rw [HR.out]
  exact ⟨_,rfl,OwR.nil,HB.out⟩
 | true =>
  cases ht:inB task 0 100 with
  | false =>
   have HR:Hid (stackP t k task=[]):=qhq (by unfold stackP;rw [hg,ht];rfl)
   have HG:=qhq hg
   have HI:=qhq ht
   clear hg ht
   go_enter Tryz.func149,Tryz.ntmps149
   go_wp2_with fail
   refine (at_good _ _ t k _ (HT.out.later (by repeat (with_reducible first | exact qrq _ _ | exact HL.out | refine qnq ?_ _ | refine bl_drew ?_ | refine qaq ?_ _ | refine bl_set ?_ (by dsimp only;omega) _))) HS.out HG.out).mono ?_;rintro e w1 ⟨g,cl,f,rfl,hW,hgs,hb⟩
   have HB:=qhq (qtq (qaq (qrq _ w) _) hb)
   clear hb hW hgs
   go_wp2_with fail
   refine (inside_is _ _ _ _ HI.out).mono ?_;rintro e w2 ⟨rfl,rfl⟩
   go_wp2
   go_ret
   rw [HR.out]
   exact ⟨_,rfl,OwR.nil,HB.out⟩
  | true =>
   have hR:stackP t k task=(atP t k).stk task:=by unfold stackP;rw [hg,ht];rfl
   obtain ⟨t0,t1⟩:=inB_true.1 ht
   have hd:=(igood_cur hg).deep task
   rw [← hR] at hd
   have HR:=qhq hR
   have HG:=qhq hg
   have HI:=qhq ht
   clear hg ht hR
   generalize stackP t k task=L at HR hd
   go_enter Tryz.func149,Tryz.ntmps149
   go_wp2_with fail
   refine (at_good _ _ t k _ (HT.out.later (by repeat (with_reducible first | exact qrq _ _ | exact HL.out | refine qnq ?_ _ | refine bl_drew ?_ | refine qaq ?_ _ | refine bl_set ?_ (by dsimp only;omega) _))) HS.out HG.out).mono ?_;rintro e w1 ⟨g,cl,f,rfl,hW,hgs,hb⟩
   have HB:=qhq (qtq (qaq (qrq _ w) _) hb)
   obtain ⟨p,cp,hl⟩:=hW.at t0 t1
   have hxt:task < 101:=by omega
   have HL:Hid (FrL w1 p L):=qhq (by rw [HR.out];exact hl)
   clear hb hW hgs hl
   go_wp2_with fail
   refine (inside_is _ _ _ _ HI.out).mono ?_;rintro e w2 ⟨rfl,rfl⟩
   go_wp2_with fail
   go_loopg [8,9] L.length (fun gk o a wr=>∃ (q:Nat) (p:Option Addr),q + gk=L.length ∧ a=.pointer p ∧ FrL wr p (L.drop q) ∧ OwR wr w.heap.size 42 3 q (frC L) o ∧ Below w.heap.size w wr)
   case atStart=>exact ⟨0,p,by omega,rfl,by simpa using HL.out,OwR.nil,HB.out⟩
   case round =>
    obtain ⟨q,p,hq,rfl,hl,hO,hb⟩:=hrel
    clear HL HB
    have HO:=qhq hO
    have HB:=qhq hb
    have hsz:=hb.size
    obtain ⟨A3,c3,rfl,-⟩:=hO.cap
    clear hO hb
    by_cases hlt:q < L.length
    ·rw [drop_cons hlt] at hl
     obtain ⟨b,nx,rfl,hB,hl2⟩:=hl
     have HL:=qhq hl2
     have x0:wr.cell? ⟨b,0,none⟩=some (.int .i64 (elt L q).fn):=hB.cell (j:=0) (by omega)
     have x1:wr.cell? ⟨b,1,none⟩=some (.int .i64 (elt L q).line):=hB.cell (j:=1) (by omega)
     have x2:wr.cell? ⟨b,2,none⟩=some (.int .i64 (elt L q).frm):=hB.cell (j:=2) (by omega)
     have HK:=qhq hB
     clear hB hl2
     go_wp2_with (at_builtin;refine stopped ?_)
     unfold Stopped
     refine wpList_append1 _ (by rfl) _ _ 35 (by rfl) w.heap.size 42 _ 3 24 Tryz.underlying35 i_frame' rfl (by omega) _ q _ (frC L) (by rfl) HO.out [.int .i64 (elt L q).fn,.int .i64 (elt L q).line,.int .i64 (elt L q).frm] rfl (by simp [Value.oneCell']) (by rfl) (fun _ _ _ _=>rfl) ?hN hsz (by omega) (by omega) ?_
     case hN =>
      intro j hj
      match j,hj with
      | 0,_=>rfl
      | 1,_=>rfl
      | 2,_=>rfl
     intro ga cap w1 hO1 hG1 _ _
     have x3:w1.cell? ⟨b,3,none⟩=some (.pointer nx):=by
      have h1:Blk w1 b 148 5 _:=HK.out.keep (hG1.block b HK.out.lt (fun hh=>by
       obtain ⟨N',f',hB'⟩:=HO.out.block hh.symm
       exact hB'.ne HK.out (by decide) rfl))
      exact h1.cell (j:=3) (by omega)
     have HL1:=qhq (HL.out.own HO.out (by decide) hG1)
     have HB1:=qhq (bl_own HB.out hsz HO.out hG1)
     have HO1:=qhq hO1
     clear hO1 hG1 x0 x1 x2 HK
     go_wp2
     go_roundg (gk - 1)
     case measure=>omega
     case rel=>exact ⟨q + 1,nx,by omega,rfl,HL1.out,HO1.out,HB1.out⟩
    ·obtain rfl:q=L.length:=by omega
     rw [List.drop_length] at hl
     obtain rfl:p=none:=hl
     go_wp2
     go_ret
     exact ⟨_,rfl,HO.out,HB.out⟩
end Go.Proofs.YtcklnjjbhngbcaaGreatDoor
