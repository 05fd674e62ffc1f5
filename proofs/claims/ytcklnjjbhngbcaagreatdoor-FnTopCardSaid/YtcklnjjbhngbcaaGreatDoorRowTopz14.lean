/- Lemmas and contracts of functions that the theorem of this claim leans on (texts T16). -/
import Derived.Test.YtcklnjjbhngbcaaGreatDoorRowTopz00
import Derived.Deep.RegionHeld3
import Derived.Test.YtcklnjjbhngbcaaGreatDoorRowTopz13
import Derived.Test.YtcklnjjbhngbcaaGreatDoorRowTopz10
namespace Go.Proofs.YtcklnjjbhngbcaaGreatDoor
open Go.RowKit Go.Proofs.Lens
theorem own_cells {w:World} {A:Option Addr} {n c:Nat} {ms:List PMom} (h:RdSl w 5 n (ownC ms) (.slice A n c)) {i:Nat} (hi:i < n) :
  ∃ b o,A=some ⟨b,o,none⟩ ∧ w.cell? ⟨b,o + i * 5,none⟩=some (.bool (!(shownS ms i).top.isEmpty)) ∧ w.cell? ⟨b,o + i * 5 + 1,none⟩=some (.int .i64 (shownS ms i).cur) ∧
   w.cell? ⟨b,o + i * 5 + 2,none⟩=some (.int .i64 (ownF ms i).fn) ∧ w.cell? ⟨b,o + i * 5 + 3,none⟩=some (.int .i64 (ownF ms i).line) ∧ w.cell? ⟨b,o + i * 5 + 4,none⟩=some (.int .i64 (ownF ms i).frm):=by
 obtain ⟨A',c',he,hn,hrow⟩:=h
 obtain ⟨rfl,-,rfl⟩:A=A' ∧ n=n ∧ c=c':=by simpa using he
 obtain ⟨b,o,rfl,hc⟩:=hrow (by omega)
 exact ⟨b,o,rfl,hc i hi 0 (by omega),hc i hi 1 (by omega),hc i hi 2 (by omega),hc i hi 3 (by omega),hc i hi 4 (by omega)⟩
theorem shownP_own {ms:List PMom} {i:Nat} (h:(shownS ms i).top.isEmpty=false):shownP ms i=some ((shownS ms i).cur,ownF ms i):=by
 unfold shownP ownF
 cases hs:(shownS ms i).top with
 | nil=>rw [hs] at h;cases h
 | cons f r=>rfl
theorem shownP_own0 {ms:List PMom} {i:Nat} (h:(shownS ms i).top.isEmpty=true):shownP ms i=none:=by
 unfold shownP
 cases hs:(shownS ms i).top with
 | nil=>rfl
 | cons f r=>rw [hs] at h;cases h
section
variable {ms : List PMom} {nm : ByteArray} {tk frm : Int} {now : ByteArray} {i : Nat}
theorem chg_stop (h:(i:Int) < frm):chgP ms nm tk frm now (i + 1)=true:=by unfold chgP;rw [if_pos h]
theorem chg_skip0 (h:¬ (i:Int) < frm) (hs:shownP ms i=none):chgP ms nm tk frm now (i + 1)=chgP ms nm tk frm now i:=by
 rw [chgP,if_neg h,hs]
theorem chg_skip1 (h:¬ (i:Int) < frm) {tk':Int} {g:PFr} (hs:shownP ms i=some (tk',g)) (hn:¬ (tk'=tk ∧ g.frm=frm)):chgP ms nm tk frm now (i + 1)=chgP ms nm tk frm now i:=by
 rw [chgP,if_neg h,hs];dsimp only;rw [if_neg hn]
theorem chg_none (h:¬ (i:Int) < frm) (hv:valP (elt ms i).vars nm=none):chgP ms nm tk frm now (i + 1)=chgP ms nm tk frm now i:=by
 rw [chgP,if_neg h]
 cases shownP ms i with
 | none=>rfl
 | some p=>dsimp only;rw [hv];split <;> rfl
theorem chg_hit (h:¬ (i:Int) < frm) {tk':Int} {g:PFr} (hs:shownP ms i=some (tk',g)) (hn:tk'=tk ∧ g.frm=frm) {u:ByteArray} (hv:valP (elt ms i).vars nm=some u):chgP ms nm tk frm now (i + 1)=!(u.toList == now.toList):=by
 rw [chgP,if_neg h,hs];dsimp only;rw [if_pos hn,hv,ba_beq];simp
end
set_option maxRecDepth 100000 in
set_option maxHeartbeats 8000000 in
theorem l3changes_calls (v1 v2 v3:Value) (t:PTr) (s:PStop) (k:Nat) (w:World) (h:RdTr w v1 v2 t) (hsm:smTr t) (hk:k < t.moms.length) (ho:RdSl w 5 t.moms.length (ownC t.moms) v3) :
  Calls Tryz.prog 141 #[.agg #[v1,v2],v3,stopV s,.int .i64 k] w fun e w'=>e=.returned (.bool (chgAt t.moms s k)) ∧ Below w.heap.size w w':=by
 have HT:=qhq h
 obtain ⟨⟨A1,c1,rfl,hn1,-⟩,⟨vv,⟨A2,c2,rfl,hn2,-⟩,-⟩⟩:=h
 obtain ⟨A3,c3,rfl,hn3,-⟩:=id ho
 have HOW:=qhq ho
 have hsz:=hsm.2.1
 obtain ⟨bo,oo,rfl,p0,p1,p2,p3,p4⟩:=own_cells ho hk
 obtain ⟨b,o,vk,rfl,d0,d1,d2,d3,d4,d5,hvk⟩:=rd_moment HT.out.2 hk
 obtain ⟨Av,cv,rfl,hvl,-⟩:=id hvk
 have HVK:=qhq hvk
 have hk2:(k:Int) < (t.moms.length:Int):=by omega
 have hbo:=World.block_lt_of_cell? _ _ p0
 dsimp only at hbo
 unfold stopV
 clear hsm ho d0 d1 d2 d3 d4 hvk
 go_enter Tryz.func141,Tryz.ntmps141
 go_upto_region 2 with fail
 generalize hW:World.alloc (World.alloc (World.alloc w _) _) _=W
 have hB:Below w.heap.size w W:=by rw [← hW];exact (by repeat (with_reducible first | exact qrq _ _ | exact HL.out | refine qnq ?_ _ | refine bl_drew ?_ | refine qaq ?_ _ | refine bl_set ?_ (by dsimp only;omega) _))
 have x1:W.cell? ⟨w.heap.size,1,none⟩=some (.slice (some ⟨b,o,none⟩) t.moms.length c2):=by rw [← hW];clear hW;go_simp
 have s1:W.cell? ⟨w.heap.size + 1,1,none⟩=some (.int .i64 s.fn):=by rw [← hW];clear hW;go_simp
 have s3:W.cell? ⟨w.heap.size + 1,3,none⟩=some (.string s.nm):=by rw [← hW];clear hW;go_simp
 have o0:W.cell? ⟨w.heap.size + 1 + 1,0,none⟩=some (.bool (!(shownS t.moms k).top.isEmpty)):=by rw [← hW];clear hW;go_simp
 have o1:W.cell? ⟨w.heap.size + 1 + 1,1,none⟩=some (.int .i64 (shownS t.moms k).cur):=by rw [← hW];clear hW;go_simp
 have o2:W.cell? ⟨w.heap.size + 1 + 1,2,none⟩=some (.int .i64 (ownF t.moms k).fn):=by rw [← hW];clear hW;go_simp
 have o4:W.cell? ⟨w.heap.size + 1 + 1,4,none⟩=some (.int .i64 (ownF t.moms k).frm):=by rw [← hW];clear hW;go_simp
 have e5:=qcq hB d5
 have HB:=qhq hB
 have HX:=qhq (And.intro x1 (And.intro s1 (And.intro s3 (And.intro o0 (And.intro o1 (And.intro o2 o4))))))
 clear hW hB d5 p0 p1 p2 p3 p4 s1 o0 o1 o2 o4
 go_region_held3 (fun w':World=>Below W.heap.size W w' ∧ w'.cell? ⟨w.heap.size,1,none⟩=some (.slice (some ⟨b,o,none⟩) t.moms.length c2) ∧ w'.cell? ⟨b,o + k * 6 + 5,none⟩=some (.slice Av (elt t.moms k).vars.length cv) ∧
   w'.cell? ⟨w.heap.size + 1,3,none⟩=some (.string s.nm) ∧ w'.cell? ⟨w.heap.size + 1,3,none⟩=some (.string s.nm))
  (first | exact ⟨bl_drew (qrq _ _),x1,e5,s3,s3⟩ | exact held4 ‹_› hb7)
  (first | (go_at_call 98;refine (l3value_calls _ (elt t.moms k).vars s.nm _ (HVK.out.later (qtq HB.out (held4_bl ‹_›)))).mono ?_;rintro e w8 ⟨rfl,hb7⟩))
 have hb:Below W.heap.size W w8:=held4_bl ‹_›
 obtain ⟨x1',s1,s3',o0,o1,o2,o4⟩:=HX.out
 replace x1':=qcq hb x1'
 replace s1:=qcq hb s1
 replace s3':=qcq hb s3'
 replace o0:=qcq hb o0
 replace o1:=qcq hb o1
 replace o2:=qcq hb o2
 replace o4:=qcq hb o4
 have HB8:=qhq (qtq HB.out hb)
 have HY:=qhq (And.intro x1' (And.intro s3' (And.intro o1 o4)))
 clear HB HX hb hb7 x1 s3 e5 x1' s3' o1 o4
 obtain ⟨vo,hvo⟩:∃ vo,valP (elt t.moms k).vars s.nm=vo:=⟨_,rfl⟩
 have HVO:=qhq hvo
 rw [hvo]
 clear hvo
 obtain ⟨em,hem⟩:∃ em,(shownS t.moms k).top.isEmpty=em:=⟨_,rfl⟩
 have HEM:=qhq hem
 rw [hem] at o0 ⊢
 clear hem
 go_upto_region 3 with fail
 cases em with
 | true =>
  have HR:Hid (chgAt t.moms s k=false):=qhq (by unfold chgAt;rw [shownP_own0 HEM.out])
  clear s1 o2
  go_wp2
  go_ret
  exact ⟨by rw [HR.out];rfl,HB8.out⟩
 | false =>
  have HSH:=qhq (shownP_own HEM.out)
  obtain ⟨q1,hq1⟩:∃ q1,((ownF t.moms k).fn == s.fn)=q1:=⟨_,rfl⟩
  have HQ:=qhq hq1
  have hq1n:((ownF t.moms k).fn != s.fn)=!q1:=by rw [bne,hq1]
  cases q1 with
  | false =>
   have HR:Hid (chgAt t.moms s k=false):=qhq (by
    have hne:¬ (ownF t.moms k).fn=s.fn:=by have:=HQ.out;simpa using this
    unfold chgAt
    rw [HSH.out,HVO.out]
    cases vo with
    | none=>rfl
    | some x=>dsimp only;rw [if_neg hne])
   simp only [Bool.not_false] at hq1n
   go_wp2
   go_ret
   exact ⟨by rw [HR.out];rfl,HB8.out⟩
  | true =>
   simp only [Bool.not_true] at hq1n
   cases vo with
   | none =>
    have HR:Hid (chgAt t.moms s k=false):=qhq (by unfold chgAt;rw [HSH.out,HVO.out])
    dsimp only [Option.getD_none,Option.isSome_none]
    go_wp2
    go_ret
    exact ⟨by rw [HR.out];rfl,HB8.out⟩
   | some now =>
    have HR:Hid (chgAt t.moms s k=chgP t.moms s.nm (shownS t.moms k).cur (ownF t.moms k).frm now k):=qhq (by
     have he:(ownF t.moms k).fn=s.fn:=by have:=HQ.out;simpa using this
     unfold chgAt
     rw [HSH.out,HVO.out]
     dsimp only
     rw [if_pos he])
    simp only [Option.getD_some,Option.isSome_some,Bool.not_false]
    go_upto_region 5 with fail
    go_upto_region 6 with fail
    clear o0 o2 s1 hq1 hq1n
    go_loopw [12] (fun i wr=>∃ x:Int,i=.int .i64 x ∧ -1 ≤ x ∧ x < k ∧ chgP t.moms s.nm (shownS t.moms k).cur (ownF t.moms k).frm now k=chgP t.moms s.nm (shownS t.moms k).cur (ownF t.moms k).frm now (x + 1).toNat ∧ Below w8.heap.size w8 wr) (fun i _=>(intOf i + 1).toNat)
    case atStart=>exact ⟨(k:Int) - 1,rfl,by omega,by omega,by congr 1;omega,qrq _ _⟩
    case round =>
     obtain ⟨x,rfl,hx0,hx1,hf,hb⟩:=hrel
     have HF:=qhq hf
     have HBR:=qhq hb
     obtain ⟨x1,s3,o1,o4⟩:=HY.out
     replace x1:=qcq hb x1
     replace s3:=qcq hb s3
     replace o1:=qcq hb o1
     replace o4:=qcq hb o4
     clear hf hb
     by_cases hx:0 ≤ x
     ·obtain ⟨i,rfl⟩:∃ i:Nat,x=(i:Int):=⟨x.toNat,by omega⟩
      have HE:Hid (((i:Int) + 1).toNat=i + 1):=qhq (by omega)
      by_cases hfr:(i:Int) < (ownF t.moms k).frm
      ·have HC:Hid (chgAt t.moms s k=true):=qhq (by rw [HR.out,HF.out,HE.out,chg_stop hfr])
       have hfr2:¬ (ownF t.moms k).frm ≤ (i:Int):=by omega
       go_wp2
       go_ret
       exact ⟨by rw [HC.out];rfl,qtq HB8.out HBR.out⟩
      ·have hfr2:(ownF t.moms k).frm ≤ (i:Int):=by omega
       have HFR:=qhq hfr
       have hil:i < t.moms.length:=by omega
       have hil2:(i:Int) < (t.moms.length:Int):=by omega
       obtain ⟨bo',oo',he,g0,g1,g2,g3,g4⟩:=own_cells (HOW.out.later (qtq HB8.out HBR.out)) hil
       obtain ⟨rfl,rfl⟩:bo=bo' ∧ oo=oo':=by simpa using he
       obtain ⟨em,hem⟩:∃ em,(shownS t.moms i).top.isEmpty=em:=⟨_,rfl⟩
       have HEI:=qhq hem
       rw [hem] at g0
       obtain ⟨q1,hq1⟩:∃ q1,((shownS t.moms i).cur != (shownS t.moms k).cur)=q1:=⟨_,rfl⟩
       obtain ⟨q2,hq2⟩:∃ q2,((ownF t.moms i).frm != (ownF t.moms k).frm)=q2:=⟨_,rfl⟩
       have HQ1:=qhq hq1
       have HQ2:=qhq hq2
       clear hfr hem g2 g3
       go_upto_region 8 with fail
       cases em with
       | true =>
        go_quiet (fail)
        generalize hW9:World.drewN wr _=w9
        have hbl:Below wr.heap.size wr w9:=by rw [← hW9];exact qnq (qrq _ _) _
        clear hW9
        replace HBR:=qhq (qtq HBR.out hbl)
        replace x1:=qcq hbl x1
        replace s3:=qcq hbl s3
        clear hbl
        have HSK:Hid (chgP t.moms s.nm (shownS t.moms k).cur (ownF t.moms k).frm now (i + 1)=chgP t.moms s.nm (shownS t.moms k).cur (ownF t.moms k).frm now i):=qhq (chg_skip0 HFR.out (shownP_own0 HEI.out))
        go_wp2
        go_roundw
        case rel=>exact ⟨(i:Int) - 1,by go_num,by omega,by omega,by rw [HF.out,HE.out,HSK.out];congr 1;omega,HBR.out⟩
        case measure=>simp [intOf]
       | false =>
        cases q1 with
        | true =>
         go_quiet (fail)
         generalize hW9:World.drewN wr _=w9
         have hbl:Below wr.heap.size wr w9:=by rw [← hW9];exact qnq (qrq _ _) _
         clear hW9
         replace HBR:=qhq (qtq HBR.out hbl)
         replace x1:=qcq hbl x1
         replace s3:=qcq hbl s3
         clear hbl
         have HSK:Hid (chgP t.moms s.nm (shownS t.moms k).cur (ownF t.moms k).frm now (i + 1)=chgP t.moms s.nm (shownS t.moms k).cur (ownF t.moms k).frm now i):=qhq (chg_skip1 HFR.out (shownP_own HEI.out) (fun hh=>by have:=HQ1.out;rw [hh.1] at this;simp at this))
         go_wp2
         go_roundw
         case rel=>exact ⟨(i:Int) - 1,by go_num,by omega,by omega,by rw [HF.out,HE.out,HSK.out];congr 1;omega,HBR.out⟩
         case measure=>simp [intOf]
        | false =>
         cases q2 with
         | true =>
          go_quiet (fail)
          generalize hW9:World.drewN wr _=w9
          have hbl:Below wr.heap.size wr w9:=by rw [← hW9];exact qnq (qrq _ _) _
          clear hW9
          replace HBR:=qhq (qtq HBR.out hbl)
          replace x1:=qcq hbl x1
          replace s3:=qcq hbl s3
          clear hbl
          have HSK:Hid (chgP t.moms s.nm (shownS t.moms k).cur (ownF t.moms k).frm now (i + 1)=chgP t.moms s.nm (shownS t.moms k).cur (ownF t.moms k).frm now i):=qhq (chg_skip1 HFR.out (shownP_own HEI.out) (fun hh=>by have:=HQ2.out;rw [hh.2] at this;simp at this))
          go_wp2
          go_roundw
          case rel=>exact ⟨(i:Int) - 1,by go_num,by omega,by omega,by rw [HF.out,HE.out,HSK.out];congr 1;omega,HBR.out⟩
          case measure=>simp [intOf]
         | false =>
          go_quiet (fail)
          generalize hW9:World.drewN wr _=w9
          have hbl:Below wr.heap.size wr w9:=by rw [← hW9];exact qnq (qrq _ _) _
          clear hW9
          replace HBR:=qhq (qtq HBR.out hbl)
          replace x1:=qcq hbl x1
          replace s3:=qcq hbl s3
          clear hbl
          have HSI:=qhq (shownP_own HEI.out)
          have HEQ:Hid ((shownS t.moms i).cur=(shownS t.moms k).cur ∧ (ownF t.moms i).frm=(ownF t.moms k).frm):=qhq ⟨by have:=HQ1.out;simpa using this,by have:=HQ2.out;simpa using this⟩
          obtain ⟨b2,oo2,vi,he2,-,-,-,-,-,f5,hvi⟩:=rd_moment HT.out.2 hil
          obtain ⟨rfl,rfl⟩:b=b2 ∧ o=oo2:=by simpa using he2
          obtain ⟨Ai,ci,rfl,hvl2,-⟩:=id hvi
          have HVI:=qhq hvi
          have e5:=qcq (qtq HB8.out HBR.out) f5
          clear f5 hvi hq1 hq2 g0 g1 g4 o1 o4
          go_upto_region 9 with fail
          go_region_held3 (fun w':World=>Below w9.heap.size w9 w' ∧ w'.cell? ⟨w.heap.size,1,none⟩=some (.slice (some ⟨b,o,none⟩) t.moms.length c2) ∧ w'.cell? ⟨b,o + i * 6 + 5,none⟩=some (.slice Ai (elt t.moms i).vars.length ci) ∧
            w'.cell? ⟨w.heap.size + 1,3,none⟩=some (.string s.nm) ∧ w'.cell? ⟨w.heap.size + 1,3,none⟩=some (.string s.nm))
           (first | exact ⟨bl_drew (qrq _ _),x1,e5,s3,s3⟩ | exact held4 ‹_› hb7)
           (first | (go_at_call 98;refine (l3value_calls _ (elt t.moms i).vars s.nm _ (HVI.out.later (qtq (qtq HB8.out HBR.out) (held4_bl ‹_›)))).mono ?_;rintro e w10 ⟨rfl,hb7⟩))
          have hbl:Below w9.heap.size w9 w10:=held4_bl ‹_›
          replace HBR:=qhq (qtq HBR.out hbl)
          clear hbl hb7 x1 s3 e5
          obtain ⟨vi,hvi⟩:∃ vi,valP (elt t.moms i).vars s.nm=vi:=⟨_,rfl⟩
          have HVV:=qhq hvi
          rw [hvi]
          clear hvi
          cases vi with
          | none =>
           have HSK:Hid (chgP t.moms s.nm (shownS t.moms k).cur (ownF t.moms k).frm now (i + 1)=chgP t.moms s.nm (shownS t.moms k).cur (ownF t.moms k).frm now i):=qhq (chg_none (by have:=HFR.out;omega) HVV.out)
           dsimp only [Option.getD_none,Option.isSome_none]
           go_wp2
           go_roundw
           case rel=>exact ⟨(i:Int) - 1,by go_num,by omega,by omega,by rw [HF.out,HE.out,HSK.out];congr 1;omega,HBR.out⟩
           case measure=>simp [intOf]
          | some u =>
           have HC:Hid (chgAt t.moms s k=!(u.toList == now.toList)):=qhq (by rw [HR.out,HF.out,HE.out,chg_hit (by have:=HFR.out;omega) HSI.out HEQ.out HVV.out])
           dsimp only [Option.getD_some,Option.isSome_some]
           obtain ⟨q3,hq3⟩:∃ q3,(u.toList == now.toList)=q3:=⟨_,rfl⟩
           rw [hq3] at HC
           cases q3
           all_goals
            go_wp2
            go_ret
            exact ⟨by rw [HC.out];rfl,qtq HB8.out HBR.out⟩
     ·have HC:Hid (chgAt t.moms s k=true):=qhq (by rw [HR.out,HF.out,show (x + 1).toNat=0 by omega];rfl)
      go_wp2
      go_ret
      exact ⟨by rw [HC.out];rfl,qtq HB8.out HBR.out⟩
end Go.Proofs.YtcklnjjbhngbcaaGreatDoor
