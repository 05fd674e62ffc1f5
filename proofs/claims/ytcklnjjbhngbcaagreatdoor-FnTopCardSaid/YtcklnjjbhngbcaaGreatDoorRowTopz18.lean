/- Lemmas and contracts of functions that the theorem of this claim leans on (texts I12, T19, B19, Q2). -/
import Derived.Test.YtcklnjjbhngbcaaGreatDoorRowTopz00
import Derived.Test.YtcklnjjbhngbcaaGreatDoorRowTopz17
import Derived.Test.YtcklnjjbhngbcaaGreatDoorRowUnz06
import Derived.Deep.QuietTactic
import Derived.BigQuiet
import Derived.Test.YtcklnjjbhngbcaaGreatDoorRowTopz08
namespace Go.Proofs.YtcklnjjbhngbcaaGreatDoor
open Go.RowKit Go.Proofs.Lens
def anyN (ms:List PMom) (ss:List PStop) (q i:Nat):Bool:=(ss.take q).any fun s=>holdsP ms s i
def anyC (ms:List PMom) (ss:List PStop) (i _j:Nat):Value:=.bool (anyP ms ss i)
def anM (ms:List PMom) (ss:List PStop) (q r i _j:Nat):Value:=.bool (if i < r then anyN ms ss (q + 1) i else anyN ms ss q i)
theorem anyN_succ (ms:List PMom) (ss:List PStop) {q:Nat} (hq:q < ss.length) (i:Nat):anyN ms ss (q + 1) i=(anyN ms ss q i || holdsP ms (elt ss q) i):=by
 unfold anyN
 rw [take_snoc hq,List.any_append]
 simp
theorem anM_set {w:World} {lo b cap q r N:Nat} {ms:List PMom} {ss:List PStop} {u:Bool} (h:OwR w lo 4 1 N (anM ms ss q r) (.slice (some ⟨b,0,none⟩) N cap)) (hr:r < N) (hu:anyN ms ss (q + 1) r=u) :
  OwR (w.setCell ⟨b,r,none⟩ (.bool u)) lo 4 1 N (anM ms ss q (r + 1)) (.slice (some ⟨b,0,none⟩) N cap):=by
 have:=h.set (C':=anM ms ss q (r + 1)) (i0:=r) (j0:=0) (u:=.bool u) hr (by omega) (fun i j hi hj hne=>by
  unfold anM
  have:i ≠ r:=by omega
  by_cases h1:i < r
  ·rw [if_pos h1,if_pos (by omega)]
  ·rw [if_neg h1,if_neg (by omega)]) (by unfold anM;rw [if_pos (by omega),hu])
 simpa using this
theorem all_take {ss:List PStop} {q:Nat} (hq:q < ss.length) (h:(ss.take q).all stopOk=true):(ss.take (q + 1)).all stopOk=stopOk (elt ss q):=by
 rw [take_snoc hq,List.all_append,h];simp
theorem all_of {ss:List PStop} {q:Nat} (hq:q < ss.length) (h:stopOk (elt ss q)=false):ss.all stopOk=false:=by
 cases ha:ss.all stopOk with
 | false=>rfl
 | true =>
  rw [List.all_eq_true] at ha
  have:=ha (elt ss q) (by rw [elt_eq hq];exact List.getElem_mem _)
  rw [h] at this;cases this
theorem stop_cells {w:World} {A:Option Addr} {ss:List PStop} (h:RowR w A ss.length 4 (stopC ss)) {q:Nat} (hq:q < ss.length) :
  ∃ b o,A=some ⟨b,o,none⟩ ∧ w.cell? ⟨b,o + q * 4,none⟩=some (.int .i64 (elt ss q).kind) ∧ w.cell? ⟨b,o + q * 4 + 1,none⟩=some (.int .i64 (elt ss q).fn) ∧
   w.cell? ⟨b,o + q * 4 + 2,none⟩=some (.int .i64 (elt ss q).line) ∧ w.cell? ⟨b,o + q * 4 + 3,none⟩=some (.string (elt ss q).nm):=by
 obtain ⟨b,o,rfl,hc⟩:=h (by omega)
 exact ⟨b,o,rfl,hc q hq 0 (by omega),hc q hq 1 (by omega),hc q hq 2 (by omega),hc q hq 3 (by omega)⟩
def MgPost (w:World) (t:PTr) (ss:List PStop) (k:Int) (e:Ending) (w':World):Prop :=
 ∃ v,e=.returned (.tuple #[v,.bool (stopsGood t ss k)]) ∧ (stopsGood t ss k=true → OwR w' w.heap.size 4 1 t.moms.length (anyC t.moms ss) v) ∧ Below w.heap.size w w'
set_option maxRecDepth 100000 in
set_option maxHeartbeats 4000000 in
theorem merged_calls (v1 v2 v3:Value) (t:PTr) (ss:List PStop) (k:Int) (w:World) (h:RdTr w v1 v2 t) (hsm:smTr t) (hss:RdStops w v3 ss) :
  Calls Tryz.prog 145 #[.agg #[v1,v2],v3,.int .i64 k] w (MgPost w t ss k):=by
 have HT:=qhq h
 have HS:=qhq hsm
 obtain ⟨⟨A1,c1,rfl,hn1,-⟩,⟨vv,⟨A2,c2,rfl,hn2,-⟩,-⟩⟩:=h
 obtain ⟨A3,c3,rfl,hn3,hrow⟩:=hss
 have HROW:=qhq hrow
 have hsz:=hsm.2.1
 clear hsm hrow
 cases hs:soundP t with
 | false =>
  have HR:Hid (stopsGood t ss k=false):=qhq (by unfold stopsGood;rw [hs];rfl)
  have HQ:=qhq hs
  clear hs
  go_enter Tryz.func145,Tryz.ntmps145
  go_wp2_with fail
  refine (sound_is _ _ t _ (HT.out.later (by repeat (with_reducible first | exact qrq _ _ | exact HL.out | refine qnq ?_ _ | refine bl_drew ?_ | refine qaq ?_ _ | refine bl_set ?_ (by dsimp only;omega) _))) HS.out HQ.out).mono ?_;rintro e w1 ⟨rfl,hb⟩
  have HB:=qhq (qtq (qaq (qrq _ w) _) hb)
  clear hb
  go_wp2
  go_ret2
  unfold MgPost
  rw [HR.out]
  exact ⟨_,rfl,(fun hh=>by cases hh),HB.out⟩
 | true =>
  have HQ:=qhq hs
  have hso:=sound_iff hs
  obtain ⟨nf0,nf1,nm1⟩:=sound_fns hso
  by_cases hl:ss.length ≤ 50
  ·cases hp:placeOk t k with
   | false =>
    have HR:Hid (stopsGood t ss k=false):=qhq (by unfold stopsGood;rw [hs,hp];rfl)
    have HP:Hid (inB k (-1) (t.moms.length:Int)=false):=qhq hp
    clear hs hso hp
    go_enter Tryz.func145,Tryz.ntmps145
    go_wp2_with fail
    refine (sound_is _ _ t _ (HT.out.later (by repeat (with_reducible first | exact qrq _ _ | exact HL.out | refine qnq ?_ _ | refine bl_drew ?_ | refine qaq ?_ _ | refine bl_set ?_ (by dsimp only;omega) _))) HS.out HQ.out).mono ?_;rintro e w1 ⟨rfl,hb⟩
    have HX:=qhq ((Blk.made w #[.slice A1 t.fns.length c1,.slice A2 t.moms.length c2] 26).later hb)
    have HB:=qhq (qtq (qaq (qrq _ w) _) hb)
    have x1:w1.cell? ⟨w.heap.size,1,none⟩=some (.slice A2 t.moms.length c2):=HX.out.cell (j:=1) (by simp)
    clear hb
    go_wp2_with fail
    refine (inside_is _ _ _ _ HP.out).mono ?_;rintro e w2 ⟨rfl,rfl⟩
    go_wp2
    go_ret2
    unfold MgPost
    rw [HR.out]
    exact ⟨_,rfl,(fun hh=>by cases hh),HB.out⟩
   | true =>
    have HG:Hid (stopsGood t ss k=ss.all stopOk):=qhq (by unfold stopsGood;rw [hs,hp];simp [hl])
    have HP:Hid (inB k (-1) (t.moms.length:Int)=true):=qhq hp
    obtain ⟨C,hC,hc,hmk⟩:=make_law (P:=Tryz.prog) 165 4 Tryz.underlying165 i_bool t.moms.length (by omega) (by omega)
    have HC:=qhq hC
    have Hc:=qhq hc
    clear hs hso hp hC hc
    go_enter Tryz.func145,Tryz.ntmps145
    go_wp2_with fail
    refine (sound_is _ _ t _ (HT.out.later (by repeat (with_reducible first | exact qrq _ _ | exact HL.out | refine qnq ?_ _ | refine bl_drew ?_ | refine qaq ?_ _ | refine bl_set ?_ (by dsimp only;omega) _))) HS.out HQ.out).mono ?_;rintro e w1 ⟨rfl,hb⟩
    have HX:=qhq ((Blk.made w #[.slice A1 t.fns.length c1,.slice A2 t.moms.length c2] 26).later hb)
    have HB:=qhq (qtq (qaq (qrq _ w) _) hb)
    have hw1:w.heap.size < w1.heap.size:=HX.out.lt
    have x1:w1.cell? ⟨w.heap.size,1,none⟩=some (.slice A2 t.moms.length c2):=HX.out.cell (j:=1) (by simp)
    clear hb
    go_wp2_with fail
    refine (inside_is _ _ _ _ HP.out).mono ?_;rintro e w2 ⟨rfl,rfl⟩
    go_wp2_with fail
    clear x1
    go_loopw [35] (fun i wr=>∃ q:Nat,q ≤ ss.length ∧ i=.int .i64 q ∧ (ss.take q).all stopOk=true ∧ OwR wr w1.heap.size 4 1 t.moms.length (anM t.moms ss q 0) (.slice (some ⟨w1.heap.size,0,none⟩) t.moms.length t.moms.length) ∧ Below w.heap.size w wr ∧
     Blk wr w.heap.size 26 2 (fun j=>#[Value.slice A1 t.fns.length c1,.slice A2 t.moms.length c2].getD j undef)) (fun i _=>ss.length - (intOf i).toNat)
    case atStart =>
     exact ⟨0,Nat.zero_le _,rfl,by simp,OwR.made HC.out Hc.out (by rfl) (by simp only [maxLen];omega) _ (fun i hi j hj=>by
      obtain rfl:j=0:=by omega
      simp only [anM,Nat.not_lt_zero,if_false,anyN,List.take_zero,List.any_nil]
      rfl),qaq HB.out _,HX.out.alloc _⟩
    case round =>
     obtain ⟨q,hq,rfl,hall,hO,hB,hX⟩:=hrel
     clear HB HX
     have HO:=qhq hO
     have HB:=qhq hB
     have HX:=qhq hX
     have HALL:=qhq hall
     clear hO hB hX hall
     by_cases hlt:q < ss.length
     ·obtain ⟨bs,os,rfl,c0,c1',c2',c3'⟩:=stop_cells (HROW.out.later HB.out) hlt
      go_upto_region 7 with fail
      have HSB:Hid (Blk (wr.alloc _) wr.heap.size 45 4 _):=qhq (Blk.made wr #[.int .i64 (elt ss q).kind,.int .i64 (elt ss q).fn,.int .i64 (elt ss q).line,.string (elt ss q).nm] 45)
      generalize hW2:World.alloc wr _=W3 at HSB ⊢
      have hbl:Below wr.heap.size wr W3:=by rw [← hW2];exact qaq (qrq _ _) _
      clear hW2 c0 c1' c2' c3'
      replace HB:=qhq (qtq HB.out hbl);replace HX:=qhq (HX.out.later hbl);replace HO:=qhq (HO.out.later hbl);clear hbl
      have y0:W3.cell? ⟨wr.heap.size,0,none⟩=some (.int .i64 (elt ss q).kind):=HSB.out.cell (j:=0) (by simp)
      have y1:W3.cell? ⟨wr.heap.size,1,none⟩=some (.int .i64 (elt ss q).fn):=HSB.out.cell (j:=1) (by simp)
      have y2:W3.cell? ⟨wr.heap.size,2,none⟩=some (.int .i64 (elt ss q).line):=HSB.out.cell (j:=2) (by simp)
      have y3:W3.cell? ⟨wr.heap.size,3,none⟩=some (.string (elt ss q).nm):=HSB.out.cell (j:=3) (by simp)
      go_wp2_with fail
      clear y0 y1 y2 y3
      cases hst:stopOk (elt ss q) with
      | false =>
       have HST:=qhq hst
       have HR:Hid (stopsGood t ss k=false):=qhq (by rw [HG.out];exact all_of hlt hst)
       clear hst
       refine (impl_StopOk_un _ _ HST.out).mono ?_;rintro e w4 ⟨rfl,hb⟩
       replace HB:=qhq (qtq HB.out hb);clear hb
       go_wp2
       go_ret2
       unfold MgPost
       rw [HR.out]
       exact ⟨_,rfl,(fun hh=>by cases hh),HB.out⟩
      | true =>
       have HST:=qhq hst
       clear hst
       refine (impl_StopOk_un _ _ HST.out).mono ?_;rintro e w4 ⟨rfl,hb⟩
       replace HB:=qhq (qtq HB.out hb);replace HX:=qhq (HX.out.later hb);replace HO:=qhq (HO.out.later hb);replace HSB:=qhq (HSB.out.later hb);clear hb
       have x0:w4.cell? ⟨w.heap.size,0,none⟩=some (.slice A1 t.fns.length c1):=HX.out.cell (j:=0) (by simp)
       have x1:w4.cell? ⟨w.heap.size,1,none⟩=some (.slice A2 t.moms.length c2):=HX.out.cell (j:=1) (by simp)
       have y0:w4.cell? ⟨wr.heap.size,0,none⟩=some (.int .i64 (elt ss q).kind):=HSB.out.cell (j:=0) (by simp)
       have y1:w4.cell? ⟨wr.heap.size,1,none⟩=some (.int .i64 (elt ss q).fn):=HSB.out.cell (j:=1) (by simp)
       have y2:w4.cell? ⟨wr.heap.size,2,none⟩=some (.int .i64 (elt ss q).line):=HSB.out.cell (j:=2) (by simp)
       have y3:w4.cell? ⟨wr.heap.size,3,none⟩=some (.string (elt ss q).nm):=HSB.out.cell (j:=3) (by simp)
       go_wp2_with fail
       refine (holds_un _ _ t (elt ss q) _ (HT.out.later HB.out) HS.out HQ.out HST.out).mono ?_;rintro e w5 ⟨v,rfl,hO,hb⟩
       obtain ⟨A0,k0,rfl,-⟩:=hO.cap
       have hlt4:w1.heap.size < w4.heap.size:=HO.out.blt.2
       have HH:=qhq hO
       clear x0 x1 y0 y1 y2 y3 hO HSB
       replace HB:=qhq (qtq HB.out hb);replace HX:=qhq (HX.out.later hb);replace HO:=qhq (HO.out.later hb);clear hb
       go_wp2_with fail
       go_loopw [46] (fun i wx=>∃ r:Nat,r ≤ t.moms.length ∧ i=.int .i64 r ∧ OwR wx w1.heap.size 4 1 t.moms.length (anM t.moms ss q r) (.slice (some ⟨w1.heap.size,0,none⟩) t.moms.length t.moms.length) ∧ OwR wx w4.heap.size 4 1 t.moms.length (hdC t.moms (elt ss q)) (.slice A0 t.moms.length k0) ∧ Below w.heap.size w wx ∧
        Blk wx w.heap.size 26 2 (fun j=>#[Value.slice A1 t.fns.length c1,.slice A2 t.moms.length c2].getD j undef)) (fun i _=>t.moms.length - (intOf i).toNat)
       case atStart=>exact ⟨0,Nat.zero_le _,rfl,HO.out,HH.out,HB.out,HX.out⟩
       case round =>
        obtain ⟨r,hr,rfl,hO,hH,hB,hX⟩:=hrel
        clear HO HH HB HX
        have HO:=qhq hO
        have HB:=qhq hB
        have HX:=qhq hX
        by_cases hrl:r < t.moms.length
        ·obtain ⟨A7,c7,e7,hop⟩:=hH.open'
         obtain ⟨b7,e8,hb7,-,hc,-⟩:=hop (by omega)
         cases e7
         subst e8
         have z:wr.cell? ⟨b7,r,none⟩=some (.bool (holdsP t.moms (elt ss q) r)):=by
          have:=hc r hrl 0 (by omega)
          simpa [hdC] using this
         have z1:wr.cell? ⟨w1.heap.size,r,none⟩=some (.bool (anyN t.moms ss q r)):=by
          have:=HO.out.cells hrl (j:=0) (by omega)
          simpa [anM] using this
         have z2:=HO.out.free r
         have HA:=qhq (anyN_succ t.moms ss hlt r)
         have HH:=qhq hH
         clear hO hH hB hX hop hc
         generalize hdh:holdsP t.moms (elt ss q) r=q1 at z HA
         generalize hda:anyN t.moms ss q r=q2 at z1 HA
         clear hdh hda
         cases q2 <;> cases q1
         all_goals
          go_wp2
          go_roundw
          case rel =>
           refine ⟨r + 1,by omega,by go_num,anM_set HO.out hrl HA.out,?_,bl_set HB.out (by dsimp only;omega) _,HX.out.far (by dsimp only;omega) _⟩
           exact HH.out.far (p:=⟨w1.heap.size,r,none⟩) (fun hh=>by have:=Option.some.inj hh;dsimp only at this;omega) _
          case measure=>simp [intOf];omega
        ·obtain rfl:r=t.moms.length:=by omega
         clear hO hH hB hX
         go_wp2
         go_roundw
         case rel =>
          refine ⟨q + 1,by omega,by go_num,by rw [all_take hlt HALL.out];exact HST.out,?_,HB.out,HX.out⟩
          exact HO.out.congr fun i hi j hj=>by simp [anM,hi]
         case measure=>simp [intOf];omega
     ·obtain rfl:q=ss.length:=by omega
      have HR:Hid (stopsGood t ss k=true):=qhq (by rw [HG.out];have:=HALL.out;rwa [List.take_length] at this)
      go_wp2
      go_ret2
      unfold MgPost
      rw [HR.out]
      refine ⟨_,rfl,fun _=>?_,HB.out⟩
      exact (HO.out.lower (Nat.le_of_lt hw1)).congr fun i hi j hj=>by simp [anM,anyC,anyN,anyP]
  ·have HR:Hid (stopsGood t ss k=false):=qhq (by unfold stopsGood;simp [hl])
   clear hs hso
   go_enter Tryz.func145,Tryz.ntmps145
   go_wp2_with fail
   refine (sound_is _ _ t _ (HT.out.later (by repeat (with_reducible first | exact qrq _ _ | exact HL.out | refine qnq ?_ _ | refine bl_drew ?_ | refine qaq ?_ _ | refine bl_set ?_ (by dsimp only;omega) _))) HS.out HQ.out).mono ?_;rintro e w1 ⟨rfl,hb⟩
   have HB:=qhq (qtq (qaq (qrq _ w) _) hb)
   clear hb
   have hl':¬ ((ss.length:Int) ≤ 50):=by omega
   go_wp2
   go_ret2
   unfold MgPost
   rw [HR.out]
   exact ⟨_,rfl,(fun hh=>by cases hh),HB.out⟩
theorem anyP_hd {ms:List PMom} {ss:List PStop} {n:Nat} {w:World} {lo:Nat} {v:Value} (h:OwR w lo 4 1 n (anyC ms ss) v):∃ A c,v=.slice A n c ∧ n ≤ c ∧ c ≤ 9223372036854775807 ∧ ∀ i,i < n → ∃ b,A=some ⟨b,0,none⟩ ∧ w.cell? ⟨b,i,none⟩=some (.bool (anyP ms ss i)):=by
 obtain ⟨A0,k0,rfl,h1,h2⟩:=h.cap
 refine ⟨A0,k0,rfl,h1,h2,fun i hi=>?_⟩
 obtain ⟨A7,c7,e7,hop⟩:=h.open'
 obtain ⟨b7,e8,-,-,hc,-⟩:=hop (by omega)
 cases e7
 subst e8
 have:=hc i hi 0 (by omega)
 exact ⟨b7,rfl,by simpa [anyC] using this⟩
set_option maxRecDepth 100000 in
set_option maxHeartbeats 2000000 in
theorem impl_Next_calls (v1 v2 v3:Value) (t:PTr) (ss:List PStop) (k:Int) (w:World) (h:RdTr w v1 v2 t) (hsm:smTr t) (hss:RdStops w v3 ss) :
  Calls Tryz.prog 104 #[.agg #[v1,v2],v3,.int .i64 k] w fun e w'=>e=.returned (.int .i64 (nextP t ss k)) ∧ Below w.heap.size w w':=by
 have HT:=qhq h
 have HS:=qhq hsm
 have HSS:=qhq hss
 have hsz:=hsm.2.1
 clear hsm hss
 go_enter Tryz.func104,Tryz.ntmps104
 go_wp2_with fail
 refine (merged_calls _ _ _ t ss k _ (HT.out.later (by repeat (with_reducible first | exact qrq _ _ | exact HL.out | refine qnq ?_ _ | refine bl_drew ?_ | refine qaq ?_ _ | refine bl_set ?_ (by dsimp only;omega) _))) HS.out (HSS.out.later (by repeat (with_reducible first | exact qrq _ _ | exact HL.out | refine qnq ?_ _ | refine bl_drew ?_ | refine qaq ?_ _ | refine bl_set ?_ (by dsimp only;omega) _)))).mono ?_;rintro e w1 ⟨v,rfl,hO,hb⟩
 have HB:=qhq (qtq (qaq (qrq _ w) _) hb)
 clear hb
 cases hg:stopsGood t ss k with
 | false =>
  have HR:Hid (nextP t ss k=-2):=qhq (by unfold nextP;rw [hg];rfl)
  clear hO hg
  go_wp2
  go_ret
  exact ⟨by rw [HR.out];rfl,HB.out⟩
 | true =>
  obtain ⟨A0,k0,rfl,hk1,hk2,hc⟩:=anyP_hd (hO hg)
  have HC:=qhq hc
  have hp:placeOk t k=true:=by unfold stopsGood at hg;simp only [Bool.and_eq_true] at hg;exact hg.1.1.2
  obtain ⟨p0,p1⟩:=inB_true.1 hp
  have HR:Hid (nextP t ss k=(firstB (anyP t.moms ss) t.moms.length (t.moms.length - (k + 1).toNat) (k + 1).toNat:Nat)):=qhq (by unfold nextP;rw [if_pos hg])
  obtain ⟨m,hm⟩:∃ m:Nat,k + 1=(m:Int):=⟨(k + 1).toNat,by omega⟩
  rw [hm] at HR
  rw [Int.toNat_natCast] at HR
  clear hO hg hc hp
  go_upto_region 4 with fail
  go_upto_region 5 with fail
  go_loopw [9] (fun i wr=>∃ q:Nat,i=.int .i64 q ∧ m ≤ q ∧ firstB (anyP t.moms ss) t.moms.length (t.moms.length - q) q=firstB (anyP t.moms ss) t.moms.length (t.moms.length - m) m ∧ wr=w1) (fun i _=>t.moms.length - (intOf i).toNat)
  case atStart=>exact ⟨m,rfl,Nat.le_refl _,rfl,rfl⟩
  case round =>
   obtain ⟨q,rfl,hmq,hf,rfl⟩:=hrel
   have HF:=qhq hf
   clear hf
   by_cases hlt:q < t.moms.length
   ·obtain ⟨b,rfl,z⟩:=HC.out q hlt
    cases ha:anyP t.moms ss q with
    | true =>
     have HA:=qhq ha
     rw [ha] at z
     clear ha
     go_wp2
     go_ret
     exact ⟨by rw [HR.out,← HF.out,firstB_hit hlt HA.out];rfl,HB.out⟩
    | false =>
     have HA:=qhq ha
     rw [ha] at z
     clear ha
     go_wp2
     go_roundw
     case rel=>exact ⟨q + 1,by go_num,by omega,by rw [← HF.out,firstB_skip hlt HA.out],trivial⟩
     case measure=>simp [intOf];omega
   ·have hge:t.moms.length ≤ q:=by omega
    go_wp2
    go_ret
    exact ⟨by rw [HR.out,← HF.out,firstB_end hge];rfl,HB.out⟩
set_option maxRecDepth 100000 in
set_option maxHeartbeats 2000000 in
theorem impl_Last_calls (v1 v2 v3:Value) (t:PTr) (ss:List PStop) (k:Int) (w:World) (h:RdTr w v1 v2 t) (hsm:smTr t) (hss:RdStops w v3 ss) :
  Calls Tryz.prog 106 #[.agg #[v1,v2],v3,.int .i64 k] w fun e w'=>e=.returned (.int .i64 (lastP t ss k)) ∧ Below w.heap.size w w':=by
 have HT:=qhq h
 have HS:=qhq hsm
 have HSS:=qhq hss
 have hsz:=hsm.2.1
 clear hsm hss
 go_enter Tryz.func106,Tryz.ntmps106
 go_wp2_with fail
 refine (merged_calls _ _ _ t ss k _ (HT.out.later (by repeat (with_reducible first | exact qrq _ _ | exact HL.out | refine qnq ?_ _ | refine bl_drew ?_ | refine qaq ?_ _ | refine bl_set ?_ (by dsimp only;omega) _))) HS.out (HSS.out.later (by repeat (with_reducible first | exact qrq _ _ | exact HL.out | refine qnq ?_ _ | refine bl_drew ?_ | refine qaq ?_ _ | refine bl_set ?_ (by dsimp only;omega) _)))).mono ?_;rintro e w1 ⟨v,rfl,hO,hb⟩
 have HB:=qhq (qtq (qaq (qrq _ w) _) hb)
 clear hb
 cases hg:stopsGood t ss k with
 | false =>
  have HR:Hid (lastP t ss k=-2):=qhq (by unfold lastP;rw [hg];rfl)
  clear hO hg
  go_wp2
  go_ret
  exact ⟨by rw [HR.out];rfl,HB.out⟩
 | true =>
  obtain ⟨A0,k0,rfl,hk1,hk2,hc⟩:=anyP_hd (hO hg)
  have HC:=qhq hc
  have hp:placeOk t k=true:=by unfold stopsGood at hg;simp only [Bool.and_eq_true] at hg;exact hg.1.1.2
  obtain ⟨p0,p1⟩:=inB_true.1 hp
  have HR:Hid (lastP t ss k=lastB (anyP t.moms ss) k.toNat):=qhq (by unfold lastP;rw [if_pos hg])
  clear hO hg hc hp
  go_upto_region 4 with fail
  go_upto_region 5 with fail
  go_loopw [9] (fun i wr=>∃ x:Int,i=.int .i64 x ∧ -2 ≤ x ∧ x < t.moms.length ∧ lastB (anyP t.moms ss) k.toNat=lastB (anyP t.moms ss) (x + 1).toNat ∧ wr=w1) (fun i _=>(intOf i + 2).toNat)
  case atStart=>exact ⟨k - 1,rfl,by omega,by omega,by congr 1;omega,rfl⟩
  case round =>
   obtain ⟨x,rfl,x0,x1,hf,rfl⟩:=hrel
   have HF:=qhq hf
   clear hf
   by_cases hx:0 ≤ x
   ·obtain ⟨q,rfl⟩:∃ q:Nat,x=(q:Int):=⟨x.toNat,by omega⟩
    have hlt:q < t.moms.length:=by omega
    have HE:Hid (((q:Int) + 1).toNat=q + 1):=qhq (by omega)
    obtain ⟨b,rfl,z⟩:=HC.out q hlt
    cases ha:anyP t.moms ss q with
    | true =>
     have HA:=qhq ha
     rw [ha] at z
     clear ha
     go_wp2
     go_ret
     exact ⟨by rw [HR.out,HF.out,HE.out,lastB,if_pos HA.out];rfl,HB.out⟩
    | false =>
     have HA:=qhq ha
     rw [ha] at z
     clear ha
     go_wp2
     go_roundw
     case rel=>exact ⟨(q:Int) - 1,by go_num,by omega,by omega,by rw [HF.out,HE.out,lastB,if_neg (by rw [HA.out];simp)];congr 1;omega,trivial⟩
     case measure=>simp [intOf];omega
   ·have HE:Hid ((x + 1).toNat=0):=qhq (by omega)
    go_wp2
    go_ret
    exact ⟨by rw [HR.out,HF.out,HE.out];rfl,HB.out⟩
theorem i_bools:(Tryz.prog.info? 165).map (fun i=>(i.zero,i.size,i.bytes))=some (some (.slice none 0 0),1,24):=by kernel_rfl
def AllH (w:World) (lo n:Nat) (ms:List PMom) (ss:List PStop) (q:Nat) (v:Value):Prop :=
 ∃ f:Nat → Value,OwR w lo 165 1 q (fun i _=>f i) v ∧ ∀ i,i < q → OwR w lo 4 1 n (hdC ms (elt ss i)) (f i)
theorem AllH.later {w w':World} {lo n:Nat} {ms:List PMom} {ss:List PStop} {q:Nat} {v:Value} (h:AllH w lo n ms ss q v) (hb:Below w.heap.size w w'):AllH w' lo n ms ss q v:=by
 obtain ⟨f,h1,h2⟩:=h
 exact ⟨f,h1.later hb,fun i hi=>(h2 i hi).later hb⟩
theorem allH_cells {w:World} {lo n:Nat} {ms:List PMom} {ss:List PStop} {q:Nat} {v:Value} (h:AllH w lo n ms ss q v):∃ A c,v=.slice A q c ∧ q ≤ 9223372036854775807 ∧ ∀ i,i < q → ∃ b,A=some ⟨b,0,none⟩ ∧ ∃ A' c',w.cell? ⟨b,i,none⟩=some (.slice A' n c') ∧ ∀ k,k < n → ∃ b',A'=some ⟨b',0,none⟩ ∧ w.cell? ⟨b',k,none⟩=some (.bool (holdsP ms (elt ss i) k)):=by
 obtain ⟨f,hO,hF⟩:=h
 obtain ⟨A0,c0,rfl,h1,h2⟩:=hO.cap
 refine ⟨A0,c0,rfl,by omega,fun i hi=>?_⟩
 obtain ⟨A7,c7,e7,hop⟩:=hO.open'
 obtain ⟨b7,e8,-,-,hc,-⟩:=hop (by omega)
 cases e7
 subst e8
 refine ⟨b7,rfl,?_⟩
 have hz:=hc i hi 0 (by omega)
 obtain ⟨A9,c9,e9,hop2⟩:=(hF i hi).open'
 refine ⟨A9,c9,?_,fun k hk=>?_⟩
 ·rw [← e9];simpa using hz
 ·obtain ⟨b9,e10,-,-,hc2,-⟩:=hop2 (by omega)
  have:=hc2 k hk 0 (by omega)
  exact ⟨b9,e10,by simpa [hdC] using this⟩
set_option maxRecDepth 100000 in
set_option maxHeartbeats 2000000 in
theorem l3any_calls (lo n:Nat) (ms:List PMom) (ss:List PStop) (v:Value) (k:Nat) (w:World) (h:AllH w lo n ms ss ss.length v) (hk:k < n) :
  Calls Tryz.prog 142 #[v,.int .i64 k] w fun e w'=>e=.returned (.bool (anyP ms ss k)) ∧ w=w':=by
 obtain ⟨A,c,rfl,hl,hc⟩:=allH_cells h
 have HC:=qhq hc
 have HA:Hid (anyP ms ss k=anyN ms ss ss.length k):=qhq (by unfold anyN anyP;rw [List.take_length])
 have hk2:(k:Int) < (n:Int):=by omega
 clear h hc
 go_enter Tryz.func142,Tryz.ntmps142
 go_wp2_with fail
 go_loopw [9] (fun i wr=>∃ q:Nat,q ≤ ss.length ∧ i=.int .i64 q ∧ anyN ms ss q k=false ∧ wr=w) (fun i _=>ss.length - (intOf i).toNat)
 case atStart=>exact ⟨0,Nat.zero_le _,rfl,by simp [anyN],rfl⟩
 case round =>
  obtain ⟨q,hq,rfl,hno,rfl⟩:=hrel
  have HNO:=qhq hno
  clear hno
  by_cases hlt:q < ss.length
  ·obtain ⟨b,rfl,A',c',x0,hx⟩:=HC.out q hlt
   obtain ⟨b',rfl,x1⟩:=hx k hk
   have HS:=qhq (anyN_succ ms ss hlt k)
   clear hx
   obtain ⟨q1,hq1⟩:∃ q1,holdsP ms (elt ss q) k=q1:=⟨_,rfl⟩
   have HQ:=qhq hq1
   rw [hq1] at x1
   clear hq1
   cases q1 with
   | true =>
    have HT:Hid (anyP ms ss k=true):=qhq (by
     unfold anyP
     rw [List.any_eq_true]
     exact ⟨elt ss q,by rw [elt_eq hlt];exact List.getElem_mem _,HQ.out⟩)
    go_wp2
    go_ret
    exact ⟨by rw [HT.out];rfl,rfl⟩
   | false =>
    go_wp2
    go_roundw
    case rel=>exact ⟨q + 1,by omega,by go_num,by rw [HS.out,HNO.out,HQ.out];rfl,trivial⟩
    case measure=>simp [intOf];omega
  ·obtain rfl:q=ss.length:=by omega
   go_wp2
   go_ret
   exact ⟨by rw [HA.out,HNO.out];rfl,rfl⟩
set_option maxRecDepth 100000 in
set_option maxHeartbeats 2000000 in
theorem l3next_calls (lo n m:Nat) (ms:List PMom) (ss:List PStop) (v:Value) (k:Int) (w:World) (h:AllH w lo n ms ss ss.length v) (hn:n ≤ 1048576) (hk0:-1 ≤ k) (hk1:k ≤ n) (hm:k + 1=(m:Int)) :
  Calls Tryz.prog 91 #[v,.int .i64 n,.int .i64 k] w fun e w'=>e=.returned (.int .i64 (firstB (anyP ms ss) n (n - m) m:Nat)) ∧ w=w':=by
 have HH:=qhq h
 clear h
 go_enter Tryz.func91,Tryz.ntmps91
 go_upto_region 2 with fail
 go_loopw [7] (fun i wr=>∃ q:Nat,i=.int .i64 q ∧ m ≤ q ∧ firstB (anyP ms ss) n (n - q) q=firstB (anyP ms ss) n (n - m) m ∧ wr=w) (fun i _=>n - (intOf i).toNat)
 case atStart=>exact ⟨m,rfl,Nat.le_refl _,rfl,rfl⟩
 case round =>
  obtain ⟨q,rfl,hmq,hf,rfl⟩:=hrel
  have HF:=qhq hf
  clear hf
  by_cases hlt:q < n
  ·have hlt2:(q:Int) < (n:Int):=by omega
   go_wp2_with fail
   refine (l3any_calls lo n ms ss v q _ HH.out hlt).mono ?_;rintro e w1 ⟨rfl,rfl⟩
   obtain ⟨q1,hq1⟩:∃ q1,anyP ms ss q=q1:=⟨_,rfl⟩
   have HQ:=qhq hq1
   rw [hq1]
   clear hq1
   cases q1 with
   | true =>
    go_wp2
    go_ret
    exact ⟨by rw [← HF.out,firstB_hit hlt HQ.out];rfl,rfl⟩
   | false =>
    go_wp2
    go_roundw
    case rel=>exact ⟨q + 1,by go_num,by omega,by rw [← HF.out,firstB_skip hlt HQ.out],trivial⟩
    case measure=>simp [intOf];omega
  ·have hge:n ≤ q:=by omega
   go_wp2
   go_ret
   exact ⟨by rw [← HF.out,firstB_end hge];rfl,rfl⟩
set_option maxRecDepth 100000 in
set_option maxHeartbeats 2000000 in
theorem l3last_calls (lo n:Nat) (ms:List PMom) (ss:List PStop) (v:Value) (k:Int) (w:World) (h:AllH w lo n ms ss ss.length v) (hn:n ≤ 1048576) (hk0:-1 ≤ k) (hk1:k ≤ n) :
  Calls Tryz.prog 92 #[v,.int .i64 k] w fun e w'=>e=.returned (.int .i64 (lastB (anyP ms ss) k.toNat)) ∧ w=w':=by
 have HH:=qhq h
 clear h
 go_enter Tryz.func92,Tryz.ntmps92
 go_upto_region 2 with fail
 go_loopw [5] (fun i wr=>∃ x:Int,i=.int .i64 x ∧ -2 ≤ x ∧ x < n ∧ lastB (anyP ms ss) k.toNat=lastB (anyP ms ss) (x + 1).toNat ∧ wr=w) (fun i _=>(intOf i + 2).toNat)
 case atStart=>exact ⟨k - 1,rfl,by omega,by omega,by congr 1;omega,rfl⟩
 case round =>
  obtain ⟨x,rfl,x0,x1,hf,rfl⟩:=hrel
  have HF:=qhq hf
  clear hf
  by_cases hx:0 ≤ x
  ·obtain ⟨q,rfl⟩:∃ q:Nat,x=(q:Int):=⟨x.toNat,by omega⟩
   have hlt:q < n:=by omega
   have HE:Hid (((q:Int) + 1).toNat=q + 1):=qhq (by omega)
   go_wp2_with fail
   refine (l3any_calls lo n ms ss v q _ HH.out hlt).mono ?_;rintro e w1 ⟨rfl,rfl⟩
   obtain ⟨q1,hq1⟩:∃ q1,anyP ms ss q=q1:=⟨_,rfl⟩
   have HQ:=qhq hq1
   rw [hq1]
   clear hq1
   cases q1 with
   | true =>
    go_wp2
    go_ret
    exact ⟨by rw [HF.out,HE.out,lastB,if_pos HQ.out];rfl,rfl⟩
   | false =>
    go_wp2
    go_roundw
    case rel=>exact ⟨(q:Int) - 1,by go_num,by omega,by omega,by rw [HF.out,HE.out,lastB,if_neg (by rw [HQ.out];simp)];congr 1;omega,trivial⟩
    case measure=>simp [intOf];omega
  ·have HE:Hid ((x + 1).toNat=0):=qhq (by omega)
   go_wp2
   go_ret
   exact ⟨by rw [HF.out,HE.out];rfl,rfl⟩
end Go.Proofs.YtcklnjjbhngbcaaGreatDoor

namespace Go.Proofs.Lens
open Go.Proofs.YtcklnjjbhngbcaaGreatDoor
open Go Go.RowKit Lib
def chainOk (md:Region.Mode) (ops:Array Oper) (z:Nat):Nat → List Nat → Bool
 | i,[]=>Region.waitsFor md ops z i
 | i,c :: cs=>Region.waitsFor md ops c i && chainOk md ops z c cs
section
variable {P : Program} {ops : Array Oper} {md : Region.Mode} {Q : Exit → Act → World → Prop} {S : World → Prop} {z : Nat}
theorem not_ready {listed:Array Bool} {i j:Nat} (hw:Region.waitsFor md ops j i=true) (hi:listed.getD i true=false):j ∉ Region.ready md ops listed:=by
 intro hj
 obtain ⟨hjun,oj,hoj,hall⟩:=mem_ready.1 hj
 obtain ⟨oz,hoz,e,he,hb,hon⟩:=Region.waitsFor_spec hw
 rw [hoj] at hoz
 cases hoz
 have h2:=hall e he hb
 rw [hon,getD_both hi] at h2
 cases h2
theorem chain_not {listed:Array Bool}:∀ (C:List Nat) (i:Nat),chainOk md ops z i C=true → listed.getD i true=false → (∀ c ∈ C,listed.getD c true=false) → z ∉ Region.ready md ops listed ∧ ∀ c ∈ C,c ∉ Region.ready md ops listed
 | [],i,h,hi,_=>⟨not_ready h hi,fun c hc=>absurd hc (by simp)⟩
 | c :: cs,i,h,hi,hC=>by
  unfold chainOk at h
  rw [Bool.and_eq_true] at h
  have hc:=hC c (by simp)
  obtain ⟨h1,h2⟩:=chain_not cs c h.2 hc (fun d hd=>hC d (by simp [hd]))
  refine ⟨h1,fun d hd=>?_⟩
  rcases List.mem_cons.1 hd with rfl | hd
  ·exact not_ready h.1 hi
  ·exact h2 d hd
theorem wpAnyF_firstC {i:Nat} {oi:Oper} {v:Value} (C:List Nat) (hi:ops[i]?=some oi) (hsel:∀ (j:Nat) (o:Oper) cs b,ops[j]?=some o → o.op ≠ .select cs b)
  (hQ:∀ c a w,Q (.panic c) (a.put oi.dst v) w → Q (.panic c) a w) (hz:chainOk md ops z i C=true) :
  ∀ (fuel:Nat) (listed:Array Bool) (a:Act) (w:World),(∀ c ∈ C,listed.getD c true=false) →
   (∀ j oj,ops[j]?=some oj → j ≠ i → listed.getD j true=false → (∀ e ∈ oj.after,Region.binds md e=true → e.on ≠ i) → oi.apart ops oj=true) →
   i ∈ Region.ready md ops listed → YieldsIf P ops S oi v a → S w →
   wpAnyF P md ops Q S z fuel (listed.setIfInBounds i true) (a.put oi.dst v) w → wpAnyF P md ops Q S z (fuel + 1) listed a w:=by
 intro fuel
 induction fuel with
 | zero =>
  intro listed a w _ _ hr hy hS H
  refine ⟨fun h=>(by rw [h] at hr;cases hr),fun j hj=>?_⟩
  by_cases hji:j=i
  ·subst hji;exact hy.wpOp hi hS ⟨fun _=>hS,H⟩
  ·have:=ready_mono hj hji
   rw [H.1] at this
   cases this
 | succ fuel ih =>
  intro listed a w hCl hfree hr hy hS H
  refine ⟨fun h=>(by rw [h] at hr;cases hr),fun j hj=>?_⟩
  by_cases hji:j=i
  ·subst hji;exact hy.wpOp hi hS ⟨fun _=>hS,H⟩
  ·have hun:=(mem_ready.1 hr).1
   have h1:=H.2 j (ready_mono hj hji)
   obtain ⟨hjun,oj,hoj,hall⟩:=mem_ready.1 hj
   obtain ⟨hnz,hnC⟩:=chain_not C i hz hun hCl
   have hjz:j ≠ z:=fun hh=>hnz (hh ▸ hj)
   have hjC:∀ c ∈ C,j ≠ c:=fun c hc hh=>hnC c hc (hh ▸ hj)
   have hnot:∀ e ∈ oj.after,Region.binds md e=true → e.on ≠ i:=fun e he hb heq=>by
    have h1:=hall e he hb
    rw [heq,getD_both hun] at h1
    cases h1
   have h2:=wpOp_putIf hoj (hfree j oj hoj hji hjun hnot) (fun cs b=>hsel i oi cs b hi) (fun cs b=>hsel j oj cs b hoj) hQ hy h1
   have hfree':∀ k ok,ops[k]?=some ok → k ≠ i → (listed.setIfInBounds j true).getD k true=false →
     (∀ e ∈ ok.after,Region.binds md e=true → e.on ≠ i) → oi.apart ops ok=true:=fun k ok hk hki hun hno=>by
    refine hfree k ok hk hki ?_ hno
    by_cases hjk:j=k
    ·subst hjk;exact hjun
    ·rw [getD_set_ne true hjk] at hun;exact hun
   have hCl':∀ c ∈ C,(listed.setIfInBounds j true).getD c true=false:=fun c hc=>by rw [getD_set_ne true (hjC c hc)];exact hCl c hc
   refine wpOp_mono (fun a' w' h3=>⟨h3.2.1,ih (listed.setIfInBounds j true) a' w' hCl' hfree' (ready_mono hr (Ne.symm hji)) h3.1 (h3.2.1 hjz) ?_⟩) h2
   rw [Array.setIfInBounds_comm _ _ hji]
   exact h3.2.2
theorem wpAnyF_takeC (i:Nat) (C:List Nat) {oi:Oper} {v:Value} {fuel:Nat} {listed:Array Bool} {a:Act} {w:World} (hi:ops[i]?=some oi)
  (hs:(Region.noSelect ops && chainOk md ops z i C && C.all (fun c=>!listed.getD c true) && Region.free md ops listed i && (Region.ready md ops listed).contains i)=true)
  (hQ:∀ c a w,Q (.panic c) (a.put oi.dst v) w → Q (.panic c) a w) (hS:S w) (hw:Region.wanted oi (yielded ops a.tmps)=true) (hy:∀ w,S w → (execOp a.eval oi).run P w=.ok (.value v) w)
  (h:wpAnyF P md ops Q S z fuel (listed.setIfInBounds i true) (a.put oi.dst v) w):wpAnyF P md ops Q S z (fuel + 1) listed a w:=by
 simp only [Bool.and_eq_true] at hs
 exact wpAnyF_firstC C hi (Region.noSelect_spec hs.1.1.1.1) hQ hs.1.1.1.2 fuel listed a w (fun c hc=>by simpa using List.all_eq_true.1 hs.1.1.2 c hc) (Region.free_spec hi hs.1.2) (by simpa using hs.2) (.inl ⟨hw,hy⟩) hS h
end
end Go.Proofs.Lens

namespace Go.Proofs.YtcklnjjbhngbcaaGreatDoor
open Go.RowKit Go.Proofs.Lens
set_option linter.unusedSimpArgs false
def qTys:List TypeId:=[81,165,3]
def slF (v1 v2:Value) (k:Int) (hv pv:Value) (j:Nat):Value:=match j with
 | 0=>v1 | 1=>v2 | 2=>.int .i64 k | 3=>hv | _=>pv
structure SpL (w:World) (lo l n:Nat) (ms:List PMom) (v1 v2:Value) (L:Lk) (hv pv:Value):Prop where
 blk:Blk w l 81 5 (slF v1 v2 L.place hv pv)
 hits:AllH w lo n ms L.ss L.ss.length hv
 past:OwR w lo 3 1 L.past.length (intC L.past) pv
section
variable {w w' : World} {lo l n : Nat} {ms : List PMom} {v1 v2 hv pv : Value} {L : Lk}
theorem AllH.mv {ts:List TypeId} {lo2:Nat} {ss:List PStop} {q:Nat} {v:Value} (h:AllH w lo n ms ss q v) (hm:Mv ts lo2 w w') (h1:165 ∉ ts) (h2:4 ∉ ts):AllH w' lo n ms ss q v:=by
 obtain ⟨f,a,b⟩:=h
 exact ⟨f,a.mv hm h1,fun i hi=>(b i hi).mv hm h2⟩
theorem AllH.cap {ss:List PStop} {q:Nat} {v:Value} (h:AllH w lo n ms ss q v):∃ A c,v=.slice A q c ∧ q ≤ c:=by
 obtain ⟨f,a,b⟩:=h
 obtain ⟨A,c,e,h,-⟩:=a.cap
 exact ⟨A,c,e,h⟩
theorem AllH.other {ss:List PStop} {q b N:Nat} {v:Value} {e:TypeId} {F:Nat → Value} (h:AllH w lo n ms ss q v) (hB:Blk w b e N F) (h1:165 ≠ e) (h2:4 ≠ e) (j:Nat) (u:Value):AllH (w.setCell ⟨b,j,none⟩ u) lo n ms ss q v:=by
 obtain ⟨f,a,c⟩:=h
 exact ⟨f,a.other hB h1 _ _,fun i hi=>(c i hi).other hB h2 _ _⟩
theorem SpL.later (h:SpL w lo l n ms v1 v2 L hv pv) (hb:Below w.heap.size w w'):SpL w' lo l n ms v1 v2 L hv pv:=⟨h.blk.later hb,h.hits.later hb,h.past.later hb⟩
theorem SpL.mv {ts:List TypeId} {lo2:Nat} (h:SpL w lo l n ms v1 v2 L hv pv) (hm:Mv ts lo2 w w') (h1:81 ∉ ts) (h2:165 ∉ ts) (h3:4 ∉ ts) (h4:3 ∉ ts):SpL w' lo l n ms v1 v2 L hv pv:=⟨h.blk.mv hm h1,h.hits.mv hm h2 h3,h.past.mv hm h4⟩
theorem SpL.setAt (h:SpL w lo l n ms v1 v2 L hv pv) (k:Int):SpL (w.setCell ⟨l,2,none⟩ (.int .i64 k)) lo l n ms v1 v2 ⟨k,L.ss,L.past⟩ hv pv :=
 ⟨(h.blk.set (j:=2) (by omega) _).congr fun j hj=>by
  match j,hj with
  | 0,_=>rfl
  | 1,_=>rfl
  | 2,_=>rfl
  | 3,_=>rfl
  | 4,_=>rfl,h.hits.other h.blk (by decide) (by decide) _ _,h.past.other h.blk (by decide) _ _⟩
theorem SpL.ofHits {k:Int} {ss:List PStop} {past:List Int} {u:Value} (h:Blk w l 81 5 (slF v1 v2 k hv pv)) (hH:AllH w lo n ms ss ss.length u) (hp:OwR w lo 3 1 past.length (intC past) pv):SpL (w.setCell ⟨l,3,none⟩ u) lo l n ms v1 v2 ⟨k,ss,past⟩ u pv :=
 ⟨(h.set (j:=3) (by omega) _).congr fun j hj=>by
  match j,hj with
  | 0,_=>rfl
  | 1,_=>rfl
  | 2,_=>rfl
  | 3,_=>rfl
  | 4,_=>rfl,hH.other h (by decide) (by decide) _ _,hp.other h (by decide) _ _⟩
theorem SpL.ofPast {k:Int} {ss:List PStop} {past:List Int} {u:Value} (h:Blk w l 81 5 (slF v1 v2 k hv pv)) (hH:AllH w lo n ms ss ss.length hv) (hp:OwR w lo 3 1 past.length (intC past) u):SpL (w.setCell ⟨l,4,none⟩ u) lo l n ms v1 v2 ⟨k,ss,past⟩ hv u :=
 ⟨(h.set (j:=4) (by omega) _).congr fun j hj=>by
  match j,hj with
  | 0,_=>rfl
  | 1,_=>rfl
  | 2,_=>rfl
  | 3,_=>rfl
  | 4,_=>rfl,hH.other h (by decide) (by decide) _ _,hp.other h (by decide) _ _⟩
end
theorem i_intQ:(Tryz.prog.info? 3).map (fun i=>(i.zero,i.size,i.bytes))=some (some (.int .i64 0),1,8):=by kernel_rfl
theorem intC_oldQ (xs:List Int) (x:Int) {i:Nat} (hi:i < xs.length) (j:Nat):intC xs i j=intC (xs ++ [x]) i j:=by
 unfold intC
 rw [elt_app _ _ hi]
theorem intC_newQ (xs:List Int) (x:Int) (j:Nat):intC (xs ++ [x]) xs.length j=.int .i64 x:=by
 unfold intC
 rw [elt_last]
set_option maxRecDepth 100000 in
set_option maxHeartbeats 4000000 in
theorem l5move_calls (lo l n:Nat) (ms:List PMom) (v1 v2:Value) (L:Lk) (hv pv:Value) (k:Int) (w:World) (h:SpL w lo l n ms v1 v2 L hv pv) (hlo:lo ≤ l) (hl:L.past.length ≤ 1000000) :
  Calls Tryz.prog 90 #[.pointer (some ⟨l,0,none⟩),.int .i64 k] w fun e w'=>e=.returned (.tuple #[]) ∧ (∃ pv',SpL w' lo l n ms v1 v2 (L.move k) hv pv') ∧ Mv qTys lo w w':=by
 obtain ⟨A,c,rfl,-⟩:=h.past.cap
 have hlw:lo ≤ w.heap.size:=Nat.le_trans hlo (Nat.le_of_lt h.blk.lt)
 have H:=qhq (h.later (bl_drew (qrq _ w)))
 have HMV:=qhq ((Mv.refl qTys lo w).drew)
 have hlw2:lo ≤ w.drew.heap.size:=hlw
 clear h hlw
 go_enter Tryz.func90,Tryz.ntmps90
 go_upto_region 0 with fail
 refine wp_region_F 13 (fun w':World=>w'.cell? ⟨l,2,none⟩=some (.int .i64 L.place) ∧ w'.cell? ⟨l,4,none⟩=some (.slice A L.past.length c)) (by kernel_rfl) ?_
 generalize w.drew=W2 at H HMV hlw2 ⊢
 have HS0:Hid (W2.cell? ⟨l,2,none⟩=some (.int .i64 L.place) ∧ W2.cell? ⟨l,4,none⟩=some (.slice A L.past.length c)):=qhq ⟨H.out.blk.cell (j:=2) (by omega),H.out.blk.cell (j:=4) (by omega)⟩
 refine wpAnyF_takeC 0 [] (v:=?v0m) (by rfl) (by kernel_rfl) (by intro _ _ _ h;exact h) HS0.out (by rfl) ?hy0m ?rest0m
 case hy0m =>
  intro w' hSw
  obtain ⟨s0,s1⟩:=hSw
  go_simp
  try with_reducible rfl
 simp only [Act.put,q1q,q2q,q3q]
 refine wpAnyF_takeC 1 [] (v:=?v1m) (by rfl) (by kernel_rfl) (by intro _ _ _ h;exact h) HS0.out (by rfl) ?hy1m ?rest1m
 case hy1m =>
  intro w' hSw
  obtain ⟨s0,s1⟩:=hSw
  go_simp
  try with_reducible rfl
 simp only [Act.put,q1q,q2q,q3q]
 refine wpAnyF_takeC 2 [] (v:=?v2m) (by rfl) (by kernel_rfl) (by intro _ _ _ h;exact h) HS0.out (by rfl) ?hy2m ?rest2m
 case hy2m =>
  intro w' hSw
  obtain ⟨s0,s1⟩:=hSw
  go_simp
  try with_reducible rfl
 simp only [Act.put,q1q,q2q,q3q]
 refine wpAnyF_takeC 3 [] (v:=?v3m) (by rfl) (by kernel_rfl) (by intro _ _ _ h;exact h) HS0.out (by rfl) ?hy3m ?rest3m
 case hy3m =>
  intro w' hSw
  obtain ⟨s0,s1⟩:=hSw
  go_simp
  try with_reducible rfl
 simp only [Act.put,q1q,q2q,q3q]
 refine wpAnyF_takeC 4 [] (v:=?v4m) (by rfl) (by kernel_rfl) (by intro _ _ _ h;exact h) HS0.out (by rfl) ?hy4m ?rest4m
 case hy4m =>
  intro w' hSw
  obtain ⟨s0,s1⟩:=hSw
  go_simp
  try with_reducible rfl
 simp only [Act.put,q1q,q2q,q3q]
 refine wpAnyF_takeC 5 [] (v:=?v5m) (by rfl) (by kernel_rfl) (by intro _ _ _ h;exact h) HS0.out (by rfl) ?hy5m ?rest5m
 case hy5m =>
  intro w' hSw
  obtain ⟨s0,s1⟩:=hSw
  go_simp
  try with_reducible rfl
 simp only [Act.put,q1q,q2q,q3q]
 refine wpAnyF_takeC 6 [] (v:=?v6m) (by rfl) (by kernel_rfl) (by intro _ _ _ h;exact h) HS0.out (by rfl) ?hy6m ?rest6m
 case hy6m =>
  intro w' hSw
  obtain ⟨s0,s1⟩:=hSw
  go_simp
  try with_reducible rfl
 simp only [Act.put,q1q,q2q,q3q]
 refine wpAnyF_takeC 7 [] (v:=?v7m) (by rfl) (by kernel_rfl) (by intro _ _ _ h;exact h) HS0.out (by rfl) ?hy7m ?rest7m
 case hy7m =>
  intro w' hSw
  obtain ⟨s0,s1⟩:=hSw
  go_simp
  try with_reducible rfl
 simp only [Act.put,q1q,q2q,q3q]
 refine wpAnyF_takeC 8 [] (v:=?v8m) (by rfl) (by kernel_rfl) (by intro _ _ _ h;exact h) HS0.out (by rfl) ?hy8m ?rest8m
 case hy8m =>
  intro w' hSw
  obtain ⟨s0,s1⟩:=hSw
  go_simp
  try with_reducible rfl
 simp only [Act.put,q1q,q2q,q3q]
 refine wpAnyF_one 9 (by rfl) (by kernel_rfl) rfl ?_
 intro K hK
 go_simp
 have hba:=qaq (qrq _ W2) (.cells #[.int .i64 L.place] 3)
 refine hK.out _ _ (fun _=>⟨qcq hba HS0.out.1,qcq hba HS0.out.2⟩) ?_
 clear hK K
 refine wpAnyF_one 10 (by rfl) (by kernel_rfl) rfl ?_
 intro K hK
 have hO:=H.out.past.later hba
 refine wp_appendG _ _ _ 79 (by rfl) lo 3 _ 1 8 1 Tryz.underlying79 i_intQ rfl (by omega) _ L.past.length (intC L.past) (intC (L.past ++ [L.place])) (by rfl) hO
  [Value.int .i64 L.place] rfl (by omega) (fun u hu=>by rw [List.mem_singleton.1 hu];rfl) W2.heap.size 0 1 (by rfl) (new_at W2 [Value.int .i64 L.place] 3) (fun i hi j _=>intC_oldQ L.past L.place hi j) (fun i hi j hj=>?_) (by rw [World.size_alloc];omega) (by omega) (by omega) ?_
 ·obtain rfl:i=0:=by omega
  obtain rfl:j=0:=by omega
  show some (Value.int .i64 L.place)=some (intC (L.past ++ [L.place]) L.past.length 0)
  rw [intC_newQ]
 intro g9 cap9 w7 hO7 hg7 hat7 hlt7
 have hmv:Mv [3] lo (W2.alloc (.cells #[.int .i64 L.place] 3)) w7:=(Mv.refl _ _ _).grown (by rw [World.size_alloc];omega) hg7 (fun b hb=>by obtain ⟨N,F,hB⟩:=hO.block hb;exact ⟨(hO.lt b hb).1,_,N,F,hB,by simp⟩)
 have HBK:=qhq ((H.out.blk.later hba).mv hmv (by decide))
 have HHT:=qhq ((H.out.hits.later hba).mv hmv (by decide) (by decide))
 have HO7:=qhq hO7
 have HM7:=qhq ((HMV.out.trans (Mv.of_below hba hlw2)).trans (hmv.mono (ts':=qTys) (fun e he=>by rw [List.mem_singleton.1 he];decide)))
 have hS7:w7.cell? ⟨l,2,none⟩=some (.int .i64 L.place) ∧ w7.cell? ⟨l,4,none⟩=some (.slice A L.past.length c):=⟨HBK.out.cell (j:=2) (by omega),HBK.out.cell (j:=4) (by omega)⟩
 have HS7:=qhq hS7
 refine hK.out _ _ (fun _=>HS7.out) ?_
 clear hK K hba hO hO7 hg7 hat7 hlt7 hmv H HMV HS0 hlw2
 obtain ⟨z2,z4⟩:=hS7
 have f4:=HBK.out.free 4
 refine wpAnyF_one 11 (by rfl) (by kernel_rfl) rfl ?_
 intro K hK
 go_simp
 refine hK.out _ _ (fun _=>HS7.out) ?_
 clear hK K
 refine wpAnyF_one 12 (by rfl) (by kernel_rfl) rfl ?_
 intro K hK
 go_simp
 refine hK.out _ _ (fun _=>HS7.out) ?_
 clear hK K
 refine wpAnyF_one 13 (by rfl) (by kernel_rfl) rfl ?_
 intro K hK
 go_simp
 refine hK.out _ _ (fun h=>absurd rfl h) ?_
 clear hK K
 refine wpAnyF_done (by kernel_rfl) ?_ _
 have e9:L.past.length + 1=(L.past ++ [L.place]).length:=by simp
 have hO9:=HO7.out
 rw [e9] at hO9
 have HSP:=qhq (SpL.ofPast HBK.out HHT.out hO9)
 have HM8:=qhq (HM7.out.set (p:=⟨l,4,none⟩) hlo HBK.out (by decide) (.slice (some ⟨g9,0,none⟩) (L.past ++ [L.place]).length cap9))
 rw [← e9] at HSP HM8
 clear z2 z4 f4 hO9 HBK HHT HO7 HM7 HS7
 generalize World.setCell w7 _ _=w8 at HSP HM8 ⊢
 have z2:w8.cell? ⟨l,2,none⟩=some (.int .i64 L.place):=HSP.out.blk.cell (j:=2) (by omega)
 have f2:=HSP.out.blk.free 2
 go_wp2
 go_end0
 exact ⟨rfl,⟨_,HSP.out.setAt k⟩,HM8.out.set (p:=⟨l,2,none⟩) hlo HSP.out.blk (by decide) _⟩
set_option maxRecDepth 100000 in
set_option maxHeartbeats 4000000 in
theorem l5vars_calls (lo l n:Nat) (ms:List PMom) (v1 v2:Value) (t:PTr) (L:Lk) (hv pv:Value) (w:World) (h:SpL w lo l n ms v1 v2 L hv pv) (hr:RdTr w v1 v2 t) (hsm:smTr t) (_hmn:t.moms.length ≤ 3000) (hpl:L.place ≤ 3000) (hpl0:-1 ≤ L.place) :
  Calls Tryz.prog 97 #[.pointer (some ⟨l,0,none⟩)] w (OwRet w 40 2 (varsAt t L.place).length (varC (varsAt t L.place))):=by
 have H:=qhq h
 have HR:=qhq hr
 have HSM:=qhq hsm
 obtain ⟨-,⟨vv,⟨A2,c2,rfl,hn2,-⟩,-⟩⟩:=hr
 have z1:w.cell? ⟨l,1,none⟩=some (.slice A2 t.moms.length c2):=h.blk.cell (j:=1) (by omega)
 have z2:w.cell? ⟨l,2,none⟩=some (.int .i64 L.place):=h.blk.cell (j:=2) (by omega)
 obtain ⟨p,hp⟩:∃ p,L.place=p:=⟨_,rfl⟩
 rw [hp] at z2 hpl hpl0 ⊢
 clear h hsm hp
 by_cases h0:0 ≤ p
 ·obtain ⟨k,rfl⟩:∃ k:Nat,p=(k:Int):=⟨p.toNat,by omega⟩
  by_cases h1:k < t.moms.length
  ·have h1':(k:Int) < (t.moms.length:Int):=by omega
   have hva:varsAt t (k:Int)=(elt t.moms k).vars:=by unfold varsAt;rw [if_pos (inB_true.2 ⟨by omega,by omega⟩)];rfl
   rw [hva]
   have hvl:=(HSM.out.2.2 k h1).2.1
   obtain ⟨b,o,vx,rfl,-,-,-,-,-,d5,hvx⟩:=rd_moment HR.out.2 (k:=k) h1
   obtain ⟨Av,cv,rfl,-⟩:=id hvx
   have HVX:=qhq hvx
   clear hvx hva
   generalize (elt t.moms k).vars=xs at d5 HVX hvl ⊢
   go_enter Tryz.func97,Tryz.ntmps97
   go_wp2_with (go_quiet (fail))
   go_loopw [3,37] (fun o i wr=>∃ j:Nat,j ≤ xs.length ∧ i=.int .i64 j ∧ OwR wr w.heap.size 40 2 j (varC xs) o ∧ Below w.heap.size w wr) (fun _ i _=>xs.length - (intOf i).toNat)
   case atStart=>exact ⟨0,Nat.zero_le _,rfl,OwR.nil,qnq (qnq (qrq _ _) _) _⟩
   case round =>
    obtain ⟨j,hj,rfl,hO,hb⟩:=hrel
    have HO:=qhq hO
    have HB:=qhq hb
    obtain ⟨A3,c3,rfl,-⟩:=hO.cap
    have hsz:=hb.size
    clear hO hb z1 z2 d5
    by_cases hlt:j < xs.length
    ·have hlt':(j:Int) < (xs.length:Int):=by omega
     obtain ⟨A',c',he,_,hrow⟩:=HVX.out.later HB.out
     obtain ⟨rfl,rfl⟩:Av=A' ∧ cv=c':=by simpa using he
     obtain ⟨bx,ox,rfl,hc⟩:=hrow (by omega)
     have x0:wr.cell? ⟨bx,ox + j * 2,none⟩=some (.string (elt xs j).nm):=hc j hlt 0 (by omega)
     have x1:wr.cell? ⟨bx,ox + j * 2 + 1,none⟩=some (.string (elt xs j).tx):=hc j hlt 1 (by omega)
     clear hc he hrow
     go_wp2_with (at_builtin;refine stopped ?_)
     unfold Stopped
     have hba:=qaq (qrq _ wr) (.cells #[.string (elt xs j).nm,.string (elt xs j).tx] 40)
     have HO2:=qhq (HO.out.later hba)
     have HB2:=qhq (qtq HB.out hba)
     have hsz2:w.heap.size ≤ (wr.alloc (.cells #[.string (elt xs j).nm,.string (elt xs j).tx] 40)).heap.size:=by rw [World.size_alloc];omega
     refine wpList_append1 _ (by rfl) _ _ 36 (by rfl) w.heap.size 40 _ 2 32 Tryz.underlying36 i_var' rfl (by omega) _ j _ (varC xs) (by rfl) HO2.out [.string (elt xs j).nm,.string (elt xs j).tx] rfl (by simp [Value.oneCell']) (by rw [World.size_alloc];rfl) (fun i hi k _=>rfl) ?_ hsz2 (by omega) (by omega) ?_
     ·intro i hi
      match i,hi with
      | 0,_=>rfl
      | 1,_=>rfl
     intro g cap w1 hO1 hG1 _ _
     go_wp2
     go_roundw
     case rel=>exact ⟨j + 1,by omega,by go_num,hO1,bl_own HB2.out hsz2 HO2.out hG1⟩
     case measure=>simp [intOf];omega
    ·obtain rfl:j=xs.length:=by omega
     go_wp2
     go_ret
     exact ⟨_,rfl,HO.out,HB.out⟩
  ·have h1':¬ (k:Int) < (t.moms.length:Int):=by omega
   have hva:varsAt t (k:Int)=[]:=by unfold varsAt;rw [if_neg (fun hh=>by have:=(inB_true.1 hh).2;omega)]
   rw [hva]
   go_enter Tryz.func97,Tryz.ntmps97
   go_wp2_with (go_quiet (fail))
   go_ret
   exact ⟨_,rfl,OwR.nil,qnq (qrq _ _) _⟩
 ·have h0':p < 0:=by omega
  have hva:varsAt t p=[]:=by unfold varsAt;rw [if_neg (fun hh=>by have:=(inB_true.1 hh).1;omega)]
  rw [hva]
  go_enter Tryz.func97,Tryz.ntmps97
  go_wp2_with (go_quiet (fail))
  go_ret
  exact ⟨_,rfl,OwR.nil,qnq (qrq _ _) _⟩
end Go.Proofs.YtcklnjjbhngbcaaGreatDoor
