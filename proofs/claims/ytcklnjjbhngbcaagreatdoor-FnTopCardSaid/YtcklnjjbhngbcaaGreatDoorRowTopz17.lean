/- Lemmas and contracts of functions that the theorem of this claim leans on (texts I11, T17, T18, Q1). -/
import Derived.Test.YtcklnjjbhngbcaaGreatDoorRowTopz00
import Derived.Test.YtcklnjjbhngbcaaGreatDoorRowTopz16
import Derived.Test.YtcklnjjbhngbcaaGreatDoorRowTopz14
import Derived.Test.YtcklnjjbhngbcaaGreatDoorRowTopz05
import Derived.Test.YtcklnjjbhngbcaaGreatDoorRowTopz12
namespace Go.Proofs.YtcklnjjbhngbcaaGreatDoor
open Go.RowKit Go.Proofs.Lens
theorem impl_StopOk_is (p:PStop) (w:World) {b:Bool} (h:stopOk p=b):Calls Tryz.prog 115 #[stopV p] w fun e w'=>e=.returned (.bool b) ∧ Below w.heap.size w w':=h ▸ impl_StopOk_calls p w
theorem impl_StopOk_un (p:PStop) (w:World) {b:Bool} (h:stopOk p=b):Calls Tryz.prog 115 #[.agg #[.int .i64 p.kind,.int .i64 p.fn,.int .i64 p.line,.string p.nm]] w fun e w'=>e=.returned (.bool b) ∧ Below w.heap.size w w':=impl_StopOk_is p w h
theorem holds_un (v1 v2:Value) (t:PTr) (s:PStop) (w:World) (h:RdTr w v1 v2 t) (hsm:smTr t) (hs:soundP t=true) (hst:stopOk s=true) :
  Calls Tryz.prog 156 #[.agg #[v1,v2],.agg #[.int .i64 s.kind,.int .i64 s.fn,.int .i64 s.line,.string s.nm]] w (OwRet w 4 1 t.moms.length (hdC t.moms s)):=holds_calls v1 v2 t s w h hsm hs hst
theorem l3changes_un (v1 v2 v3:Value) (t:PTr) (s:PStop) (k:Nat) (w:World) (h:RdTr w v1 v2 t) (hsm:smTr t) (hk:k < t.moms.length) (ho:RdSl w 5 t.moms.length (ownC t.moms) v3) :
  Calls Tryz.prog 141 #[.agg #[v1,v2],v3,.agg #[.int .i64 s.kind,.int .i64 s.fn,.int .i64 s.line,.string s.nm],.int .i64 k] w fun e w'=>e=.returned (.bool (chgAt t.moms s k)) ∧ Below w.heap.size w w':=l3changes_calls v1 v2 v3 t s k w h hsm hk ho
set_option maxRecDepth 100000 in
set_option maxHeartbeats 8000000 in
theorem l3hits_calls (v1 v2:Value) (t:PTr) (s:PStop) (w:World) (h:RdTr w v1 v2 t) (hsm:smTr t) (hs:soundP t=true) (hst:stopOk s=true) :
  Calls Tryz.prog 89 #[.agg #[v1,v2],stopV s] w (OwRet w 4 1 t.moms.length (hdC t.moms s)):=by
 have HT:=qhq h
 have HS:=qhq hsm
 have HSD:=qhq hs
 obtain ⟨⟨A1,c1,rfl,hn1,-⟩,⟨vv,⟨A2,c2,rfl,hn2,-⟩,-⟩⟩:=h
 have hso:=sound_iff hs
 obtain ⟨nf0,nf1,nm1⟩:=sound_fns hso
 have SO:=qhq hso
 obtain ⟨hkd,hf0,hf1⟩:=stopOk_kind hst
 obtain ⟨C,hC,hc,hmk⟩:=make_law (P:=Tryz.prog) 165 4 Tryz.underlying165 i_bool t.moms.length (by omega) (by omega)
 have HC:=qhq hC
 have Hc:=qhq hc
 have HKD:=qhq hkd
 unfold stopV
 clear hs hsm hso hC hc hst hkd
 go_enter Tryz.func89,Tryz.ntmps89
 go_upto_region 2 with fail
 generalize hW:World.alloc (World.alloc w _) _=W
 have hX:Blk W w.heap.size 26 2 (fun j=>#[Value.slice A1 t.fns.length c1,.slice A2 t.moms.length c2].getD j undef):=by rw [← hW];exact (Blk.made w #[.slice A1 t.fns.length c1,.slice A2 t.moms.length c2] 26).later (by repeat (with_reducible first | exact qrq _ _ | exact HL.out | refine qnq ?_ _ | refine bl_drew ?_ | refine qaq ?_ _ | refine bl_set ?_ (by dsimp only;omega) _))
 have hS:Blk W (w.heap.size + 1) 45 4 (fun j=>#[Value.int .i64 s.kind,.int .i64 s.fn,.int .i64 s.line,.string s.nm].getD j undef):=by
  rw [← hW]
  have:=Blk.made (w.alloc (.cells #[.slice A1 t.fns.length c1,.slice A2 t.moms.length c2] 26)) #[.int .i64 s.kind,.int .i64 s.fn,.int .i64 s.line,.string s.nm] 45
  rw [World.size_alloc] at this
  exact this
 have hB:Below w.heap.size w W:=by rw [← hW];exact (by repeat (with_reducible first | exact qrq _ _ | exact HL.out | refine qnq ?_ _ | refine bl_drew ?_ | refine qaq ?_ _ | refine bl_set ?_ (by dsimp only;omega) _))
 have hsz:W.heap.size=w.heap.size + 1 + 1:=by rw [← hW];simp
 clear hW
 have hO:OwR (W.alloc (.cells C 4)) W.heap.size 4 1 t.moms.length (hdN t.moms s 0) (.slice (some ⟨W.heap.size,0,none⟩) t.moms.length t.moms.length) :=
  OwR.made HC.out Hc.out (by rfl) (by simp only [maxLen];omega) _ (fun i hi j hj=>by
   obtain rfl:j=0:=by omega
   simp only [hdN,Nat.not_lt_zero,decide_false,Bool.false_and]
   rfl)
 rw [hsz] at hO
 have HO:=qhq hO
 have HX:=qhq (hX.alloc (.cells C 4))
 have HSB:=qhq (hS.alloc (.cells C 4))
 have HB:=qhq (qaq hB (.cells C 4))
 generalize W.alloc (.cells C 4)=W1 at HO HX HSB HB ⊢
 clear hO hX hS hB
 have x0:W1.cell? ⟨w.heap.size,0,none⟩=some (.slice A1 t.fns.length c1):=HX.out.cell (j:=0) (by simp)
 have x1:W1.cell? ⟨w.heap.size,1,none⟩=some (.slice A2 t.moms.length c2):=HX.out.cell (j:=1) (by simp)
 generalize hgo:w.heap.size + 1 + 1=go at *
 go_wp2_with fail
 refine (l3owners_calls _ _ t _ (HT.out.later HB.out) HS.out HSD.out).mono ?_;rintro e w2 ⟨v3,rfl,hP,hb⟩
 obtain ⟨A3,k3,rfl,-⟩:=hP.cap
 have HP:=qhq (hP.lower (lo':=w.heap.size) HB.out.size)
 clear hP x0 x1
 replace HB:=qhq (qtq HB.out hb);replace HX:=qhq (HX.out.later hb);replace HO:=qhq (HO.out.later hb);replace HSB:=qhq (HSB.out.later hb);clear hb
 have x1:w2.cell? ⟨w.heap.size,1,none⟩=some (.slice A2 t.moms.length c2):=HX.out.cell (j:=1) (by simp)
 go_wp2_with fail
 clear x1
 go_loopw [18] (fun i wr=>∃ n:Nat,n ≤ t.moms.length ∧ i=.int .i64 n ∧
  OwR wr go 4 1 t.moms.length (hdN t.moms s n) (.slice (some ⟨go,0,none⟩) t.moms.length t.moms.length) ∧
  OwR wr w.heap.size 242 5 t.moms.length (ownC t.moms) (.slice A3 t.moms.length k3) ∧ Below w.heap.size w wr ∧
  Blk wr w.heap.size 26 2 (fun j=>#[Value.slice A1 t.fns.length c1,.slice A2 t.moms.length c2].getD j undef) ∧
  Blk wr (w.heap.size + 1) 45 4 (fun j=>#[Value.int .i64 s.kind,.int .i64 s.fn,.int .i64 s.line,.string s.nm].getD j undef)) (fun i _=>t.moms.length - (intOf i).toNat)
 case atStart=>exact ⟨0,Nat.zero_le _,rfl,HO.out,HP.out,HB.out,HX.out,HSB.out⟩
 case round =>
  obtain ⟨n,hnn,rfl,hO,hP,hB,hX,hSB⟩:=hrel
  clear HO HB HX HP HSB
  have HO:=qhq hO
  have HP:=qhq hP
  have HB:=qhq hB
  have HX:=qhq hX
  have HSB:=qhq hSB
  clear hO hB hX hP hSB
  by_cases h2:n < t.moms.length
  ·obtain ⟨b,o,vk,hA,d0,d1,d2,d3,d4,d5,hvk⟩:=rd_moment (HT.out.2.later HB.out) h2
   obtain ⟨Av,cv,rfl,-⟩:=hvk
   subst hA
   go_upto_region 6 with fail
   have HMB:Hid (Blk (wr.alloc _) wr.heap.size 114 6 _):=qhq (Blk.made wr #[.int .i64 (elt t.moms n).kind,.int .i64 (elt t.moms n).task,.int .i64 (elt t.moms n).fn,.int .i64 (elt t.moms n).line,.string (elt t.moms n).text,.slice Av (elt t.moms n).vars.length cv] 114)
   generalize hW2:World.alloc wr _=w3 at HMB ⊢
   have hbl:Below wr.heap.size wr w3:=by rw [← hW2];exact qaq (qrq _ _) _
   have hmb:w.heap.size + 1 < wr.heap.size:=HSB.out.lt
   have hgob:go < wr.heap.size:=HO.out.blt.2
   clear hW2 d0 d1 d2 d3 d4 d5
   replace HB:=qhq (qtq HB.out hbl);replace HX:=qhq (HX.out.later hbl);replace HO:=qhq (HO.out.later hbl);replace HP:=qhq (HP.out.later hbl);replace HSB:=qhq (HSB.out.later hbl);clear hbl
   have y0:w3.cell? ⟨wr.heap.size,0,none⟩=some (.int .i64 (elt t.moms n).kind):=HMB.out.cell (j:=0) (by simp)
   have y2:w3.cell? ⟨wr.heap.size,2,none⟩=some (.int .i64 (elt t.moms n).fn):=HMB.out.cell (j:=2) (by simp)
   have y3:w3.cell? ⟨wr.heap.size,3,none⟩=some (.int .i64 (elt t.moms n).line):=HMB.out.cell (j:=3) (by simp)
   have s0:w3.cell? ⟨w.heap.size + 1,0,none⟩=some (.int .i64 s.kind):=HSB.out.cell (j:=0) (by simp)
   have s1:w3.cell? ⟨w.heap.size + 1,1,none⟩=some (.int .i64 s.fn):=HSB.out.cell (j:=1) (by simp)
   have s2:w3.cell? ⟨w.heap.size + 1,2,none⟩=some (.int .i64 s.line):=HSB.out.cell (j:=2) (by simp)
   have h2':(n:Int) < (t.moms.length:Int):=by omega
   by_cases k3':s.kind=3
   ·have hq1:(s.kind == 1)=false:=by simp [k3']
    have hq2:(s.kind == 2)=false:=by simp [k3']
    have hq3:(s.kind == 3)=true:=by simp [k3']
    have HK3:=qhq k3'
    have s3:w3.cell? ⟨w.heap.size + 1,3,none⟩=some (.string s.nm):=HSB.out.cell (j:=3) (by simp)
    have x0:w3.cell? ⟨w.heap.size,0,none⟩=some (.slice A1 t.fns.length c1):=HX.out.cell (j:=0) (by simp)
    have x1:w3.cell? ⟨w.heap.size,1,none⟩=some (.slice (some ⟨b,o,none⟩) t.moms.length c2):=HX.out.cell (j:=1) (by simp)
    clear k3'
    go_wp2_with fail
    refine (l3changes_un _ _ _ t s n _ (HT.out.later HB.out) HS.out h2 HP.out.rd).mono ?_;rintro e w4 ⟨rfl,hb⟩
    clear s0 s1 s2 s3 x0 x1 y0 y2 y3
    replace HB:=qhq (qtq HB.out hb);replace HX:=qhq (HX.out.later hb);replace HO:=qhq (HO.out.later hb);replace HP:=qhq (HP.out.later hb);replace HSB:=qhq (HSB.out.later hb);clear hb
    have z2:=HO.out.free n
    have z3:w4.cell? ⟨go,n,none⟩=some (.bool false):=by
     have:=HO.out.cells h2 (j:=0) (by omega)
     simpa [hdN] using this
    have HH:Hid (holdsP t.moms s n=chgAt t.moms s n):=qhq (by unfold holdsP;rw [if_neg (by have:=HK3.out;omega),if_neg (by have:=HK3.out;omega),if_pos HK3.out,chgAt_eq SO.out s h2])
    generalize chgAt t.moms s n=r1 at HH ⊢
    go_wp2
    go_roundw
    case rel =>
     have hset:=(Mv.refl [4] w.heap.size w4).setO HO.out (by omega) (by decide) n (.bool r1)
     exact ⟨n + 1,by omega,by go_num,hdN_set HO.out h2 HH.out,HP.out.mv hset (by decide),bl_trans3 HB.out hset.bl,HX.out.mv hset (by decide),HSB.out.mv hset (by decide)⟩
    case measure=>simp [intOf];omega
   ·have hq3:(s.kind == 3)=false:=by simp [k3']
    have z2:=HO.out.free n
    have z3:w3.cell? ⟨go,n,none⟩=some (.bool false):=by
     have:=HO.out.cells h2 (j:=0) (by omega)
     simpa [hdN] using this
    by_cases k1:s.kind=1
    ·have hq1:(s.kind == 1)=true:=by simp [k1]
     have HH:Hid (holdsP t.moms s n=(((elt t.moms n).kind == 1) && ((elt t.moms n).fn == s.fn) && ((elt t.moms n).line == s.line))):=qhq (by unfold holdsP;rw [if_pos k1,Bool.beq_eq_decide_eq,Bool.beq_eq_decide_eq,Bool.beq_eq_decide_eq])
     generalize hk1:((elt t.moms n).kind == 1)=r1 at HH
     generalize hk2:((elt t.moms n).fn == s.fn)=r2 at HH
     generalize hk3:((elt t.moms n).line == s.line)=r3 at HH
     clear k1 k3'
     cases r1 <;> cases r2 <;> cases r3
     all_goals
      go_wp2
      go_roundw
      case rel =>
       have hset:=(Mv.refl [4] w.heap.size w3).setO HO.out (by omega) (by decide) n (.bool (holdsP t.moms s n))
       have hO2:=hdN_set HO.out h2 rfl
       rw [HH.out] at hset hO2
       exact ⟨n + 1,by omega,by go_num,hO2,HP.out.mv hset (by decide),bl_trans3 HB.out hset.bl,HX.out.mv hset (by decide),HSB.out.mv hset (by decide)⟩
      case measure=>simp [intOf];omega
    ·have hq1:(s.kind == 1)=false:=by simp [k1]
     by_cases k2:s.kind=2
     ·have hq2:(s.kind == 2)=true:=by simp [k2]
      have HH:Hid (holdsP t.moms s n=(((elt t.moms n).kind == 2) && ((elt t.moms n).fn == s.fn))):=qhq (by unfold holdsP;rw [if_neg k1,if_pos k2,Bool.beq_eq_decide_eq,Bool.beq_eq_decide_eq])
      generalize hk1:((elt t.moms n).kind == 2)=r1 at HH
      generalize hk2:((elt t.moms n).fn == s.fn)=r2 at HH
      clear k1 k2 k3'
      cases r1 <;> cases r2
      all_goals
       go_wp2
       go_roundw
       case rel =>
        have hset:=(Mv.refl [4] w.heap.size w3).setO HO.out (by omega) (by decide) n (.bool (holdsP t.moms s n))
        have hO2:=hdN_set HO.out h2 rfl
        rw [HH.out] at hset hO2
        exact ⟨n + 1,by omega,by go_num,hO2,HP.out.mv hset (by decide),bl_trans3 HB.out hset.bl,HX.out.mv hset (by decide),HSB.out.mv hset (by decide)⟩
       case measure=>simp [intOf];omega
     ·have hq2:(s.kind == 2)=false:=by simp [k2]
      have HH:Hid (holdsP t.moms s n=((elt t.moms n).kind == 4)):=qhq (by unfold holdsP;rw [if_neg k1,if_neg k2,if_neg k3',Bool.beq_eq_decide_eq])
      generalize hk1:((elt t.moms n).kind == 4)=r1 at HH
      clear k1 k2 k3'
      cases r1
      all_goals
       go_wp2
       go_roundw
       case rel =>
        have hset:=(Mv.refl [4] w.heap.size w3).setO HO.out (by omega) (by decide) n (.bool (holdsP t.moms s n))
        have hO2:=hdN_set HO.out h2 rfl
        rw [HH.out] at hset hO2
        exact ⟨n + 1,by omega,by go_num,hO2,HP.out.mv hset (by decide),bl_trans3 HB.out hset.bl,HX.out.mv hset (by decide),HSB.out.mv hset (by decide)⟩
       case measure=>simp [intOf];omega
  ·obtain rfl:n=t.moms.length:=by omega
   go_wp2
   go_ret
   refine ⟨_,rfl,?_,HB.out⟩
   exact (HO.out.lower (by omega)).congr fun i hi j hj=>by simp [hdN,hdC,hi]
theorem spec_StopOk_un (p:PStop) (w:World) {b:Bool} (h:stopOk p=b):Calls Tryz.prog 138 #[.agg #[.int .i64 p.kind,.int .i64 p.fn,.int .i64 p.line,.string p.nm]] w fun e w'=>e=.returned (.bool b) ∧ Below w.heap.size w w':=h ▸ spec_StopOk_calls p w
theorem l3hits_un (v1 v2:Value) (t:PTr) (s:PStop) (w:World) (h:RdTr w v1 v2 t) (hsm:smTr t) (hs:soundP t=true) (hst:stopOk s=true) :
  Calls Tryz.prog 89 #[.agg #[v1,v2],.agg #[.int .i64 s.kind,.int .i64 s.fn,.int .i64 s.line,.string s.nm]] w (OwRet w 4 1 t.moms.length (hdC t.moms s)):=l3hits_calls v1 v2 t s w h hsm hs hst
set_option linter.unusedSimpArgs false
set_option maxRecDepth 100000 in
set_option maxHeartbeats 2000000 in
theorem l5stop_calls (p:PStop) (w:World):Calls Tryz.prog 139 #[.agg #[.int .i64 p.kind,.int .i64 p.fn,.int .i64 p.line,.string p.nm]] w fun e w'=>e=.returned (.bool (noStop p)) ∧ Below w.heap.size w w':=by
 go_enter Tryz.func139,Tryz.ntmps139
 go_wp2
 all_goals
  go_ret
  refine ⟨ret_bool ?_,qaq (qrq _ _) _⟩
  go_tidy
  unfold noStop noS
  grind [List.isEmpty_iff]
theorem l5stop_is (p:PStop) (w:World) {b:Bool} (h:noStop p=b):Calls Tryz.prog 139 #[.agg #[.int .i64 p.kind,.int .i64 p.fn,.int .i64 p.line,.string p.nm]] w fun e w'=>e=.returned (.bool b) ∧ Below w.heap.size w w':=h ▸ l5stop_calls p w
set_option maxRecDepth 100000 in
set_option maxHeartbeats 2000000 in
theorem specAsk_1 (a:PAsk) (w:World) (h1:a.op=1) (hz:a.nm.size ≤ 9223372036854775807) :
  Calls Tryz.prog 88 #[.agg #[.int .i64 a.op,.int .i64 a.n,.string a.nm,.int .i64 a.stop.kind,.int .i64 a.stop.fn,.int .i64 a.stop.line,.string a.stop.nm]] w fun e w'=>e=.returned (.bool (askOk a)) ∧ Below w.heap.size w w':=by
 obtain ⟨op,n,nm,st⟩:=a
 simp only at h1 hz ⊢
 subst h1
 obtain ⟨c,hst⟩:∃ c,stopOk st=c:=⟨_,rfl⟩
 obtain ⟨b,hin⟩:∃ b,inB n 0 0=b:=⟨_,rfl⟩
 have HA:Hid (askOk ⟨1,n,nm,st⟩=(decide (n=0) && noS nm && c)):=qhq (by unfold askOk;simp [hst])
 go_enter Tryz.func88,Tryz.ntmps88
 go_wp2_with (first | (go_at_call 137;refine (l1in_is _ _ _ _ hin).mono ?_;rintro e w' ⟨rfl,rfl⟩) | (go_at_call 139;refine (l5stop_is st _ hst).mono ?_;rintro e w1 ⟨rfl,hbl⟩) | (go_at_call 138;refine (spec_StopOk_un st _ hst).mono ?_;rintro e w1 ⟨rfl,hbl⟩))
 all_goals
  go_ret
  refine ⟨ret_bool ?_,(by repeat (with_reducible first | exact qrq _ _ | exact qtq (qaq (qrq _ _) _) hbl | refine qaq ?_ _ | refine bl_set ?_ (by dsimp only;omega) _))⟩
  go_tidy
  rw [HA.out]
  unfold noS
  clear hst hin
  grind [List.isEmpty_iff]
set_option maxRecDepth 100000 in
set_option maxHeartbeats 2000000 in
theorem specAsk_2 (a:PAsk) (w:World) (h1:a.op=2) (hz:a.nm.size ≤ 9223372036854775807) :
  Calls Tryz.prog 88 #[.agg #[.int .i64 a.op,.int .i64 a.n,.string a.nm,.int .i64 a.stop.kind,.int .i64 a.stop.fn,.int .i64 a.stop.line,.string a.stop.nm]] w fun e w'=>e=.returned (.bool (askOk a)) ∧ Below w.heap.size w w':=by
 obtain ⟨op,n,nm,st⟩:=a
 simp only at h1 hz ⊢
 subst h1
 obtain ⟨c,hst⟩:∃ c,noStop st=c:=⟨_,rfl⟩
 obtain ⟨b,hin⟩:∃ b,inB n 0 49=b:=⟨_,rfl⟩
 have HA:Hid (askOk ⟨2,n,nm,st⟩=(b && noS nm && c)):=qhq (by unfold askOk;simp [hst,hin])
 go_enter Tryz.func88,Tryz.ntmps88
 go_wp2_with (first | (go_at_call 137;refine (l1in_is _ _ _ _ hin).mono ?_;rintro e w' ⟨rfl,rfl⟩) | (go_at_call 139;refine (l5stop_is st _ hst).mono ?_;rintro e w1 ⟨rfl,hbl⟩) | (go_at_call 138;refine (spec_StopOk_un st _ hst).mono ?_;rintro e w1 ⟨rfl,hbl⟩))
 all_goals
  go_ret
  refine ⟨ret_bool ?_,(by repeat (with_reducible first | exact qrq _ _ | exact qtq (qaq (qrq _ _) _) hbl | refine qaq ?_ _ | refine bl_set ?_ (by dsimp only;omega) _))⟩
  go_tidy
  rw [HA.out]
  unfold noS
  clear hst hin
  grind [List.isEmpty_iff]
set_option maxRecDepth 100000 in
set_option maxHeartbeats 2000000 in
theorem specAsk_13 (a:PAsk) (w:World) (h1:a.op=13) (hz:a.nm.size ≤ 9223372036854775807) :
  Calls Tryz.prog 88 #[.agg #[.int .i64 a.op,.int .i64 a.n,.string a.nm,.int .i64 a.stop.kind,.int .i64 a.stop.fn,.int .i64 a.stop.line,.string a.stop.nm]] w fun e w'=>e=.returned (.bool (askOk a)) ∧ Below w.heap.size w w':=by
 obtain ⟨op,n,nm,st⟩:=a
 simp only at h1 hz ⊢
 subst h1
 obtain ⟨c,hst⟩:∃ c,noStop st=c:=⟨_,rfl⟩
 obtain ⟨b,hin⟩:∃ b,inB n 0 49=b:=⟨_,rfl⟩
 have HA:Hid (askOk ⟨13,n,nm,st⟩=(b && noS nm && c)):=qhq (by unfold askOk;simp [hst,hin])
 go_enter Tryz.func88,Tryz.ntmps88
 go_wp2_with (first | (go_at_call 137;refine (l1in_is _ _ _ _ hin).mono ?_;rintro e w' ⟨rfl,rfl⟩) | (go_at_call 139;refine (l5stop_is st _ hst).mono ?_;rintro e w1 ⟨rfl,hbl⟩) | (go_at_call 138;refine (spec_StopOk_un st _ hst).mono ?_;rintro e w1 ⟨rfl,hbl⟩))
 all_goals
  go_ret
  refine ⟨ret_bool ?_,(by repeat (with_reducible first | exact qrq _ _ | exact qtq (qaq (qrq _ _) _) hbl | refine qaq ?_ _ | refine bl_set ?_ (by dsimp only;omega) _))⟩
  go_tidy
  rw [HA.out]
  unfold noS
  clear hst hin
  grind [List.isEmpty_iff]
set_option maxRecDepth 100000 in
set_option maxHeartbeats 2000000 in
theorem specAsk_3 (a:PAsk) (w:World) (h1:a.op=3) (hz:a.nm.size ≤ 9223372036854775807) :
  Calls Tryz.prog 88 #[.agg #[.int .i64 a.op,.int .i64 a.n,.string a.nm,.int .i64 a.stop.kind,.int .i64 a.stop.fn,.int .i64 a.stop.line,.string a.stop.nm]] w fun e w'=>e=.returned (.bool (askOk a)) ∧ Below w.heap.size w w':=by
 obtain ⟨op,n,nm,st⟩:=a
 simp only at h1 hz ⊢
 subst h1
 obtain ⟨c,hst⟩:∃ c,noStop st=c:=⟨_,rfl⟩
 obtain ⟨b,hin⟩:∃ b,inB n 0 0=b:=⟨_,rfl⟩
 have HA:Hid (askOk ⟨3,n,nm,st⟩=(decide (n=0) && noS nm && c)):=qhq (by unfold askOk;simp [hst,inB])
 go_enter Tryz.func88,Tryz.ntmps88
 go_wp2_with (first | (go_at_call 137;refine (l1in_is _ _ _ _ hin).mono ?_;rintro e w' ⟨rfl,rfl⟩) | (go_at_call 139;refine (l5stop_is st _ hst).mono ?_;rintro e w1 ⟨rfl,hbl⟩) | (go_at_call 138;refine (spec_StopOk_un st _ hst).mono ?_;rintro e w1 ⟨rfl,hbl⟩))
 all_goals
  go_ret
  refine ⟨ret_bool ?_,(by repeat (with_reducible first | exact qrq _ _ | exact qtq (qaq (qrq _ _) _) hbl | refine qaq ?_ _ | refine bl_set ?_ (by dsimp only;omega) _))⟩
  go_tidy
  rw [HA.out]
  unfold noS
  clear hst hin
  grind [List.isEmpty_iff]
set_option maxRecDepth 100000 in
set_option maxHeartbeats 2000000 in
theorem specAsk_4 (a:PAsk) (w:World) (h1:a.op=4) (hz:a.nm.size ≤ 9223372036854775807) :
  Calls Tryz.prog 88 #[.agg #[.int .i64 a.op,.int .i64 a.n,.string a.nm,.int .i64 a.stop.kind,.int .i64 a.stop.fn,.int .i64 a.stop.line,.string a.stop.nm]] w fun e w'=>e=.returned (.bool (askOk a)) ∧ Below w.heap.size w w':=by
 obtain ⟨op,n,nm,st⟩:=a
 simp only at h1 hz ⊢
 subst h1
 obtain ⟨c,hst⟩:∃ c,noStop st=c:=⟨_,rfl⟩
 obtain ⟨b,hin⟩:∃ b,inB n 0 0=b:=⟨_,rfl⟩
 have HA:Hid (askOk ⟨4,n,nm,st⟩=(decide (n=0) && noS nm && c)):=qhq (by unfold askOk;simp [hst,inB])
 go_enter Tryz.func88,Tryz.ntmps88
 go_wp2_with (first | (go_at_call 137;refine (l1in_is _ _ _ _ hin).mono ?_;rintro e w' ⟨rfl,rfl⟩) | (go_at_call 139;refine (l5stop_is st _ hst).mono ?_;rintro e w1 ⟨rfl,hbl⟩) | (go_at_call 138;refine (spec_StopOk_un st _ hst).mono ?_;rintro e w1 ⟨rfl,hbl⟩))
 all_goals
  go_ret
  refine ⟨ret_bool ?_,(by repeat (with_reducible first | exact qrq _ _ | exact qtq (qaq (qrq _ _) _) hbl | refine qaq ?_ _ | refine bl_set ?_ (by dsimp only;omega) _))⟩
  go_tidy
  rw [HA.out]
  unfold noS
  clear hst hin
  grind [List.isEmpty_iff]
set_option maxRecDepth 100000 in
set_option maxHeartbeats 2000000 in
theorem specAsk_5 (a:PAsk) (w:World) (h1:a.op=5) (hz:a.nm.size ≤ 9223372036854775807) :
  Calls Tryz.prog 88 #[.agg #[.int .i64 a.op,.int .i64 a.n,.string a.nm,.int .i64 a.stop.kind,.int .i64 a.stop.fn,.int .i64 a.stop.line,.string a.stop.nm]] w fun e w'=>e=.returned (.bool (askOk a)) ∧ Below w.heap.size w w':=by
 obtain ⟨op,n,nm,st⟩:=a
 simp only at h1 hz ⊢
 subst h1
 obtain ⟨c,hst⟩:∃ c,noStop st=c:=⟨_,rfl⟩
 obtain ⟨b,hin⟩:∃ b,inB n 0 0=b:=⟨_,rfl⟩
 have HA:Hid (askOk ⟨5,n,nm,st⟩=(decide (n=0) && noS nm && c)):=qhq (by unfold askOk;simp [hst,inB])
 go_enter Tryz.func88,Tryz.ntmps88
 go_wp2_with (first | (go_at_call 137;refine (l1in_is _ _ _ _ hin).mono ?_;rintro e w' ⟨rfl,rfl⟩) | (go_at_call 139;refine (l5stop_is st _ hst).mono ?_;rintro e w1 ⟨rfl,hbl⟩) | (go_at_call 138;refine (spec_StopOk_un st _ hst).mono ?_;rintro e w1 ⟨rfl,hbl⟩))
 all_goals
  go_ret
  refine ⟨ret_bool ?_,(by repeat (with_reducible first | exact qrq _ _ | exact qtq (qaq (qrq _ _) _) hbl | refine qaq ?_ _ | refine bl_set ?_ (by dsimp only;omega) _))⟩
  go_tidy
  rw [HA.out]
  unfold noS
  clear hst hin
  grind [List.isEmpty_iff]
set_option maxRecDepth 100000 in
set_option maxHeartbeats 2000000 in
theorem specAsk_6 (a:PAsk) (w:World) (h1:a.op=6) (hz:a.nm.size ≤ 9223372036854775807) :
  Calls Tryz.prog 88 #[.agg #[.int .i64 a.op,.int .i64 a.n,.string a.nm,.int .i64 a.stop.kind,.int .i64 a.stop.fn,.int .i64 a.stop.line,.string a.stop.nm]] w fun e w'=>e=.returned (.bool (askOk a)) ∧ Below w.heap.size w w':=by
 obtain ⟨op,n,nm,st⟩:=a
 simp only at h1 hz ⊢
 subst h1
 obtain ⟨c,hst⟩:∃ c,noStop st=c:=⟨_,rfl⟩
 obtain ⟨b,hin⟩:∃ b,inB n 0 0=b:=⟨_,rfl⟩
 have HA:Hid (askOk ⟨6,n,nm,st⟩=(decide (n=0) && noS nm && c)):=qhq (by unfold askOk;simp [hst,inB])
 go_enter Tryz.func88,Tryz.ntmps88
 go_wp2_with (first | (go_at_call 137;refine (l1in_is _ _ _ _ hin).mono ?_;rintro e w' ⟨rfl,rfl⟩) | (go_at_call 139;refine (l5stop_is st _ hst).mono ?_;rintro e w1 ⟨rfl,hbl⟩) | (go_at_call 138;refine (spec_StopOk_un st _ hst).mono ?_;rintro e w1 ⟨rfl,hbl⟩))
 all_goals
  go_ret
  refine ⟨ret_bool ?_,(by repeat (with_reducible first | exact qrq _ _ | exact qtq (qaq (qrq _ _) _) hbl | refine qaq ?_ _ | refine bl_set ?_ (by dsimp only;omega) _))⟩
  go_tidy
  rw [HA.out]
  unfold noS
  clear hst hin
  grind [List.isEmpty_iff]
set_option maxRecDepth 100000 in
set_option maxHeartbeats 2000000 in
theorem specAsk_7 (a:PAsk) (w:World) (h1:a.op=7) (hz:a.nm.size ≤ 9223372036854775807) :
  Calls Tryz.prog 88 #[.agg #[.int .i64 a.op,.int .i64 a.n,.string a.nm,.int .i64 a.stop.kind,.int .i64 a.stop.fn,.int .i64 a.stop.line,.string a.stop.nm]] w fun e w'=>e=.returned (.bool (askOk a)) ∧ Below w.heap.size w w':=by
 obtain ⟨op,n,nm,st⟩:=a
 simp only at h1 hz ⊢
 subst h1
 obtain ⟨c,hst⟩:∃ c,noStop st=c:=⟨_,rfl⟩
 obtain ⟨b,hin⟩:∃ b,inB n 0 0=b:=⟨_,rfl⟩
 have HA:Hid (askOk ⟨7,n,nm,st⟩=(decide (n=0) && noS nm && c)):=qhq (by unfold askOk;simp [hst,inB])
 go_enter Tryz.func88,Tryz.ntmps88
 go_wp2_with (first | (go_at_call 137;refine (l1in_is _ _ _ _ hin).mono ?_;rintro e w' ⟨rfl,rfl⟩) | (go_at_call 139;refine (l5stop_is st _ hst).mono ?_;rintro e w1 ⟨rfl,hbl⟩) | (go_at_call 138;refine (spec_StopOk_un st _ hst).mono ?_;rintro e w1 ⟨rfl,hbl⟩))
 all_goals
  go_ret
  refine ⟨ret_bool ?_,(by repeat (with_reducible first | exact qrq _ _ | exact qtq (qaq (qrq _ _) _) hbl | refine qaq ?_ _ | refine bl_set ?_ (by dsimp only;omega) _))⟩
  go_tidy
  rw [HA.out]
  unfold noS
  clear hst hin
  grind [List.isEmpty_iff]
set_option maxRecDepth 100000 in
set_option maxHeartbeats 2000000 in
theorem specAsk_8 (a:PAsk) (w:World) (h1:a.op=8) (hz:a.nm.size ≤ 9223372036854775807) :
  Calls Tryz.prog 88 #[.agg #[.int .i64 a.op,.int .i64 a.n,.string a.nm,.int .i64 a.stop.kind,.int .i64 a.stop.fn,.int .i64 a.stop.line,.string a.stop.nm]] w fun e w'=>e=.returned (.bool (askOk a)) ∧ Below w.heap.size w w':=by
 obtain ⟨op,n,nm,st⟩:=a
 simp only at h1 hz ⊢
 subst h1
 obtain ⟨c,hst⟩:∃ c,noStop st=c:=⟨_,rfl⟩
 obtain ⟨b,hin⟩:∃ b,inB n 0 0=b:=⟨_,rfl⟩
 have HA:Hid (askOk ⟨8,n,nm,st⟩=(decide (n=0) && noS nm && c)):=qhq (by unfold askOk;simp [hst,inB])
 go_enter Tryz.func88,Tryz.ntmps88
 go_wp2_with (first | (go_at_call 137;refine (l1in_is _ _ _ _ hin).mono ?_;rintro e w' ⟨rfl,rfl⟩) | (go_at_call 139;refine (l5stop_is st _ hst).mono ?_;rintro e w1 ⟨rfl,hbl⟩) | (go_at_call 138;refine (spec_StopOk_un st _ hst).mono ?_;rintro e w1 ⟨rfl,hbl⟩))
 all_goals
  go_ret
  refine ⟨ret_bool ?_,(by repeat (with_reducible first | exact qrq _ _ | exact qtq (qaq (qrq _ _) _) hbl | refine qaq ?_ _ | refine bl_set ?_ (by dsimp only;omega) _))⟩
  go_tidy
  rw [HA.out]
  unfold noS
  clear hst hin
  grind [List.isEmpty_iff]
set_option maxRecDepth 100000 in
set_option maxHeartbeats 2000000 in
theorem specAsk_11 (a:PAsk) (w:World) (h1:a.op=11) (hz:a.nm.size ≤ 9223372036854775807) :
  Calls Tryz.prog 88 #[.agg #[.int .i64 a.op,.int .i64 a.n,.string a.nm,.int .i64 a.stop.kind,.int .i64 a.stop.fn,.int .i64 a.stop.line,.string a.stop.nm]] w fun e w'=>e=.returned (.bool (askOk a)) ∧ Below w.heap.size w w':=by
 obtain ⟨op,n,nm,st⟩:=a
 simp only at h1 hz ⊢
 subst h1
 obtain ⟨c,hst⟩:∃ c,noStop st=c:=⟨_,rfl⟩
 obtain ⟨b,hin⟩:∃ b,inB n 0 0=b:=⟨_,rfl⟩
 have HA:Hid (askOk ⟨11,n,nm,st⟩=(decide (n=0) && noS nm && c)):=qhq (by unfold askOk;simp [hst,inB])
 go_enter Tryz.func88,Tryz.ntmps88
 go_wp2_with (first | (go_at_call 137;refine (l1in_is _ _ _ _ hin).mono ?_;rintro e w' ⟨rfl,rfl⟩) | (go_at_call 139;refine (l5stop_is st _ hst).mono ?_;rintro e w1 ⟨rfl,hbl⟩) | (go_at_call 138;refine (spec_StopOk_un st _ hst).mono ?_;rintro e w1 ⟨rfl,hbl⟩))
 all_goals
  go_ret
  refine ⟨ret_bool ?_,(by repeat (with_reducible first | exact qrq _ _ | exact qtq (qaq (qrq _ _) _) hbl | refine qaq ?_ _ | refine bl_set ?_ (by dsimp only;omega) _))⟩
  go_tidy
  rw [HA.out]
  unfold noS
  clear hst hin
  grind [List.isEmpty_iff]
set_option maxRecDepth 100000 in
set_option maxHeartbeats 2000000 in
theorem specAsk_9 (a:PAsk) (w:World) (h1:a.op=9) (hz:a.nm.size ≤ 9223372036854775807) :
  Calls Tryz.prog 88 #[.agg #[.int .i64 a.op,.int .i64 a.n,.string a.nm,.int .i64 a.stop.kind,.int .i64 a.stop.fn,.int .i64 a.stop.line,.string a.stop.nm]] w fun e w'=>e=.returned (.bool (askOk a)) ∧ Below w.heap.size w w':=by
 obtain ⟨op,n,nm,st⟩:=a
 simp only at h1 hz ⊢
 subst h1
 obtain ⟨c,hst⟩:∃ c,noStop st=c:=⟨_,rfl⟩
 obtain ⟨b,hin⟩:∃ b,inB n (-1) 3000=b:=⟨_,rfl⟩
 have HA:Hid (askOk ⟨9,n,nm,st⟩=(b && noS nm && c)):=qhq (by unfold askOk;simp [hst,hin])
 go_enter Tryz.func88,Tryz.ntmps88
 go_wp2_with (first | (go_at_call 137;refine (l1in_is _ _ _ _ hin).mono ?_;rintro e w' ⟨rfl,rfl⟩) | (go_at_call 139;refine (l5stop_is st _ hst).mono ?_;rintro e w1 ⟨rfl,hbl⟩) | (go_at_call 138;refine (spec_StopOk_un st _ hst).mono ?_;rintro e w1 ⟨rfl,hbl⟩))
 all_goals
  go_ret
  refine ⟨ret_bool ?_,(by repeat (with_reducible first | exact qrq _ _ | exact qtq (qaq (qrq _ _) _) hbl | refine qaq ?_ _ | refine bl_set ?_ (by dsimp only;omega) _))⟩
  go_tidy
  rw [HA.out]
  unfold noS
  clear hst hin
  grind [List.isEmpty_iff]
set_option maxRecDepth 100000 in
set_option maxHeartbeats 2000000 in
theorem specAsk_10 (a:PAsk) (w:World) (h1:a.op=10) (hz:a.nm.size ≤ 9223372036854775807) :
  Calls Tryz.prog 88 #[.agg #[.int .i64 a.op,.int .i64 a.n,.string a.nm,.int .i64 a.stop.kind,.int .i64 a.stop.fn,.int .i64 a.stop.line,.string a.stop.nm]] w fun e w'=>e=.returned (.bool (askOk a)) ∧ Below w.heap.size w w':=by
 obtain ⟨op,n,nm,st⟩:=a
 simp only at h1 hz ⊢
 subst h1
 obtain ⟨c,hst⟩:∃ c,noStop st=c:=⟨_,rfl⟩
 obtain ⟨b,hin⟩:∃ b,inB n 0 100=b:=⟨_,rfl⟩
 have HA:Hid (askOk ⟨10,n,nm,st⟩=(b && noS nm && c)):=qhq (by unfold askOk;simp [hst,hin])
 go_enter Tryz.func88,Tryz.ntmps88
 go_wp2_with (first | (go_at_call 137;refine (l1in_is _ _ _ _ hin).mono ?_;rintro e w' ⟨rfl,rfl⟩) | (go_at_call 139;refine (l5stop_is st _ hst).mono ?_;rintro e w1 ⟨rfl,hbl⟩) | (go_at_call 138;refine (spec_StopOk_un st _ hst).mono ?_;rintro e w1 ⟨rfl,hbl⟩))
 all_goals
  go_ret
  refine ⟨ret_bool ?_,(by repeat (with_reducible first | exact qrq _ _ | exact qtq (qaq (qrq _ _) _) hbl | refine qaq ?_ _ | refine bl_set ?_ (by dsimp only;omega) _))⟩
  go_tidy
  rw [HA.out]
  unfold noS
  clear hst hin
  grind [List.isEmpty_iff]
set_option maxRecDepth 100000 in
set_option maxHeartbeats 2000000 in
theorem specAsk_12 (a:PAsk) (w:World) (h1:a.op=12) (hz:a.nm.size ≤ 9223372036854775807) :
  Calls Tryz.prog 88 #[.agg #[.int .i64 a.op,.int .i64 a.n,.string a.nm,.int .i64 a.stop.kind,.int .i64 a.stop.fn,.int .i64 a.stop.line,.string a.stop.nm]] w fun e w'=>e=.returned (.bool (askOk a)) ∧ Below w.heap.size w w':=by
 obtain ⟨op,n,nm,st⟩:=a
 simp only at h1 hz ⊢
 subst h1
 obtain ⟨c,hst⟩:∃ c,noStop st=c:=⟨_,rfl⟩
 obtain ⟨b,hin⟩:∃ b,inB n 0 0=b:=⟨_,rfl⟩
 have HA:Hid (askOk ⟨12,n,nm,st⟩=(decide (n=0) && decide (0 < nm.size) && decide (nm.size ≤ 40) && c)):=qhq (by unfold askOk;simp [hst,inB];grind)
 go_enter Tryz.func88,Tryz.ntmps88
 go_wp2_with (first | (go_at_call 137;refine (l1in_is _ _ _ _ hin).mono ?_;rintro e w' ⟨rfl,rfl⟩) | (go_at_call 139;refine (l5stop_is st _ hst).mono ?_;rintro e w1 ⟨rfl,hbl⟩) | (go_at_call 138;refine (spec_StopOk_un st _ hst).mono ?_;rintro e w1 ⟨rfl,hbl⟩))
 all_goals
  go_ret
  refine ⟨ret_bool ?_,(by repeat (with_reducible first | exact qrq _ _ | exact qtq (qaq (qrq _ _) _) hbl | refine qaq ?_ _ | refine bl_set ?_ (by dsimp only;omega) _))⟩
  go_tidy
  have hA:=HA.out
  clear HA hst hin
  grind
set_option maxRecDepth 100000 in
set_option maxHeartbeats 2000000 in
theorem specAsk_else (a:PAsk) (w:World) (h1:¬ (1 ≤ a.op ∧ a.op ≤ 13)) (hz:a.nm.size ≤ 9223372036854775807) :
  Calls Tryz.prog 88 #[.agg #[.int .i64 a.op,.int .i64 a.n,.string a.nm,.int .i64 a.stop.kind,.int .i64 a.stop.fn,.int .i64 a.stop.line,.string a.stop.nm]] w fun e w'=>e=.returned (.bool (askOk a)) ∧ Below w.heap.size w w':=by
 obtain ⟨op,n,nm,st⟩:=a
 simp only at h1 hz ⊢
 have q1:(op == 1)=false:=by rw [beq_eq_false_iff_ne];omega
 have q2:(op == 2)=false:=by rw [beq_eq_false_iff_ne];omega
 have q3:(op == 3)=false:=by rw [beq_eq_false_iff_ne];omega
 have q4:(op == 4)=false:=by rw [beq_eq_false_iff_ne];omega
 have q5:(op == 5)=false:=by rw [beq_eq_false_iff_ne];omega
 have q6:(op == 6)=false:=by rw [beq_eq_false_iff_ne];omega
 have q7:(op == 7)=false:=by rw [beq_eq_false_iff_ne];omega
 have q8:(op == 8)=false:=by rw [beq_eq_false_iff_ne];omega
 have q9:(op == 9)=false:=by rw [beq_eq_false_iff_ne];omega
 have q10:(op == 10)=false:=by rw [beq_eq_false_iff_ne];omega
 have q11:(op == 11)=false:=by rw [beq_eq_false_iff_ne];omega
 have q12:(op == 12)=false:=by rw [beq_eq_false_iff_ne];omega
 have q13:(op == 13)=false:=by rw [beq_eq_false_iff_ne];omega
 have HA:Hid (askOk ⟨op,n,nm,st⟩=false):=qhq (by
  cases h:askOk ⟨op,n,nm,st⟩ with
  | false=>rfl
  | true=>exact absurd (askOk_op h) h1)
 clear h1 hz
 go_enter Tryz.func88,Tryz.ntmps88
 go_wp2_with fail
 go_ret
 exact ⟨ret_bool HA.out.symm,qaq (qrq _ _) _⟩
theorem l5askOk_calls (a:PAsk) (w:World) (hz:a.nm.size ≤ 9223372036854775807) :
  Calls Tryz.prog 88 #[.agg #[.int .i64 a.op,.int .i64 a.n,.string a.nm,.int .i64 a.stop.kind,.int .i64 a.stop.fn,.int .i64 a.stop.line,.string a.stop.nm]] w fun e w'=>e=.returned (.bool (askOk a)) ∧ Below w.heap.size w w':=by
 by_cases h:1 ≤ a.op ∧ a.op ≤ 13
 ·have hc:a.op=1 ∨ a.op=2 ∨ a.op=3 ∨ a.op=4 ∨ a.op=5 ∨ a.op=6 ∨ a.op=7 ∨ a.op=8 ∨ a.op=9 ∨ a.op=10 ∨ a.op=11 ∨ a.op=12 ∨ a.op=13:=by omega
  rcases hc with h | h | h | h | h | h | h | h | h | h | h | h | h
  ·exact specAsk_1 a w h hz
  ·exact specAsk_2 a w h hz
  ·exact specAsk_3 a w h hz
  ·exact specAsk_4 a w h hz
  ·exact specAsk_5 a w h hz
  ·exact specAsk_6 a w h hz
  ·exact specAsk_7 a w h hz
  ·exact specAsk_8 a w h hz
  ·exact specAsk_9 a w h hz
  ·exact specAsk_10 a w h hz
  ·exact specAsk_11 a w h hz
  ·exact specAsk_12 a w h hz
  ·exact specAsk_13 a w h hz
 ·exact specAsk_else a w h hz
end Go.Proofs.YtcklnjjbhngbcaaGreatDoor
