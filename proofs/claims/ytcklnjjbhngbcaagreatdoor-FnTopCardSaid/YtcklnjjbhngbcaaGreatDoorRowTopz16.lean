/- Lemmas and contracts of functions that the theorem of this claim leans on (texts I4, I10). -/
import Derived.Test.YtcklnjjbhngbcaaGreatDoorRowTopz00
import Derived.Test.YtcklnjjbhngbcaaGreatDoorRowTopz15
import Derived.Test.YtcklnjjbhngbcaaGreatDoorRowUnz02
import Derived.Maps.StringElems
namespace Go.Proofs.YtcklnjjbhngbcaaGreatDoor
open Go.RowKit Go.Proofs.Lens
theorem sound_eq (t:PTr):soundP t=((faultP t).1 == 0 && (faultP t).2 == 0):=by
 cases h:soundP t with
 | true=>rw [fault_of_sound h];rfl
 | false =>
  have:(faultP t).1 ≠ 0:=by simpa [soundP] using h
  simp [this]
set_option maxRecDepth 100000 in
set_option maxHeartbeats 400000 in
theorem sound_calls (v1 v2:Value) (t:PTr) (w:World) (h:RdTr w v1 v2 t) (hsm:smTr t) :
  Calls Tryz.prog 38 #[.agg #[v1,v2]] w fun e w'=>e=.returned (.bool (soundP t)) ∧ Below w.heap.size w w':=by
 have HT:=qhq h
 have HS:=qhq hsm
 have HQ:=qhq (sound_eq t)
 obtain ⟨⟨A1,c1,rfl,hn1,-⟩,⟨vv,⟨A2,c2,rfl,hn2,-⟩,-⟩⟩:=h
 clear hsm
 go_enter Tryz.func38,Tryz.ntmps38
 go_wp2_with fail
 refine (impl_TraceOk_calls _ _ t _ (HT.out.later (by repeat (with_reducible first | exact qrq _ _ | exact HL.out | refine qnq ?_ _ | refine bl_drew ?_ | refine qaq ?_ _ | refine bl_set ?_ (by dsimp only;omega) _))) HS.out).mono ?_;rintro e w1 ⟨rfl,hb⟩
 have HB:=qhq (qtq (qaq (qrq _ w) _) hb)
 clear hb
 go_wp2
 all_goals
  go_ret
  refine ⟨ret_bool ?_,HB.out⟩
  have:=HQ.out
  rw [this]
  simp [*]
theorem sound_is (v1 v2:Value) (t:PTr) (w:World) {b:Bool} (h:RdTr w v1 v2 t) (hsm:smTr t) (hs:soundP t=b) :
  Calls Tryz.prog 38 #[.agg #[v1,v2]] w fun e w'=>e=.returned (.bool b) ∧ Below w.heap.size w w':=hs ▸ sound_calls v1 v2 t w h hsm
theorem inside_is (x a b:Int) (w:World) {q:Bool} (h:inB x a b=q):Calls Tryz.prog 116 #[.int .i64 x,.int .i64 a,.int .i64 b] w fun e w'=>e=.returned (.bool q) ∧ w=w':=h ▸ inside_calls x a b w
set_option maxRecDepth 100000 in
set_option maxHeartbeats 400000 in
theorem at_bad (v1 v2:Value) (t:PTr) (k:Int) (w:World) (h:RdTr w v1 v2 t) (hsm:smTr t) (hg:goodP t k=false) :
  Calls Tryz.prog 80 #[.agg #[v1,v2],.int .i64 k] w fun e w'=>e=.returned (.pointer none) ∧ Below w.heap.size w w':=by
 have HT:=qhq h
 have HS:=qhq hsm
 obtain ⟨⟨A1,c1,rfl,hn1,-⟩,⟨vv,⟨A2,c2,rfl,hn2,-⟩,-⟩⟩:=h
 clear hsm
 cases hs:soundP t with
 | false =>
  have HQ:=qhq hs
  clear hs hg
  go_enter Tryz.func80,Tryz.ntmps80
  go_wp2_with fail
  refine (sound_is _ _ t _ (HT.out.later (by repeat (with_reducible first | exact qrq _ _ | exact HL.out | refine qnq ?_ _ | refine bl_drew ?_ | refine qaq ?_ _ | refine bl_set ?_ (by dsimp only;omega) _))) HS.out HQ.out).mono ?_;rintro e w1 ⟨rfl,hb⟩
  have HB:=qhq (qtq (qaq (qrq _ w) _) hb)
  clear hb
  go_wp2
  go_ret
  exact ⟨rfl,HB.out⟩
 | true =>
  have hp:placeOk t k=false:=by unfold goodP at hg;rw [hs] at hg;exact hg
  have HQ:=qhq hs
  have HP:=qhq hp
  clear hs hg hp
  go_enter Tryz.func80,Tryz.ntmps80
  go_wp2_with fail
  refine (sound_is _ _ t _ (HT.out.later (by repeat (with_reducible first | exact qrq _ _ | exact HL.out | refine qnq ?_ _ | refine bl_drew ?_ | refine qaq ?_ _ | refine bl_set ?_ (by dsimp only;omega) _))) HS.out HQ.out).mono ?_;rintro e w1 ⟨rfl,hb⟩
  have HX:=qhq ((BoxAt.new w [.slice A1 t.fns.length c1,.slice A2 t.moms.length c2] 26).later hb)
  have HB:=qhq (qtq (qaq (qrq _ w) _) hb)
  clear hb
  obtain ⟨x0,x1⟩:=HX.out.open2
  go_wp2_with fail
  refine (inside_is _ _ _ _ HP.out).mono ?_;rintro e w2 ⟨rfl,rfl⟩
  go_wp2
  go_ret
  exact ⟨rfl,HB.out⟩
theorem goodP_true {t:PTr} {k:Int} (h:goodP t k=true):soundP t=true ∧ placeOk t k=true ∧ -1 ≤ k ∧ k ≤ t.moms.length:=by
 unfold goodP at h
 rw [Bool.and_eq_true] at h
 exact ⟨h.1,h.2,inB_true.1 h.2⟩
def AtPost (w:World) (v1 v2:Value) (s:PS) (e:Ending) (w':World):Prop:=∃ g cl f,e=.returned (.pointer (some ⟨g,0,none⟩)) ∧ IsW w' g v1 v2 s cl f ∧ w.heap.size ≤ g ∧ Below w.heap.size w w'
set_option maxRecDepth 100000 in
set_option maxHeartbeats 2000000 in
theorem at_good (v1 v2:Value) (t:PTr) (k:Int) (w:World) (h:RdTr w v1 v2 t) (hsm:smTr t) (hg:goodP t k=true) :
  Calls Tryz.prog 80 #[.agg #[v1,v2],.int .i64 k] w (AtPost w v1 v2 (atP t k)):=by
 have HT:=qhq h
 have HS:=qhq hsm
 obtain ⟨⟨A1,c1,rfl,hn1,-⟩,⟨vv,⟨A2,c2,rfl,hn2,-⟩,-⟩⟩:=h
 obtain ⟨⟨hs1,-⟩,⟨hs2,-⟩⟩:=hsm
 obtain ⟨g1,g2,g3,g4⟩:=goodP_true hg
 have HQ:=qhq g1
 have HP:=qhq g2
 have SO:=qhq (sound_iff g1)
 clear hg g1 g2
 go_enter Tryz.func80,Tryz.ntmps80
 go_wp2_with fail
 refine (sound_is _ _ t _ (HT.out.later (by repeat (with_reducible first | exact qrq _ _ | exact HL.out | refine qnq ?_ _ | refine bl_drew ?_ | refine qaq ?_ _ | refine bl_set ?_ (by dsimp only;omega) _))) HS.out HQ.out).mono ?_;rintro e w1 ⟨rfl,hb⟩
 have HX:=qhq ((BoxAt.new w [.slice A1 t.fns.length c1,.slice A2 t.moms.length c2] 26).later hb)
 have HB:=qhq (qtq (qaq (qrq _ w) _) hb)
 clear hb
 obtain ⟨x0,x1⟩:=HX.out.open2
 have hw:=World.block_lt_of_cell? _ _ x0
 go_wp2_with fail
 refine (inside_is _ _ _ _ HP.out).mono ?_;rintro e w2 ⟨rfl,rfl⟩
 go_wp2_with fail
 refine (newWalk_calls _ _ _).mono ?_
 rintro e w2 ⟨g,f,rfl,hW,hg,hb⟩
 have HW:=qhq hW
 have HG:Hid (w.heap.size + 1 ≤ g):=qhq (by omega)
 clear x0 x1 hw hg hW
 replace HX:=qhq (HX.out.later hb);replace HB:=qhq (qtq HB.out hb);clear hb
 go_wp2_with fail
 go_loopw [6] (fun i wr=>∃ (n:Nat) (cl:List PFr) (f:Nat → Value),n ≤ t.moms.length ∧ (n:Int) ≤ k + 1 ∧ i=.int .i64 n ∧ IsW wr g (.slice A1 t.fns.length c1) (.slice A2 t.moms.length c2) (stN t.moms n) cl f ∧ Below w.heap.size w wr ∧
  BoxAt wr w.heap.size [.slice A1 t.fns.length c1,.slice A2 t.moms.length c2]) (fun i _=>t.moms.length - (intOf i).toNat)
 case atStart=>exact ⟨0,[],f,Nat.zero_le _,by omega,rfl,HW.out,HB.out,HX.out⟩
 case round =>
  obtain ⟨n,cl,f,hn,hn2,rfl,hW,hb,hx⟩:=hrel
  clear HW HB HX
  have HW:=qhq hW
  have HB:=qhq hb
  have HX:=qhq hx
  clear hW hb hx
  obtain ⟨x0,x1⟩:=HX.out.open2
  by_cases h1:(n:Int) ≤ k
  ·by_cases h2:n < t.moms.length
   ·have HI:=qhq (SO.out.inv n hn)
    go_wp2_with fail
    refine (step_calls g _ _ _ _ _ t.moms n t.fns.length _ HW.out (HT.out.2.later HB.out) h2 HI.out (SO.out.moms n h2) (SO.out.moves n h2)).mono ?_
    rintro e w3 ⟨rfl,⟨f',hW3⟩,hgb⟩
    have HX3:=qhq (BoxAt.gb HX.out hgb (by have:=HG.out;omega))
    have HB3:=qhq (bl_grown HB.out hgb (by have:=HG.out;omega))
    have HW3:=qhq hW3
    clear hgb hW3 x0 x1
    go_wp2
    go_roundw
    case rel=>exact ⟨n + 1,_,f',by omega,by omega,by go_num,HW3.out,HB3.out,HX3.out⟩
    case measure=>simp [intOf];omega
   ·have hd:decide ((n:Int) < (t.moms.length:Int))=false:=by simp;omega
    go_wp2
    go_ret
    have e:atP t k=stN t.moms n:=by unfold atP atN;rw [show min (k + 1).toNat t.moms.length=n by omega]
    exact ⟨g,cl,f,rfl,by rw [e];exact HW.out,by have:=HG.out;omega,HB.out⟩
  ·go_wp2
   go_ret
   have e:atP t k=stN t.moms n:=by unfold atP atN;rw [show min (k + 1).toNat t.moms.length=n by omega]
   exact ⟨g,cl,f,rfl,by rw [e];exact HW.out,by have:=HG.out;omega,HB.out⟩
set_option maxRecDepth 100000 in
set_option maxHeartbeats 400000 in
theorem impl_RunningAt_calls (v1 v2:Value) (t:PTr) (k:Int) (w:World) (h:RdTr w v1 v2 t) (hsm:smTr t) :
  Calls Tryz.prog 32 #[.agg #[v1,v2],.int .i64 k] w fun e w'=>e=.returned (.int .i64 (runP t k)) ∧ Below w.heap.size w w':=by
 have HT:=qhq h
 have HS:=qhq hsm
 obtain ⟨⟨A1,c1,rfl,hn1,-⟩,⟨vv,⟨A2,c2,rfl,hn2,-⟩,-⟩⟩:=h
 clear hsm
 cases hg:goodP t k with
 | false =>
  have HR:Hid (runP t k=-1):=qhq (by unfold runP;rw [hg];rfl)
  have HG:=qhq hg
  clear hg
  go_enter Tryz.func32,Tryz.ntmps32
  go_wp2_with fail
  refine (at_bad _ _ t k _ (HT.out.later (by repeat (with_reducible first | exact qrq _ _ | exact HL.out | refine qnq ?_ _ | refine bl_drew ?_ | refine qaq ?_ _ | refine bl_set ?_ (by dsimp only;omega) _))) HS.out HG.out).mono ?_;rintro e w1 ⟨rfl,hb⟩
  have HB:=qhq (qtq (qaq (qrq _ w) _) hb)
  clear hb
  go_wp2
  go_ret
  exact ⟨ret_int HR.out.symm,HB.out⟩
 | true =>
  have HR:Hid (runP t k=(atP t k).cur):=qhq (by unfold runP;rw [hg];rfl)
  have HG:=qhq hg
  clear hg
  go_enter Tryz.func32,Tryz.ntmps32
  go_wp2_with fail
  refine (at_good _ _ t k _ (HT.out.later (by repeat (with_reducible first | exact qrq _ _ | exact HL.out | refine qnq ?_ _ | refine bl_drew ?_ | refine qaq ?_ _ | refine bl_set ?_ (by dsimp only;omega) _))) HS.out HG.out).mono ?_;rintro e w1 ⟨g,cl,f,rfl,hW,hg,hb⟩
  have HB:=qhq (qtq (qaq (qrq _ w) _) hb)
  have c2:w1.cell? ⟨g,2,none⟩=some (.int .i64 (atP t k).cur):=(hW.blk.cell (by omega)).trans (by rw [hW.cur])
  clear hb hW
  go_wp2
  go_ret
  exact ⟨ret_int HR.out.symm,HB.out⟩
theorem m_str:MTy Tryz.prog 246 3 9 (fun x:Int=>.int .i64 x) ok64 (fun y:ByteArray=>.string y) (fun y=>.string y.data.toList) (fun y=>y.size ≤ maxLen) ⟨#[]⟩ where
 keyed:=Go.Maps.int_keyed Tryz.underlying3
 und:=Tryz.underlying246
 key x hx:=⟨_,Go.Maps.keyOf_int_mk Tryz.underlying3 (wf64 hx)⟩
 inj x y h:=by simpa using h
 elem y hy:=Go.plainElem_string Tryz.underlying9 hy
 back v y ps h:=by
  obtain ⟨s,rfl,h2,_⟩:=Go.plainElem_string_inv Tryz.underlying9 h
  simp only [Prod.mk.injEq,DataW.lit.injEq,Lit.string.injEq] at h2
  rw [Go.WideShapes.bytes_inj h2.1]
 zero w:=by kernel_rfl
 zok:=by decide
abbrev OwMs (w:World) (b n:Nat) (M:Int → Option ByteArray):Prop:=OwM Tryz.prog 3 9 (fun x:Int=>.int .i64 x) ok64 (fun y:ByteArray=>.string y.data.toList) w b n M
def ShPost (w:World) (L:List PFr) (e:Ending) (w':World):Prop:=∃ p,e=.returned (.pointer p) ∧ FrL w' p L ∧ Below w.heap.size w w'
set_option maxRecDepth 100000 in
set_option maxHeartbeats 2000000 in
theorem shown_calls (g:Nat) (v1 v2:Value) (s:PS) (cl L:List PFr) (f:Nat → Value) (w:World) (h:IsW w g v1 v2 s cl f) (h0:0 ≤ s.cur) (h1:s.cur ≤ 100) (hL:(cl=[] → L=s.top) ∧ (cl ≠ [] → L=cl)) :
  Calls Tryz.prog 169 #[.pointer (some ⟨g,0,none⟩)] w (ShPost w L):=by
 obtain ⟨c,ec,hc⟩:=h.cl
 obtain ⟨hL1,hL2⟩:=hL
 have xc:w.cell? ⟨g,104,none⟩=some (.pointer c):=(h.blk.cell (by omega)).trans (by rw [ec])
 cases cl with
 | nil =>
  obtain rfl:c=none:=hc
  obtain rfl:L=s.top:=hL1 rfl
  obtain ⟨p,cp,hl⟩:=h.top h0 h1
  have cc:w.cell? ⟨g,2,none⟩=some (.int .i64 s.cur):=(h.blk.cell (by omega)).trans (by rw [h.cur])
  have hcx:s.cur < 101:=by omega
  have HL:=qhq hl
  clear h hL1 hL2 hl ec
  go_enter Tryz.func169,Tryz.ntmps169
  go_upto_region 3 with fail
  go_quiet (fail)
  go_wp2
  go_ret
  exact ⟨_,rfl,HL.out.later (qnq (qrq _ _) _),qnq (qrq _ _) _⟩
 | cons fr r =>
  obtain rfl:L=fr :: r:=hL2 (by simp)
  have HL:=qhq hc
  obtain ⟨b,nx,rfl,-,-⟩:=hc
  clear h hL1 hL2 ec
  go_enter Tryz.func169,Tryz.ntmps169
  go_wp2
  go_ret
  exact ⟨_,rfl,HL.out,qrq _ _⟩
theorem shown_list {t:PTr} (h:Sound t) {n:Nat} (hn:n < t.moms.length) :
  (closedP (stN t.moms n) (elt t.moms n)=[] → (shownS t.moms n).top=(stN t.moms (n + 1)).top) ∧ (closedP (stN t.moms n) (elt t.moms n) ≠ [] → (shownS t.moms n).top=closedP (stN t.moms n) (elt t.moms n)):=by
 unfold closedP shownS
 by_cases k3:(elt t.moms n).kind=3
 ·rw [if_pos k3,if_pos k3]
  exact ⟨fun hh=>absurd hh (chk_ne (h.moves n hn) (.inr k3)),fun _=>rfl⟩
 ·rw [if_neg k3,if_neg k3]
  exact ⟨fun _=>rfl,fun hh=>absurd rfl hh⟩
theorem shown_some {ms:List PMom} {n:Nat} {f:PFr} {r:List PFr} (h:(shownS ms n).top=f :: r):shownP ms n=some ((shownS ms n).cur,f):=by unfold shownP;rw [h]
theorem shown_none {ms:List PMom} {n:Nat} (h:(shownS ms n).top=[]):shownP ms n=none:=by unfold shownP;rw [h]
def hdC (ms:List PMom) (s:PStop) (i _j:Nat):Value:=.bool (holdsP ms s i)
def hdN (ms:List PMom) (s:PStop) (n i _j:Nat):Value:=.bool (decide (i < n) && holdsP ms s i)
theorem hdN_set {w:World} {lo b cap n N:Nat} {ms:List PMom} {s:PStop} {u:Bool} (h:OwR w lo 4 1 N (hdN ms s n) (.slice (some ⟨b,0,none⟩) N cap)) (hn:n < N) (hu:holdsP ms s n=u) :
  OwR (w.setCell ⟨b,n,none⟩ (.bool u)) lo 4 1 N (hdN ms s (n + 1)) (.slice (some ⟨b,0,none⟩) N cap):=by
 have:=h.set (C':=hdN ms s (n + 1)) (i0:=n) (j0:=0) (u:=.bool u) hn (by omega) (fun i j hi hj hne=>by
  unfold hdN
  have:i ≠ n:=by omega
  have e:decide (i < n + 1)=decide (i < n):=by by_cases h1:i < n <;> simp [h1] <;> omega
  rw [e]) (by unfold hdN;simp [hu])
 simpa using this
theorem hdN_skip {w:World} {lo n N:Nat} {ms:List PMom} {s:PStop} {v:Value} (h:OwR w lo 4 1 N (hdN ms s n) v) (hu:holdsP ms s n=false):OwR w lo 4 1 N (hdN ms s (n + 1)) v :=
 h.congr fun i hi j hj=>by
  unfold hdN
  by_cases h1:i=n
  ·rw [h1,hu];simp
  ·have e:decide (i < n + 1)=decide (i < n):=by by_cases h2:i < n <;> simp [h2] <;> omega
   rw [e]
structure WatOk (ms:List PMom) (s:PStop) (n:Nat) (L:Int → Option ByteArray) (H:Int → Option Int):Prop where
 wat:s.kind=3 → L=watN ms s.nm s.fn n
 had:∀ x,((H x).getD 0=0 ↔ L x=none) ∧ 0 ≤ (H x).getD 0 ∧ (H x).getD 0 ≤ n
theorem watOk0 (ms:List PMom) (s:PStop):WatOk ms s 0 (fun _=>none) (fun _=>none):=⟨fun _=>rfl,fun x=>by simp⟩
theorem WatOk.skip {ms:List PMom} {s:PStop} {n:Nat} {L:Int → Option ByteArray} {H:Int → Option Int} (h:WatOk ms s n L H) (hk:s.kind=3 → watN ms s.nm s.fn (n + 1)=watN ms s.nm s.fn n):WatOk ms s (n + 1) L H :=
 ⟨fun k=>by rw [hk k];exact h.wat k,fun x=>by have:=h.had x;refine ⟨this.1,this.2.1,by omega⟩⟩
theorem WatOk.put {ms:List PMom} {s:PStop} {n:Nat} {L:Int → Option ByteArray} {H:Int → Option Int} {tk:Int} {f:PFr} {tx:ByteArray} (h:WatOk ms s n L H) (hs:shownP ms n=some (tk,f)) (hv:valP (elt ms n).vars s.nm=some tx) (hf:f.fn=s.fn) :
  WatOk ms s (n + 1) (setM L f.frm tx) (setM H f.frm ((H f.frm).getD 0 + 1)):=by
 refine ⟨fun k=>?_,fun x=>?_⟩
 ·funext x
  simp only [watN,watStep,hs,hv]
  unfold setM
  rw [h.wat k]
  by_cases hx:x=f.frm
  ·rw [if_pos hx,if_pos ⟨hf,hx⟩]
  ·rw [if_neg hx,if_neg (fun hh=>hx hh.2)]
 ·have h1:=h.had x
  have h2:=h.had f.frm
  unfold setM
  by_cases hx:x=f.frm
  ·rw [if_pos hx,if_pos hx]
   simp only [Option.getD_some]
   refine ⟨⟨fun hh=>by omega,fun hh=>by cases hh⟩,by omega,by omega⟩
  ·rw [if_neg hx,if_neg hx]
   exact ⟨h1.1,h1.2.1,by omega⟩
theorem mom_valP {t:PTr} (hsm:smTr t) {n:Nat} (hn:n < t.moms.length) {nm tx:ByteArray} (h:valP (elt t.moms n).vars nm=some tx):tx.size ≤ 1048576:=by
 obtain ⟨-,-,h2⟩:=hsm
 obtain ⟨-,-,h3⟩:=h2 n hn
 generalize (elt t.moms n).vars=vs at h h3
 induction vs with
 | nil=>cases h
 | cons v r ih =>
  have h30:=h3 0 (by simp)
  simp only [valP] at h
  cases hr:valP r nm with
  | some x =>
   rw [hr] at h
   cases h
   exact ih hr fun i hi=>by have:=h3 (i + 1) (by simp;omega);simpa [elt] using this
  | none =>
   rw [hr] at h
   simp only at h
   split at h
   ·cases h
    have:smVar v:=by simpa [elt] using h30
    exact this.2
   ·cases h
theorem stopOk_kind {s:PStop} (h:stopOk s=true):(s.kind=1 ∨ s.kind=2 ∨ s.kind=3 ∨ s.kind=4) ∧ 0 ≤ s.fn ∧ s.fn ≤ 299:=by
 unfold stopOk at h
 simp only [Bool.and_eq_true] at h
 obtain ⟨h1,h2⟩:=h
 refine ⟨?_,(inB_true.1 h1)⟩
 by_cases k1:s.kind=1
 ·exact .inl k1
 by_cases k2:s.kind=2
 ·exact .inr (.inl k2)
 by_cases k3:s.kind=3
 ·exact .inr (.inr (.inl k3))
 by_cases k4:s.kind=4
 ·exact .inr (.inr (.inr k4))
 rw [if_neg k1,if_neg k2,if_neg k3,if_neg k4] at h2
 cases h2
set_option maxRecDepth 100000 in
set_option maxHeartbeats 8000000 in
theorem holds_calls (v1 v2:Value) (t:PTr) (s:PStop) (w:World) (h:RdTr w v1 v2 t) (hsm:smTr t) (hs:soundP t=true) (hst:stopOk s=true) :
  Calls Tryz.prog 156 #[.agg #[v1,v2],stopV s] w (OwRet w 4 1 t.moms.length (hdC t.moms s)):=by
 have HT:=qhq h
 have HS:=qhq hsm
 obtain ⟨⟨A1,c1,rfl,hn1,-⟩,⟨vv,⟨A2,c2,rfl,hn2,-⟩,-⟩⟩:=h
 have hso:=sound_iff hs
 obtain ⟨nf0,nf1,nm1⟩:=sound_fns hso
 have SO:=qhq hso
 obtain ⟨hkd,hf0,hf1⟩:=stopOk_kind hst
 obtain ⟨C,hC,hc,hmk⟩:=make_law (P:=Tryz.prog) 165 4 Tryz.underlying165 i_bool t.moms.length (by omega) (by omega)
 have hmm:=@run_makeMap Tryz.prog
 have HC:=qhq hC
 have Hc:=qhq hc
 have HKD:=qhq hkd
 unfold stopV
 clear hs hsm hso hC hc hst hkd
 go_enter Tryz.func156,Tryz.ntmps156
 go_upto_region 2 with fail
 generalize hW:World.alloc (World.alloc w _) _=W
 have hX:Blk W w.heap.size 26 2 (fun j=>#[Value.slice A1 t.fns.length c1,.slice A2 t.moms.length c2].getD j undef):=by rw [← hW];exact (Blk.made w #[.slice A1 t.fns.length c1,.slice A2 t.moms.length c2] 26).later (by repeat (with_reducible first | exact qrq _ _ | exact HL.out | refine qnq ?_ _ | refine bl_drew ?_ | refine qaq ?_ _ | refine bl_set ?_ (by dsimp only;omega) _))
 have hS:Blk W (w.heap.size + 1) 45 4 (fun j=>#[Value.int .i64 s.kind,.int .i64 s.fn,.int .i64 s.line,.string s.nm].getD j undef):=by
  rw [← hW]
  have:=Blk.made (w.alloc (.cells #[.slice A1 t.fns.length c1,.slice A2 t.moms.length c2] 26)) #[.int .i64 s.kind,.int .i64 s.fn,.int .i64 s.line,.string s.nm] 45
  rw [World.size_alloc] at this
  exact this
 have hB:Below w.heap.size w W:=by rw [← hW];exact (by repeat (with_reducible first | exact qrq _ _ | exact HL.out | refine qnq ?_ _ | refine bl_drew ?_ | refine qaq ?_ _ | refine bl_set ?_ (by dsimp only;omega) _))
 have hsz:W.heap.size=w.heap.size + 1 + 1:=by rw [← hW];simp
 clear hW
 have hO:OwR (W.alloc (.cells C 4)) W.heap.size 4 1 t.moms.length (hdN t.moms s 0) (.slice (some ⟨W.heap.size,0,none⟩) t.moms.length t.moms.length) :=
  OwR.made HC.out Hc.out (by rfl) (by simp only [maxLen];omega) _ (fun i hi j hj=>by
   obtain rfl:j=0:=by omega
   simp only [hdN,Nat.not_lt_zero,decide_false,Bool.false_and]
   rfl)
 rw [hsz] at hO
 have hX2:=hX.alloc (.cells C 4)
 have hS2:=hS.alloc (.cells C 4)
 have hB2:=qaq hB (.cells C 4)
 generalize hW1:W.alloc (.cells C 4)=W1 at hO hX2 hS2 hB2 ⊢
 have hs1:W1.heap.size=w.heap.size + 1 + 1 + 1:=by rw [← hW1];simp;omega
 have hM:OwMs (W1.alloc (.map #[] 0)) W1.heap.size 0 (fun _=>none):=OwM.made W1
 have hN:OwMi ((W1.alloc (.map #[] 0)).alloc (.map #[] 0)) (W1.heap.size + 1) 0 (fun _=>none):=by
  have:=@OwM.made Int Int Tryz.prog 3 3 (fun x:Int=>.int .i64 x) ok64 (fun y=>.int .i64 y) (W1.alloc (.map #[] 0))
  rw [World.size_alloc] at this
  exact this
 rw [hs1] at hM hN
 have hbl:Below W1.heap.size W1 ((W1.alloc (.map #[] 0)).alloc (.map #[] 0)):=qaq (qaq (qrq _ _) _) _
 have HO:=qhq (hO.later hbl)
 have HX:=qhq (hX2.later hbl)
 have HSB:=qhq (hS2.later hbl)
 have HB:=qhq (qtq hB2 hbl)
 have HM:=qhq (hM.later (qaq (qrq _ _) (.map #[] 0)))
 have HN:=qhq hN
 clear hW1 hO hX2 hS2 hB2 hX hS hB hM hN hbl
 go_upto_region 4 with fail
 generalize World.alloc (World.alloc W1 _) _=W2 at *
 have x0:W2.cell? ⟨w.heap.size,0,none⟩=some (.slice A1 t.fns.length c1):=HX.out.cell (j:=0) (by simp)
 have x1:W2.cell? ⟨w.heap.size,1,none⟩=some (.slice A2 t.moms.length c2):=HX.out.cell (j:=1) (by simp)
 generalize hgo:w.heap.size + 1 + 1=go at *
 go_wp2_with fail
 refine (newWalk_calls _ _ _).mono ?_;rintro e w2 ⟨g,f,rfl,hW,hgs,hb⟩
 have HW:=qhq hW
 have HGS:Hid (go < g):=qhq (by have:=HO.out.blt;omega)
 replace HM:=qhq (HM.out.later hb)
 replace HN:=qhq (HN.out.later hb)
 clear hW hgs x0 x1
 replace HB:=qhq (qtq HB.out hb);replace HX:=qhq (HX.out.later hb);replace HO:=qhq (HO.out.later hb);replace HSB:=qhq (HSB.out.later hb);clear hb
 have x1:w2.cell? ⟨w.heap.size,1,none⟩=some (.slice A2 t.moms.length c2):=HX.out.cell (j:=1) (by simp)
 go_wp2_with fail
 clear x1
 go_loopw [25] (fun i wr=>∃ (n mn hn:Nat) (cl:List PFr) (f:Nat → Value) (L:Int → Option ByteArray) (H:Int → Option Int),n ≤ t.moms.length ∧ i=.int .i64 n ∧
  IsW wr g (.slice A1 t.fns.length c1) (.slice A2 t.moms.length c2) (stN t.moms n) cl f ∧
  OwR wr go 4 1 t.moms.length (hdN t.moms s n) (.slice (some ⟨go,0,none⟩) t.moms.length t.moms.length) ∧
  OwMs wr (go + 1) mn L ∧ mn ≤ n ∧ OwMi wr (go + 1 + 1) hn H ∧ hn ≤ n ∧ WatOk t.moms s n L H ∧ Below w.heap.size w wr ∧
  Blk wr w.heap.size 26 2 (fun j=>#[Value.slice A1 t.fns.length c1,.slice A2 t.moms.length c2].getD j undef) ∧
  Blk wr (w.heap.size + 1) 45 4 (fun j=>#[Value.int .i64 s.kind,.int .i64 s.fn,.int .i64 s.line,.string s.nm].getD j undef)) (fun i _=>t.moms.length - (intOf i).toNat)
 case atStart=>exact ⟨0,0,0,[],f,_,_,Nat.zero_le _,rfl,HW.out,HO.out,HM.out,Nat.le_refl _,HN.out,Nat.le_refl _,watOk0 _ _,HB.out,HX.out,HSB.out⟩
 case round =>
  obtain ⟨n,mn,hn,cl,f,L,H,hnn,rfl,hW,hO,hM,hmn,hN,hhn,hwt,hB,hX,hSB⟩:=hrel
  clear HW HO HB HX HM HN HSB
  have HW:=qhq hW
  have HO:=qhq hO
  have HB:=qhq hB
  have HX:=qhq hX
  have HM:=qhq hM
  have HN:=qhq hN
  have HSB:=qhq hSB
  have HWT:=qhq hwt
  clear hW hO hB hX hM hN hSB hwt
  by_cases h2:n < t.moms.length
  ·obtain ⟨b,o,vk,hA,d0,d1,d2,d3,d4,d5,hvk⟩:=rd_moment HT.out.2 h2
   replace d0:=qcq HB.out d0
   replace d1:=qcq HB.out d1
   replace d2:=qcq HB.out d2
   replace d3:=qcq HB.out d3
   replace d4:=qcq HB.out d4
   replace d5:=qcq HB.out d5
   have HVK:=qhq hvk
   obtain ⟨Av,cv,rfl,-⟩:=hvk
   subst hA
   go_upto_region 8 with fail
   have HMB:Hid (Blk (wr.alloc _) wr.heap.size 114 6 _):=qhq (Blk.made wr #[.int .i64 (elt t.moms n).kind,.int .i64 (elt t.moms n).task,.int .i64 (elt t.moms n).fn,.int .i64 (elt t.moms n).line,.string (elt t.moms n).text,.slice Av (elt t.moms n).vars.length cv] 114)
   generalize hW2:World.alloc wr _=W3 at HMB ⊢
   have hbl:Below wr.heap.size wr W3:=by rw [← hW2];exact qaq (qrq _ _) _
   have hmb:w.heap.size + 1 < wr.heap.size:=HSB.out.lt
   have hgob:go < wr.heap.size:=HO.out.blt.2
   clear hW2 d0 d1 d2 d3 d4 d5
   have HI:=qhq (SO.out.inv n hnn)
   replace HM:=qhq (HM.out.later hbl)
   replace HN:=qhq (HN.out.later hbl)
   replace HB:=qhq (qtq HB.out hbl);replace HX:=qhq (HX.out.later hbl);replace HO:=qhq (HO.out.later hbl);replace HW:=qhq (HW.out.later hbl);replace HSB:=qhq (HSB.out.later hbl);clear hbl
   go_wp2_with fail
   refine (step_calls g _ _ _ _ _ t.moms n t.fns.length _ HW.out (HT.out.2.later HB.out) h2 HI.out (SO.out.moms n h2) (SO.out.moves n h2)).mono ?_
   rintro e w3 ⟨rfl,⟨f',hW3⟩,hgb⟩
   have hmv:Mv [146] w.heap.size W3 w3:=(Mv.refl _ _ _).grown HB.out.size hgb (fun b hb=>by cases hb;exact ⟨by have:=HGS.out;omega,_,_,_,HW.out.blk,by decide⟩)
   replace HMB:=qhq (HMB.out.mv hmv (by decide))
   replace HX:=qhq (HX.out.mv hmv (by decide))
   replace HSB:=qhq (HSB.out.mv hmv (by decide))
   replace HO:=qhq (HO.out.mv hmv (by decide))
   replace HM:=qhq (HM.out.mv hmv)
   replace HN:=qhq (HN.out.mv hmv)
   replace HB:=qhq (bl_grown HB.out hgb (by have:=HGS.out;omega))
   clear HW
   have HW:=qhq hW3
   clear hmv hW3 hgb
   have y0:w3.cell? ⟨wr.heap.size,0,none⟩=some (.int .i64 (elt t.moms n).kind):=HMB.out.cell (j:=0) (by simp)
   have y1:w3.cell? ⟨wr.heap.size,1,none⟩=some (.int .i64 (elt t.moms n).task):=HMB.out.cell (j:=1) (by simp)
   have y2:w3.cell? ⟨wr.heap.size,2,none⟩=some (.int .i64 (elt t.moms n).fn):=HMB.out.cell (j:=2) (by simp)
   have y3:w3.cell? ⟨wr.heap.size,3,none⟩=some (.int .i64 (elt t.moms n).line):=HMB.out.cell (j:=3) (by simp)
   have y4:w3.cell? ⟨wr.heap.size,4,none⟩=some (.string (elt t.moms n).text):=HMB.out.cell (j:=4) (by simp)
   have y5:w3.cell? ⟨wr.heap.size,5,none⟩=some (.slice Av (elt t.moms n).vars.length cv):=HMB.out.cell (j:=5) (by simp)
   have s0:w3.cell? ⟨w.heap.size + 1,0,none⟩=some (.int .i64 s.kind):=HSB.out.cell (j:=0) (by simp)
   have s1:w3.cell? ⟨w.heap.size + 1,1,none⟩=some (.int .i64 s.fn):=HSB.out.cell (j:=1) (by simp)
   have s2:w3.cell? ⟨w.heap.size + 1,2,none⟩=some (.int .i64 s.line):=HSB.out.cell (j:=2) (by simp)
   have s3:w3.cell? ⟨w.heap.size + 1,3,none⟩=some (.string s.nm):=HSB.out.cell (j:=3) (by simp)
   have z2:=HO.out.free n
   have z3:w3.cell? ⟨go,n,none⟩=some (.bool false):=by
    have:=HO.out.cells h2 (j:=0) (by omega)
    simpa [hdN] using this
   have h2':(n:Int) < (t.moms.length:Int):=by omega
   by_cases k3:s.kind=3
   ·have hq1:(s.kind == 1)=false:=by simp [k3]
    have hq2:(s.kind == 2)=false:=by simp [k3]
    have hq4:(s.kind == 4)=false:=by simp [k3]
    have hq3:(s.kind == 3)=true:=by simp [k3]
    have HK3:=qhq k3
    clear k3
    have HMV:Hid ((wr.heap.size:Nat) < w3.heap.size):=qhq HMB.out.lt
    have HSI:=SO.out.inv (n + 1) (by omega)
    have HSL:=qhq (shown_list SO.out h2)
    have HRV:Hid (RdVars w3 (.slice Av (elt t.moms n).vars.length cv) (elt t.moms n).vars):=qhq (HVK.out.later HB.out)
    clear y0 y1 y2 y3 y4 y5 s0 s1 s2 s3 z2 z3
    obtain ⟨LL,hLL⟩:∃ LL,(shownS t.moms n).top=LL:=⟨_,rfl⟩
    rw [hLL] at HSL
    have HLL:=qhq hLL
    clear hLL
    have s0:w3.cell? ⟨w.heap.size + 1,0,none⟩=some (.int .i64 s.kind):=HSB.out.cell (j:=0) (by simp)
    go_wp2_with fail
    refine (shown_calls g _ _ _ _ LL _ _ HW.out HSI.lo HSI.hi HSL.out).mono ?_
    rintro e w4 ⟨pp,rfl,hl,hb⟩
    clear HSI HSL s0
    have HFL:=qhq hl
    replace HM:=qhq (HM.out.later hb)
    replace HN:=qhq (HN.out.later hb)
    clear hl
    replace HB:=qhq (qtq HB.out hb);replace HX:=qhq (HX.out.later hb);replace HO:=qhq (HO.out.later hb);replace HW:=qhq (HW.out.later hb);replace HSB:=qhq (HSB.out.later hb);replace HMB:=qhq (HMB.out.later hb);replace HRV:=qhq (HRV.out.later hb);clear hb
    have y0:w4.cell? ⟨wr.heap.size,0,none⟩=some (.int .i64 (elt t.moms n).kind):=HMB.out.cell (j:=0) (by simp)
    have y1:w4.cell? ⟨wr.heap.size,1,none⟩=some (.int .i64 (elt t.moms n).task):=HMB.out.cell (j:=1) (by simp)
    have y2:w4.cell? ⟨wr.heap.size,2,none⟩=some (.int .i64 (elt t.moms n).fn):=HMB.out.cell (j:=2) (by simp)
    have y3:w4.cell? ⟨wr.heap.size,3,none⟩=some (.int .i64 (elt t.moms n).line):=HMB.out.cell (j:=3) (by simp)
    have y4:w4.cell? ⟨wr.heap.size,4,none⟩=some (.string (elt t.moms n).text):=HMB.out.cell (j:=4) (by simp)
    have y5:w4.cell? ⟨wr.heap.size,5,none⟩=some (.slice Av (elt t.moms n).vars.length cv):=HMB.out.cell (j:=5) (by simp)
    have s3:w4.cell? ⟨w.heap.size + 1,3,none⟩=some (.string s.nm):=HSB.out.cell (j:=3) (by simp)
    go_wp2_with fail
    refine (value_calls (elt t.moms n) Av cv s.nm _ HRV.out).mono ?_
    rintro e w5 ⟨rfl,hb⟩
    replace HM:=qhq (HM.out.later hb)
    replace HN:=qhq (HN.out.later hb)
    clear y0 y1 y2 y3 y4 y5 s3 HMB HRV
    replace HFL:=qhq (HFL.out.later hb)
    replace HB:=qhq (qtq HB.out hb);replace HX:=qhq (HX.out.later hb);replace HO:=qhq (HO.out.later hb);replace HW:=qhq (HW.out.later hb);replace HSB:=qhq (HSB.out.later hb);clear hb
    have s1:w5.cell? ⟨w.heap.size + 1,1,none⟩=some (.int .i64 s.fn):=HSB.out.cell (j:=1) (by simp)
    obtain ⟨vo,hvo⟩:∃ vo,valP (elt t.moms n).vars s.nm=vo:=⟨_,rfl⟩
    have HVO:=qhq hvo
    rw [hvo]
    clear hvo
    go_upto_region 19 with fail
    cases LL with
    | nil =>
     obtain rfl:pp=none:=HFL.out
     have HWN:Hid (watN t.moms s.nm s.fn (n + 1)=watN t.moms s.nm s.fn n):=qhq (by funext x;simp only [watN,watStep,shown_none HLL.out])
     have HH:Hid (holdsP t.moms s n=false):=qhq (by unfold holdsP;rw [if_neg (by have:=HK3.out;omega),if_neg (by have:=HK3.out;omega),if_pos HK3.out,shown_none HLL.out];rfl)
     cases vo
     all_goals
      dsimp only [Option.getD_none,Option.getD_some,Option.isSome_none,Option.isSome_some]
      go_quiet (fail)
      generalize hW6:World.drewN w5 _=w6
      have hbl:Below w5.heap.size w5 w6:=by rw [← hW6];exact qnq (qrq _ _) _
      clear hW6
      replace HM:=qhq (HM.out.later hbl)
      replace HN:=qhq (HN.out.later hbl)
      replace HB:=qhq (qtq HB.out hbl);replace HX:=qhq (HX.out.later hbl);replace HO:=qhq (HO.out.later hbl);replace HW:=qhq (HW.out.later hbl);replace HSB:=qhq (HSB.out.later hbl);clear hbl
      go_wp2
      go_roundw
      case rel =>
       refine ⟨n + 1,mn,hn,closedP (stN t.moms n) (elt t.moms n),f',L,H,by omega,by go_num,HW.out,hdN_skip HO.out HH.out,HM.out,by omega,HN.out,by omega,HWT.out.skip (fun _=>HWN.out),HB.out,HX.out,HSB.out⟩
      case measure=>simp [intOf];omega
    | cons fr r =>
     have hfl:=HFL.out
     obtain ⟨bf,nx,rfl,hBf,-⟩:=hfl
     have u0:w5.cell? ⟨bf,0,none⟩=some (.int .i64 fr.fn):=hBf.cell (j:=0) (by omega)
     have HBF:=qhq hBf
     have HSH:=qhq (shown_some HLL.out)
     clear hBf HFL
     obtain ⟨q1,hq1'⟩:∃ q1,(fr.fn == s.fn)=q1:=⟨_,rfl⟩
     have hq1n:(fr.fn != s.fn)=!q1:=by rw [bne,hq1']
     cases vo with
     | none =>
      have HWN:Hid (watN t.moms s.nm s.fn (n + 1)=watN t.moms s.nm s.fn n):=qhq (by funext x;simp only [watN,watStep,HSH.out,HVO.out])
      have HH:Hid (holdsP t.moms s n=false):=qhq (by unfold holdsP;rw [if_neg (by have:=HK3.out;omega),if_neg (by have:=HK3.out;omega),if_pos HK3.out,HSH.out,HVO.out];rfl)
      dsimp only [Option.getD_none,Option.getD_some,Option.isSome_none,Option.isSome_some]
      cases q1
      all_goals
       simp only [Bool.not_true,Bool.not_false] at hq1n
       go_quiet (fail)
       generalize hW6:World.drewN w5 _=w6
       have hbl:Below w5.heap.size w5 w6:=by rw [← hW6];exact qnq (qrq _ _) _
       clear hW6
       replace HM:=qhq (HM.out.later hbl)
       replace HN:=qhq (HN.out.later hbl)
       replace HB:=qhq (qtq HB.out hbl);replace HX:=qhq (HX.out.later hbl);replace HO:=qhq (HO.out.later hbl);replace HW:=qhq (HW.out.later hbl);replace HSB:=qhq (HSB.out.later hbl);clear hbl
       go_wp2
       go_roundw
       case rel =>
        refine ⟨n + 1,mn,hn,closedP (stN t.moms n) (elt t.moms n),f',L,H,by omega,by go_num,HW.out,hdN_skip HO.out HH.out,HM.out,by omega,HN.out,by omega,HWT.out.skip (fun _=>HWN.out),HB.out,HX.out,HSB.out⟩
       case measure=>simp [intOf];omega
     | some tx =>
      dsimp only [Option.getD_none,Option.getD_some,Option.isSome_none,Option.isSome_some]
      have HF:Hid ((fr.fn == s.fn)=q1):=qhq hq1'
      cases q1 with
      | false =>
       simp only [Bool.not_false] at hq1n
       have hne:fr.fn ≠ s.fn:=by have:=HF.out;simpa using this
       have HWN:Hid (watN t.moms s.nm s.fn (n + 1)=watN t.moms s.nm s.fn n):=qhq (by
        funext x
        simp only [watN,watStep,HSH.out,HVO.out]
        rw [if_neg (fun hh=>hne hh.1)])
       have HH:Hid (holdsP t.moms s n=false):=qhq (by unfold holdsP;rw [if_neg (by have:=HK3.out;omega),if_neg (by have:=HK3.out;omega),if_pos HK3.out,HSH.out,HVO.out];simp [watHit,hne])
       clear hne
       go_quiet (fail)
       generalize hW6:World.drewN w5 _=w6
       have hbl:Below w5.heap.size w5 w6:=by rw [← hW6];exact qnq (qrq _ _) _
       clear hW6
       replace HM:=qhq (HM.out.later hbl)
       replace HN:=qhq (HN.out.later hbl)
       replace HB:=qhq (qtq HB.out hbl);replace HX:=qhq (HX.out.later hbl);replace HO:=qhq (HO.out.later hbl);replace HW:=qhq (HW.out.later hbl);replace HSB:=qhq (HSB.out.later hbl);clear hbl
       go_wp2
       go_roundw
       case rel =>
        refine ⟨n + 1,mn,hn,closedP (stN t.moms n) (elt t.moms n),f',L,H,by omega,by go_num,HW.out,hdN_skip HO.out HH.out,HM.out,by omega,HN.out,by omega,HWT.out.skip (fun _=>HWN.out),HB.out,HX.out,HSB.out⟩
       case measure=>simp [intOf];omega
      | true =>
       simp only [Bool.not_true] at hq1n
       go_quiet (fail)
       generalize hW6:World.drewN w5 _=w6
       have hbl:Below w5.heap.size w5 w6:=by rw [← hW6];exact qnq (qrq _ _) _
       clear hW6
       replace HM:=qhq (HM.out.later hbl)
       replace HN:=qhq (HN.out.later hbl)
       have heq:fr.fn=s.fn:=by have:=HF.out;simpa using this
       replace HBF:=qhq (HBF.out.later hbl)
       replace HB:=qhq (qtq HB.out hbl);replace HX:=qhq (HX.out.later hbl);replace HO:=qhq (HO.out.later hbl);replace HW:=qhq (HW.out.later hbl);replace HSB:=qhq (HSB.out.later hbl);clear hbl
       have okf:ok64 fr.frm:=by
        unfold ok64
        rcases SO.out.shown h2 HSH.out with ⟨hh,-⟩ | ⟨j,hh,hj,-⟩ <;> omega
       have u2:w6.cell? ⟨bf,2,none⟩=some (.int .i64 fr.frm):=HBF.out.cell (j:=2) (by omega)
       obtain ⟨hw1,hw2,hw3⟩:=HWT.out.had fr.frm
       obtain ⟨hh,hhh⟩:∃ hh,(H fr.frm).getD 0=hh:=⟨_,rfl⟩
       have HHH:=qhq hhh
       obtain ⟨u,hu⟩:∃ u,(L fr.frm).getD ⟨#[]⟩=u:=⟨_,rfl⟩
       have hlk1:=HN.out.look m_int okf
       have hlk2:=HM.out.look m_str okf
       rw [hhh] at hlk1
       rw [hu] at hlk2
       replace hlk1:(Instr.lookup 142 (.map (some (go + 1 + 1))) (.int .i64 fr.frm) false).run Tryz.prog w6=.ok (.int .i64 hh) w6:=hlk1
       replace hlk2:(Instr.lookup 246 (.map (some (go + 1))) (.int .i64 fr.frm) false).run Tryz.prog w6=.ok (.string u) w6:=hlk2
       have HH:Hid (holdsP t.moms s n=((hh == 0) || !(u.toList == tx.toList))):=qhq (by
        unfold holdsP
        rw [if_neg (by have:=HK3.out;omega),if_neg (by have:=HK3.out;omega),if_pos HK3.out,HSH.out,HVO.out,ba_beq]
        rw [hhh] at hw1
        unfold watHit
        dsimp only
        rw [← HWT.out.wat HK3.out]
        cases hl:L fr.frm with
        | none =>
         rw [hl] at hw1
         have:hh=0:=hw1.2 rfl
         simp [heq,this]
        | some u' =>
         rw [hl] at hw1 hu
         have:¬ hh=0:=fun hx=>by cases hw1.1 hx
         obtain rfl:u'=u:=hu
         simp [heq,this])
       have HEQ:=qhq heq
       have z2:=HO.out.free n
       have z3:w6.cell? ⟨go,n,none⟩=some (.bool false):=by
        have:=HO.out.cells h2 (j:=0) (by omega)
        simpa [hdN] using this
       rw [hhh] at hw2 hw3
       clear heq hhh hw1 hu u0 s1
       generalize hb1:(hh == 0)=b1 at HH
       generalize hb2:(u.toList == tx.toList)=b2 at HH
       have hh4:hh ≤ 3000:=by omega
       have okh:ok64 (hh + 1):=by unfold ok64;omega
       have oktx:tx.size ≤ maxLen:=by have:=mom_valP HS.out h2 HVO.out;simp only [maxLen];omega
       go_upto_region 20 with fail
       cases b1 <;> cases b2
       all_goals
        go_upto_region 21 with fail
        generalize hW7:World.setCell w6 _ _=w7
        have hset:Mv [4] w.heap.size w6 w7:=by rw [← hW7];exact (Mv.refl [4] w.heap.size w6).setO HO.out (by omega) (by decide) n _
        have hO7:OwR w7 go 4 1 t.moms.length (hdN t.moms s (n + 1)) (.slice (some ⟨go,0,none⟩) t.moms.length t.moms.length):=by rw [← hW7];exact hdN_set HO.out h2 HH.out
        have hW7:=HW.out.mv hset (by decide) (by decide)
        have hX7:=HX.out.mv hset (by decide)
        have hS7:=HSB.out.mv hset (by decide)
        have hM7:=HM.out.mv hset
        have hN7:=HN.out.mv hset
        have hB7:=bl_trans3 HB.out hset.bl
        have hBF7:=HBF.out.mv hset (by decide)
        clear HO HW HX HSB HM HN HB HBF hset z2 z3 hlk1 hlk2 u2
        have hlk3:=hN7.look m_int okf
        rw [HHH.out] at hlk3
        replace hlk3:(Instr.lookup 142 (.map (some (go + 1 + 1))) (.int .i64 fr.frm) false).run Tryz.prog w7=.ok (.int .i64 hh) w7:=hlk3
        obtain ⟨w8,hup1,hN8,hg8⟩:=OwM.update m_int hN7 okf (y:=hh + 1) okh (by simp only [maxLen];omega)
        replace hup1:(Instr.mapUpdate 142 (.map (some (go + 1 + 1))) (.int .i64 fr.frm) (.int .i64 (hh + 1))).run Tryz.prog w7=.ok () w8:=hup1
        have hnem:=fun b' e N f' (hBk:Blk w7 b' e N f')=>hN7.ne hBk
        have hO8:=hO7.grown hg8 (fun b' hb' hh=>by obtain ⟨N,F,hBk⟩:=hO7.block hb';exact hnem _ _ _ _ hBk (Option.some.inj hh).symm)
        have hW8:=hW7.gm hg8 hnem
        have hX8:=hX7.gm hg8 (hnem _ _ _ _ hX7)
        have hS8:=hS7.gm hg8 (hnem _ _ _ _ hS7)
        have hBF8:=hBF7.gm hg8 (hnem _ _ _ _ hBF7)
        have hM8:=hM7.kept hg8 (fun hh=>by have:=Option.some.inj hh;omega)
        have hB8:=bl_grown hB7 hg8 (by omega)
        have u7:w7.cell? ⟨bf,2,none⟩=some (.int .i64 fr.frm):=hBF7.cell (j:=2) (by omega)
        have u8:w8.cell? ⟨bf,2,none⟩=some (.int .i64 fr.frm):=hBF8.cell (j:=2) (by omega)
        obtain ⟨w9,hup2,hM9,hg9⟩:=OwM.update m_str hM8 okf (y:=tx) oktx (by simp only [maxLen];omega)
        replace hup2:(Instr.mapUpdate 246 (.map (some (go + 1))) (.int .i64 fr.frm) (.string tx)).run Tryz.prog w8=.ok () w9:=hup2
        have hnem9:=fun b' e N f' (hBk:Blk w8 b' e N f')=>hM8.ne hBk
        have HO:=qhq (hO8.grown hg9 (fun b' hb' hh=>by obtain ⟨N,F,hBk⟩:=hO8.block hb';exact hnem9 _ _ _ _ hBk (Option.some.inj hh).symm))
        have HW:=qhq (hW8.gm hg9 hnem9)
        have HX:=qhq (hX8.gm hg9 (hnem9 _ _ _ _ hX8))
        have HSB:=qhq (hS8.gm hg9 (hnem9 _ _ _ _ hS8))
        have HN:=qhq (hN8.kept hg9 (fun hh=>by have:=Option.some.inj hh;omega))
        have HB:=qhq (bl_grown hB8 hg9 (by omega))
        have HM:=qhq hM9
        clear hO7 hW7 hX7 hS7 hM7 hN7 hB7 hBF7 hN8 hg8 hnem hO8 hW8 hX8 hS8 hBF8 hM8 hB8 hM9 hg9 hnem9
        go_wp2
        go_roundw
        case rel =>
         refine ⟨n + 1,mn + 1,hn + 1,closedP (stN t.moms n) (elt t.moms n),f',setM L fr.frm tx,setM H fr.frm (hh + 1),by omega,by go_num,HW.out,HO.out,HM.out,by omega,HN.out,by omega,?_,HB.out,HX.out,HSB.out⟩
         rw [← HHH.out]
         exact HWT.out.put HSH.out HVO.out HEQ.out
        case measure=>simp [intOf];omega
   ·have hq3:(s.kind == 3)=false:=by simp [k3]
    have HK3:=qhq k3
    clear y1 y4 y5 s3
    by_cases k1:s.kind=1
    ·have hq1:(s.kind == 1)=true:=by simp [k1]
     have HH:Hid (holdsP t.moms s n=(((elt t.moms n).kind == 1) && ((elt t.moms n).fn == s.fn) && ((elt t.moms n).line == s.line))):=qhq (by unfold holdsP;rw [if_pos k1,Bool.beq_eq_decide_eq,Bool.beq_eq_decide_eq,Bool.beq_eq_decide_eq])
     generalize hk1:((elt t.moms n).kind == 1)=r1 at HH
     generalize hk2:((elt t.moms n).fn == s.fn)=r2 at HH
     generalize hk3:((elt t.moms n).line == s.line)=r3 at HH
     clear k1 k3
     cases r1 <;> cases r2 <;> cases r3
     all_goals
      go_wp2
      go_roundw
      case rel =>
       have hset:=(Mv.refl [4] w.heap.size w3).setO HO.out (by omega) (by decide) n (.bool (holdsP t.moms s n))
       have hO2:=hdN_set HO.out h2 rfl
       rw [HH.out] at hset hO2
       refine ⟨n + 1,mn,hn,closedP (stN t.moms n) (elt t.moms n),f',L,H,by omega,by go_num,HW.out.mv hset (by decide) (by decide),hO2,HM.out.mv hset,by omega,HN.out.mv hset,by omega,HWT.out.skip (fun hk=>absurd hk HK3.out),bl_trans3 HB.out hset.bl,HX.out.mv hset (by decide),HSB.out.mv hset (by decide)⟩
      case measure=>simp [intOf];omega
    ·have hq1:(s.kind == 1)=false:=by simp [k1]
     by_cases k2:s.kind=2
     ·have hq2:(s.kind == 2)=true:=by simp [k2]
      have HH:Hid (holdsP t.moms s n=(((elt t.moms n).kind == 2) && ((elt t.moms n).fn == s.fn))):=qhq (by unfold holdsP;rw [if_neg k1,if_pos k2,Bool.beq_eq_decide_eq,Bool.beq_eq_decide_eq])
      generalize hk1:((elt t.moms n).kind == 2)=r1 at HH
      generalize hk2:((elt t.moms n).fn == s.fn)=r2 at HH
      clear k1 k2 k3
      cases r1 <;> cases r2
      all_goals
       go_wp2
       go_roundw
       case rel =>
        have hset:=(Mv.refl [4] w.heap.size w3).setO HO.out (by omega) (by decide) n (.bool (holdsP t.moms s n))
        have hO2:=hdN_set HO.out h2 rfl
        rw [HH.out] at hset hO2
        refine ⟨n + 1,mn,hn,closedP (stN t.moms n) (elt t.moms n),f',L,H,by omega,by go_num,HW.out.mv hset (by decide) (by decide),hO2,HM.out.mv hset,by omega,HN.out.mv hset,by omega,HWT.out.skip (fun hk=>absurd hk HK3.out),bl_trans3 HB.out hset.bl,HX.out.mv hset (by decide),HSB.out.mv hset (by decide)⟩
       case measure=>simp [intOf];omega
     ·have hq2:(s.kind == 2)=false:=by simp [k2]
      have hq4:(s.kind == 4)=true:=by have:=HKD.out;simp;omega
      have HH:Hid (holdsP t.moms s n=((elt t.moms n).kind == 4)):=qhq (by unfold holdsP;rw [if_neg k1,if_neg k2,if_neg k3,Bool.beq_eq_decide_eq])
      generalize hk1:((elt t.moms n).kind == 4)=r1 at HH
      clear k1 k2 k3
      cases r1
      all_goals
       go_wp2
       go_roundw
       case rel =>
        have hset:=(Mv.refl [4] w.heap.size w3).setO HO.out (by omega) (by decide) n (.bool (holdsP t.moms s n))
        have hO2:=hdN_set HO.out h2 rfl
        rw [HH.out] at hset hO2
        refine ⟨n + 1,mn,hn,closedP (stN t.moms n) (elt t.moms n),f',L,H,by omega,by go_num,HW.out.mv hset (by decide) (by decide),hO2,HM.out.mv hset,by omega,HN.out.mv hset,by omega,HWT.out.skip (fun hk=>absurd hk HK3.out),bl_trans3 HB.out hset.bl,HX.out.mv hset (by decide),HSB.out.mv hset (by decide)⟩
       case measure=>simp [intOf];omega
  ·obtain rfl:n=t.moms.length:=by omega
   go_wp2
   go_ret
   refine ⟨_,rfl,?_,HB.out⟩
   exact (HO.out.lower (by omega)).congr fun i hi j hj=>by simp [hdN,hdC,hi]
end Go.Proofs.YtcklnjjbhngbcaaGreatDoor
