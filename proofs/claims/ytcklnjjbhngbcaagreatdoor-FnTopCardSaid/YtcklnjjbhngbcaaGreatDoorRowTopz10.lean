/- Lemmas and contracts of functions that the theorem of this claim leans on (texts I0, I3m, L18, L9). -/
import Derived.Test.YtcklnjjbhngbcaaGreatDoorRowTopz00
import Derived.Test.YtcklnjjbhngbcaaGreatDoorRowUnz02
import Derived.Test.YtcklnjjbhngbcaaGreatDoorRowUnz05
import Derived.Deep.DeepCutAuto
import Derived.Deep.CutBlock
import Derived.Test.YtcklnjjbhngbcaaGreatDoorRowTopz09
import Derived.Test.YtcklnjjbhngbcaaGreatDoorRowTopz02
import Derived.Deep.QuietTactic
import Derived.BigQuiet
import Derived.Deep.RegionHeld3
import Derived.Test.YtcklnjjbhngbcaaGreatDoorRowTopz07
import Derived.Test.YtcklnjjbhngbcaaGreatDoorRowTopz08
namespace Go.Proofs.YtcklnjjbhngbcaaGreatDoor
open Go.RowKit Go.Proofs.Lens
set_option maxRecDepth 100000 in
theorem l1in_calls (x a b:Int) (w:World):Calls Tryz.prog 137 #[.int .i64 x,.int .i64 a,.int .i64 b] w fun e w'=>e=.returned (.bool (inB x a b)) ∧ w=w':=by
 by_cases h1:a ≤ x <;> by_cases h2:x ≤ b
 all_goals
  go_enter Tryz.func137,Tryz.ntmps137
  go_wp2
  go_ret
  exact ⟨by simp [inB,h1,h2],rfl⟩
set_option maxRecDepth 100000 in
theorem inside_calls (x a b:Int) (w:World):Calls Tryz.prog 116 #[.int .i64 x,.int .i64 a,.int .i64 b] w fun e w'=>e=.returned (.bool (inB x a b)) ∧ w=w':=by
 by_cases h1:a ≤ x <;> by_cases h2:x ≤ b
 all_goals
  go_enter Tryz.func116,Tryz.ntmps116
  go_wp2
  go_ret
  exact ⟨by simp [inB,h1,h2],rfl⟩
set_option maxRecDepth 100000 in
set_option maxHeartbeats 400000 in
theorem spec_StopOk_calls (p:PStop) (w:World):Calls Tryz.prog 138 #[stopV p] w fun e w'=>e=.returned (.bool (stopOk p)) ∧ Below w.heap.size w w':=by
 unfold stopV
 go_enter Tryz.func138,Tryz.ntmps138
 go_wp2_with (go_at_call 137;refine (l1in_calls _ _ _ _).mono ?_;rintro e w' ⟨rfl,rfl⟩)
 all_goals
  go_ret
  refine ⟨ret_bool ?_,qaq (qrq _ _) _⟩
  go_tidy
  unfold stopOk noS
  grind [inB,List.isEmpty_iff]
set_option maxRecDepth 100000 in
set_option maxHeartbeats 400000 in
theorem impl_StopOk_calls (p:PStop) (w:World):Calls Tryz.prog 115 #[stopV p] w fun e w'=>e=.returned (.bool (stopOk p)) ∧ Below w.heap.size w w':=by
 unfold stopV
 go_enter Tryz.func115,Tryz.ntmps115
 go_wp2_with (go_at_call 116;refine (inside_calls _ _ _ _).mono ?_;rintro e w' ⟨rfl,rfl⟩)
 all_goals
  go_ret
  refine ⟨ret_bool ?_,by first | exact qaq (qrq _ _) _ | exact qaq (qaq (qrq _ _) _) _⟩
  go_tidy
  unfold stopOk noS
  grind [inB,List.isEmpty_iff]
theorem varsOk_snoc (xs:List PVar) (k:Nat) (hk:k < xs.length):varsOk (xs.take (k + 1))=(varsOk (xs.take k) && varOk (elt xs k)):=by
 unfold varsOk;rw [take_snoc hk];simp
set_option maxRecDepth 100000 in
set_option maxHeartbeats 2000000 in
theorem momentOk_calls (v1 v2 v:Value) (t:PTr) (m:PMom) (w:World) (h:RdTr w v1 v2 t) (hv:RdVars w v m.vars) (hsm:smMom m) (hfn:t.fns.length ≤ 1048576) :
  Calls Tryz.prog 70 #[.agg #[v1,v2],.agg #[.int .i64 m.kind,.int .i64 m.task,.int .i64 m.fn,.int .i64 m.line,.string m.text,v]] w fun e w' =>
   e=.returned (.bool (momOk t.fns.length m)) ∧ Below w.heap.size w w':=by
 obtain ⟨⟨A1,c1,rfl,-⟩,-⟩:=h
 have HV:=qhq hv
 obtain ⟨A,c,rfl,hn,hrow⟩:=hv
 obtain ⟨hs1,hs2,hs3⟩:=hsm
 have HS:=qhq hs3
 clear hrow hs3
 go_enter Tryz.func70,Tryz.ntmps70
 go_upto_region 1 with fail
 generalize hW:World.alloc (World.alloc w _) _=W
 have hb:Below w.heap.size w W:=by rw [← hW];exact (by repeat (with_reducible first | exact qrq _ _ | exact HL.out | refine qnq ?_ _ | refine bl_drew ?_ | refine qaq ?_ _ | refine bl_set ?_ (by dsimp only;omega) _))
 have x0:W.cell? ⟨w.heap.size,0,none⟩=some (.slice A1 t.fns.length c1):=by rw [← hW];clear hW;go_simp
 have y0:W.cell? ⟨w.heap.size + 1,0,none⟩=some (.int .i64 m.kind):=by rw [← hW];clear hW;go_simp
 have y1:W.cell? ⟨w.heap.size + 1,1,none⟩=some (.int .i64 m.task):=by rw [← hW];clear hW;go_simp
 have y2:W.cell? ⟨w.heap.size + 1,2,none⟩=some (.int .i64 m.fn):=by rw [← hW];clear hW;go_simp
 have y3:W.cell? ⟨w.heap.size + 1,3,none⟩=some (.int .i64 m.line):=by rw [← hW];clear hW;go_simp
 have y4:W.cell? ⟨w.heap.size + 1,4,none⟩=some (.string m.text):=by rw [← hW];clear hW;go_simp
 have y5:W.cell? ⟨w.heap.size + 1,5,none⟩=some (.slice A m.vars.length c):=by rw [← hW];clear hW;go_simp
 have HB:=qhq hb
 clear hW hb
 go_cut [5] (fun s5 wx=>s5=.bool (momHd t.fns.length m) ∧ W=wx)
 case first =>
  go_wp2_with (first | (go_at_call 116;refine (inside_calls _ _ _ _).mono ?_;rintro e w1 ⟨rfl,rfl⟩))
  all_goals
   go_meet
   refine ⟨?_,rfl⟩
   go_tidy
   congr 1
   unfold momHd
   grind
 case rest =>
  obtain ⟨rfl,rfl⟩:=hcut
  clear x0 y0 y1 y2 y3 y4
  go_wp2_with fail
  go_loopw [5,55] (fun ok i wr=>∃ k:Nat,k ≤ m.vars.length ∧ i=.int .i64 k ∧ ok=.bool (momHd t.fns.length m && varsOk (m.vars.take k)) ∧ Below w.heap.size w wr) (fun _ i _=>m.vars.length - (intOf i).toNat)
  case atStart=>exact ⟨0,Nat.zero_le _,rfl,by simp [varsOk],HB.out⟩
  case round =>
   obtain ⟨k,hk,rfl,rfl,hb⟩:=hrel
   have HL:=qhq hb
   by_cases hlt:k < m.vars.length
   ·obtain ⟨A',c',he,_,hrow⟩:=HV.out.later hb
    obtain ⟨rfl,rfl⟩:A=A' ∧ c=c':=by simpa using he
    obtain ⟨b,o,rfl,hc⟩:=hrow (by omega)
    have hc0:wr.cell? ⟨b,o + k * 2,none⟩=some (.string (elt m.vars k).nm):=hc k hlt 0 (by omega)
    have hc1:wr.cell? ⟨b,o + k * 2 + 1,none⟩=some (.string (elt m.vars k).tx):=hc k hlt 1 (by omega)
    have HSn:=qhq (varsOk_snoc m.vars k hlt)
    have hz:=HS.out k hlt
    obtain ⟨hz1,hz2⟩:=hz
    clear hc he hrow hb
    generalize hq:(momHd t.fns.length m && varsOk (m.vars.take k))=q
    have HQ:=qhq hq
    clear hq
    go_wp2_with (first | (go_at_call 116;refine (inside_calls _ _ _ _).mono ?_;rintro e w1 ⟨rfl,rfl⟩))
    all_goals
     go_roundw
     case rel =>
      refine ⟨k + 1,by omega,by go_num,congrArg Value.bool ?_,(by repeat (with_reducible first | exact qrq _ _ | exact HL.out | refine qnq ?_ _ | refine bl_drew ?_ | refine qaq ?_ _ | refine bl_set ?_ (by dsimp only;omega) _))⟩
      rw [HSn.out,← Bool.and_assoc,HQ.out]
      go_tidy
      unfold varOk
      grind
     case measure=>simp [intOf];omega
   ·obtain rfl:k=m.vars.length:=by omega
    clear hb
    go_wp2
    go_ret
    exact ⟨ret_bool (by rw [List.take_length];rfl),HL.out⟩
theorem fnsOk_snoc (xs:List ByteArray) (k:Nat) (hk:k < xs.length):fnsOk (xs.take (k + 1))=(fnsOk (xs.take k) && decide ((elt xs k).size ≤ 40)):=by
 unfold fnsOk;rw [take_snoc hk];simp
theorem rd_moment {w:World} {A:Option Addr} {n c:Nat} {ms:List PMom} (h:RdMoms w (.slice A n c) ms) {k:Nat} (hk:k < ms.length) :
  ∃ b o v,A=some ⟨b,o,none⟩ ∧ w.cell? ⟨b,o + k * 6,none⟩=some (.int .i64 (elt ms k).kind) ∧ w.cell? ⟨b,o + k * 6 + 1,none⟩=some (.int .i64 (elt ms k).task) ∧
   w.cell? ⟨b,o + k * 6 + 2,none⟩=some (.int .i64 (elt ms k).fn) ∧ w.cell? ⟨b,o + k * 6 + 3,none⟩=some (.int .i64 (elt ms k).line) ∧
   w.cell? ⟨b,o + k * 6 + 4,none⟩=some (.string (elt ms k).text) ∧ w.cell? ⟨b,o + k * 6 + 5,none⟩=some v ∧ RdVars w v (elt ms k).vars:=by
 obtain ⟨vv,⟨A',c',he,_,hrow⟩,hvv⟩:=h
 obtain ⟨rfl,-,-⟩:A=A' ∧ n=ms.length ∧ c=c':=by simpa using he
 obtain ⟨b,o,rfl,hc⟩:=hrow (by omega)
 exact ⟨b,o,vv k,rfl,hc k hk 0 (by omega),hc k hk 1 (by omega),hc k hk 2 (by omega),hc k hk 3 (by omega),hc k hk 4 (by omega),hc k hk 5 (by omega),hvv k hk⟩
def szHd (t:PTr):Bool:=decide (t.fns.length=0) || (decide (300 < t.fns.length) || decide (3000 < t.moms.length))
theorem sizesOk_eq (t:PTr):sizesOk t=!(szHd t || !fnsOk t.fns):=by
 unfold sizesOk szHd
 cases fnsOk t.fns <;> grind
set_option maxRecDepth 100000 in
set_option maxHeartbeats 400000 in
theorem wVars_calls (v1 v2:Value) (xs:List PVar) (w:World) (h1:RdVars w v1 xs) (h2:RdVars w v2 xs) :
  Calls Tryz.prog 43 #[v1,v2] w fun e w'=>e=.returned (.bool true) ∧ Below w.heap.size w w':=by
 have H1:=qhq h1
 have H2:=qhq h2
 obtain ⟨A,c,rfl,hn,hrow⟩:=h1
 obtain ⟨A2,c2,rfl,-,hrow2⟩:=h2
 have hdl:((xs.length:Int) != (xs.length:Int))=false:=by simp
 clear hrow hrow2
 go_enter Tryz.func43,Tryz.ntmps43
 go_wp2
 go_loopw [13] (fun i wr=>∃ (k:Nat),k ≤ xs.length ∧ i=.int .i64 k ∧ Below w.heap.size w wr) (fun i _=>xs.length - (intOf i).toNat)
 case atStart=>exact ⟨0,Nat.zero_le _,rfl,qrq _ _⟩
 case round =>
  obtain ⟨k,hk,rfl,hb⟩:=hrel
  have HL:=qhq hb
  by_cases hlt:k < xs.length
  ·obtain ⟨A',c',he,_,hrow⟩:=H1.out.later hb
   obtain ⟨rfl,rfl⟩:A=A' ∧ c=c':=by simpa using he
   obtain ⟨b,o,rfl,hc⟩:=hrow (by omega)
   obtain ⟨A',c',he',_,hrow'⟩:=H2.out.later hb
   obtain ⟨rfl,rfl⟩:A2=A' ∧ c2=c':=by simpa using he'
   obtain ⟨b2,o2,rfl,hc2⟩:=hrow' (by omega)
   have x0:wr.cell? ⟨b,o + k * 2,none⟩=some (.string (elt xs k).nm):=hc k hlt 0 (by omega)
   have x1:wr.cell? ⟨b,o + k * 2 + 1,none⟩=some (.string (elt xs k).tx):=hc k hlt 1 (by omega)
   have y0:wr.cell? ⟨b2,o2 + k * 2,none⟩=some (.string (elt xs k).nm):=hc2 k hlt 0 (by omega)
   have y1:wr.cell? ⟨b2,o2 + k * 2 + 1,none⟩=some (.string (elt xs k).tx):=hc2 k hlt 1 (by omega)
   have hlt':(k:Int) < (xs.length:Int):=by omega
   clear hc hc2 he he' hrow hrow' hb
   go_wp2_with fail
   go_quiet (fail)
   go_wp2
   go_roundw
   case rel=>exact ⟨k + 1,by omega,by go_num,qnq HL.out _⟩
   case measure=>simp [intOf];omega
  ·clear hb
   go_wp2
   go_ret
   exact ⟨rfl,HL.out⟩
theorem held12 {w W W':World} {a0 a1 a2 a3 a4 a5 a6 a7 a8 a9 a10 a11:Addr} {u0 u1 u2 u3 u4 u5 u6 u7 u8 u9 u10 u11:Value} (h:Below w.heap.size w W ∧ W.cell? a0=some u0 ∧ W.cell? a1=some u1 ∧ W.cell? a2=some u2 ∧ W.cell? a3=some u3 ∧ W.cell? a4=some u4 ∧ W.cell? a5=some u5 ∧ W.cell? a6=some u6 ∧ W.cell? a7=some u7 ∧ W.cell? a8=some u8 ∧ W.cell? a9=some u9 ∧ W.cell? a10=some u10 ∧ W.cell? a11=some u11) (hb:Below W.heap.size W W'):Below w.heap.size w W' ∧ W'.cell? a0=some u0 ∧ W'.cell? a1=some u1 ∧ W'.cell? a2=some u2 ∧ W'.cell? a3=some u3 ∧ W'.cell? a4=some u4 ∧ W'.cell? a5=some u5 ∧ W'.cell? a6=some u6 ∧ W'.cell? a7=some u7 ∧ W'.cell? a8=some u8 ∧ W'.cell? a9=some u9 ∧ W'.cell? a10=some u10 ∧ W'.cell? a11=some u11 :=
 ⟨qtq h.1 hb,qcq hb h.2.1,qcq hb h.2.2.1,qcq hb h.2.2.2.1,qcq hb h.2.2.2.2.1,qcq hb h.2.2.2.2.2.1,qcq hb h.2.2.2.2.2.2.1,qcq hb h.2.2.2.2.2.2.2.1,qcq hb h.2.2.2.2.2.2.2.2.1,qcq hb h.2.2.2.2.2.2.2.2.2.1,qcq hb h.2.2.2.2.2.2.2.2.2.2.1,qcq hb h.2.2.2.2.2.2.2.2.2.2.2.1,qcq hb h.2.2.2.2.2.2.2.2.2.2.2.2⟩
theorem held12_bl {w W:World} {a0 a1 a2 a3 a4 a5 a6 a7 a8 a9 a10 a11:Addr} {u0 u1 u2 u3 u4 u5 u6 u7 u8 u9 u10 u11:Value} (h:Below w.heap.size w W ∧ W.cell? a0=some u0 ∧ W.cell? a1=some u1 ∧ W.cell? a2=some u2 ∧ W.cell? a3=some u3 ∧ W.cell? a4=some u4 ∧ W.cell? a5=some u5 ∧ W.cell? a6=some u6 ∧ W.cell? a7=some u7 ∧ W.cell? a8=some u8 ∧ W.cell? a9=some u9 ∧ W.cell? a10=some u10 ∧ W.cell? a11=some u11):Below w.heap.size w W:=h.1
set_option maxRecDepth 100000 in
set_option maxHeartbeats 40000000 in
theorem wTold_calls (v1 v2:Value) (xs:List PTold) (w:World) (h1:RdTold w v1 xs) (h2:RdTold w v2 xs) :
  Calls Tryz.prog 11 #[v1,v2] w fun e w'=>e=.returned (.bool true) ∧ Below w.heap.size w w':=by
 obtain ⟨sv,vv,h1,hv1⟩:=h1
 obtain ⟨sv2,vv2,h2,hv2⟩:=h2
 have H1:=qhq h1
 have H2:=qhq h2
 have V1:=qhq hv1
 have V2:=qhq hv2
 obtain ⟨A,c,rfl,hn,hrow⟩:=h1
 obtain ⟨A2,c2,rfl,-,hrow2⟩:=h2
 have hdl:((xs.length:Int) != (xs.length:Int))=false:=by simp
 clear hrow hrow2 hv1 hv2
 go_enter Tryz.func11,Tryz.ntmps11
 go_wp2
 go_loopw [13] (fun i wr=>∃ (k:Nat),k ≤ xs.length ∧ i=.int .i64 k ∧ Below w.heap.size w wr) (fun i _=>xs.length - (intOf i).toNat)
 case atStart=>exact ⟨0,Nat.zero_le _,rfl,qrq _ _⟩
 case round =>
  obtain ⟨k,hk,rfl,hb⟩:=hrel
  have HL:=qhq hb
  by_cases hlt:k < xs.length
  ·obtain ⟨A',c',he,_,hrow⟩:=H1.out.later hb
   obtain ⟨rfl,rfl⟩:A=A' ∧ c=c':=by simpa using he
   obtain ⟨b,o,rfl,hc⟩:=hrow (by omega)
   obtain ⟨A',c',he',_,hrow'⟩:=H2.out.later hb
   obtain ⟨rfl,rfl⟩:A2=A' ∧ c2=c':=by simpa using he'
   obtain ⟨b2,o2,rfl,hc2⟩:=hrow' (by omega)
   have x0:wr.cell? ⟨b,o + k * 6,none⟩=some (.int .i64 (elt xs k).place):=hc k hlt 0 (by omega)
   have x1:wr.cell? ⟨b,o + k * 6 + 1,none⟩=some (.int .i64 (elt xs k).code):=hc k hlt 1 (by omega)
   have x2:wr.cell? ⟨b,o + k * 6 + 2,none⟩=some (.int .i64 (elt xs k).num):=hc k hlt 2 (by omega)
   have x3:wr.cell? ⟨b,o + k * 6 + 3,none⟩=some (.string (elt xs k).text):=hc k hlt 3 (by omega)
   have x4:wr.cell? ⟨b,o + k * 6 + 4,none⟩=some (sv k):=hc k hlt 4 (by omega)
   have x5:wr.cell? ⟨b,o + k * 6 + 5,none⟩=some (vv k):=hc k hlt 5 (by omega)
   have y0:wr.cell? ⟨b2,o2 + k * 6,none⟩=some (.int .i64 (elt xs k).place):=hc2 k hlt 0 (by omega)
   have y1:wr.cell? ⟨b2,o2 + k * 6 + 1,none⟩=some (.int .i64 (elt xs k).code):=hc2 k hlt 1 (by omega)
   have y2:wr.cell? ⟨b2,o2 + k * 6 + 2,none⟩=some (.int .i64 (elt xs k).num):=hc2 k hlt 2 (by omega)
   have y3:wr.cell? ⟨b2,o2 + k * 6 + 3,none⟩=some (.string (elt xs k).text):=hc2 k hlt 3 (by omega)
   have y4:wr.cell? ⟨b2,o2 + k * 6 + 4,none⟩=some (sv2 k):=hc2 k hlt 4 (by omega)
   have y5:wr.cell? ⟨b2,o2 + k * 6 + 5,none⟩=some (vv2 k):=hc2 k hlt 5 (by omega)
   have hlt':(k:Int) < (xs.length:Int):=by omega
   clear hc hc2 he he' hrow hrow' hb
   go_wp2_with fail
   dsimp only [List.append]
   go_region_held3 (fun w':World=>Below wr.heap.size wr w' ∧ w'.cell? ⟨b,o + k * 6,none⟩=some (.int .i64 (elt xs k).place) ∧ w'.cell? ⟨b,o + k * 6 + 1,none⟩=some (.int .i64 (elt xs k).code) ∧ w'.cell? ⟨b,o + k * 6 + 2,none⟩=some (.int .i64 (elt xs k).num) ∧ w'.cell? ⟨b,o + k * 6 + 3,none⟩=some (.string (elt xs k).text) ∧ w'.cell? ⟨b,o + k * 6 + 4,none⟩=some (sv k) ∧ w'.cell? ⟨b,o + k * 6 + 5,none⟩=some (vv k) ∧ w'.cell? ⟨b2,o2 + k * 6,none⟩=some (.int .i64 (elt xs k).place) ∧ w'.cell? ⟨b2,o2 + k * 6 + 1,none⟩=some (.int .i64 (elt xs k).code) ∧ w'.cell? ⟨b2,o2 + k * 6 + 2,none⟩=some (.int .i64 (elt xs k).num) ∧ w'.cell? ⟨b2,o2 + k * 6 + 3,none⟩=some (.string (elt xs k).text) ∧ w'.cell? ⟨b2,o2 + k * 6 + 4,none⟩=some (sv2 k) ∧ w'.cell? ⟨b2,o2 + k * 6 + 5,none⟩=some (vv2 k))
    (first | exact ⟨bl_drew (qrq _ _),x0,x1,x2,x3,x4,x5,y0,y1,y2,y3,y4,y5⟩ | exact held12 ‹_› hb8)
    (first | (go_at_call 42;refine (wFrames_calls _ _ (elt xs k).stack _ ((V1.out k hlt).1.later (qtq HL.out (held12_bl ‹_›))) ((V2.out k hlt).1.later (qtq HL.out (held12_bl ‹_›)))).mono ?_;rintro e w7 ⟨rfl,hb8⟩) | (go_at_call 43;refine (wVars_calls _ _ (elt xs k).vars _ ((V1.out k hlt).2.later (qtq HL.out (held12_bl ‹_›))) ((V2.out k hlt).2.later (qtq HL.out (held12_bl ‹_›)))).mono ?_;rintro e w8 ⟨rfl,hb8⟩))
   have hbz:Below wr.heap.size wr _:=held12_bl ‹_›
   have HL1:=qhq (qtq HL.out hbz)
   clear hbz hb8 x0 x1 x2 x3 x4 x5 y0 y1 y2 y3 y4 y5
   go_wp2
   go_roundw
   case rel=>exact ⟨k + 1,by omega,by go_num,HL1.out⟩
   case measure=>simp [intOf];omega
  ·clear hb
   go_wp2
   go_ret
   exact ⟨rfl,HL.out⟩
set_option maxRecDepth 100000 in
set_option maxHeartbeats 8000000 in
theorem wTrace_calls (v1 v2 u1 u2:Value) (t:PTr) (w:World) (h1:RdTr w v1 v2 t) (h2:RdTr w u1 u2 t) :
  Calls Tryz.prog 14 #[.agg #[v1,v2],.agg #[u1,u2]] w fun e w'=>e=.returned (.bool true) ∧ Below w.heap.size w w':=by
 have H1:=qhq h1
 have H2:=qhq h2
 obtain ⟨⟨A1,c1,rfl,hn1,-⟩,⟨vvx,⟨A2,c2,rfl,hn2,-⟩,-⟩⟩:=h1
 obtain ⟨⟨B1,d1,rfl,-,-⟩,⟨vvy,⟨B2,d2,rfl,-,-⟩,-⟩⟩:=h2
 obtain ⟨nf,hnf⟩:∃ x,t.fns.length=x:=⟨_,rfl⟩
 obtain ⟨nm,hnm⟩:∃ x,t.moms.length=x:=⟨_,rfl⟩
 have HNF:=qhq hnf
 have HNM:=qhq hnm
 rw [hnf] at hn1 H1 H2 ⊢
 rw [hnm] at hn2 H1 H2 ⊢
 have hdf:((nf:Int) != (nf:Int))=false:=by simp
 have hdm:((nm:Int) != (nm:Int))=false:=by simp
 clear hnf hnm
 go_enter Tryz.func14,Tryz.ntmps14
 go_upto_region 1 with fail
 have HX:=qhq ((BoxAt.new w [.slice A1 nf c1,.slice A2 nm c2] 26).later (qaq (qrq _ _) (.cells #[.slice B1 nf d1,.slice B2 nm d2] 26)))
 have HY:=qhq (BoxAt.new (w.alloc (.cells #[.slice A1 nf c1,.slice A2 nm c2] 26)) [.slice B1 nf d1,.slice B2 nm d2] 26)
 have HB:=qhq (qaq (qaq (qrq _ w) (.cells #[.slice A1 nf c1,.slice A2 nm c2] 26)) (.cells #[.slice B1 nf d1,.slice B2 nm d2] 26))
 rw [World.size_alloc] at HY
 obtain ⟨xb,hxb⟩:∃ x,w.heap.size=x:=⟨_,rfl⟩
 obtain ⟨yb,hyb⟩:∃ x,w.heap.size + 1=x:=⟨_,rfl⟩
 generalize hW:World.alloc (World.alloc w _) _=W at HX HY HB ⊢
 have HSX:Hid (w.heap.size=xb ∧ w.heap.size + 1=yb):=qhq ⟨hxb,hyb⟩
 rw [hyb] at HY
 try rw [hyb]
 rw [hxb] at HX
 try rw [hxb]
 clear hW hxb hyb
 obtain ⟨x0,x1⟩:=HX.out.open2
 obtain ⟨y0,y1⟩:=HY.out.open2
 go_wp2_with fail
 clear x0 x1 y0 y1
 go_loopw [28] (fun i wr=>∃ (k:Nat),k ≤ nf ∧ i=.int .i64 k ∧ Below W.heap.size W wr) (fun i _=>nf - (intOf i).toNat)
 case atStart=>exact ⟨0,Nat.zero_le _,rfl,qrq _ _⟩
 case round =>
  obtain ⟨k,hk,rfl,hb⟩:=hrel
  have HL:=qhq hb
  have HXr:=qhq (HX.out.later hb)
  have HYr:=qhq (HY.out.later hb)
  obtain ⟨x0,x1⟩:=HXr.out.open2
  obtain ⟨y0,y1⟩:=HYr.out.open2
  by_cases hlt:k < nf
  ·obtain ⟨A',c',he,_,hrow⟩:=(H1.out.later (qtq HB.out hb)).1
   rw [HNF.out] at he hrow
   cases he
   obtain ⟨b,o,rfl,hc⟩:=hrow (by omega)
   obtain ⟨A',c',he,_,hrow'⟩:=(H2.out.later (qtq HB.out hb)).1
   rw [HNF.out] at he hrow'
   cases he
   obtain ⟨b2,o2,rfl,hc2⟩:=hrow' (by omega)
   have e0:wr.cell? ⟨b,o + k,none⟩=some (.string (elt t.fns k)):=by have:=hc k hlt 0 (by omega);simpa [strC] using this
   have e1:wr.cell? ⟨b2,o2 + k,none⟩=some (.string (elt t.fns k)):=by have:=hc2 k hlt 0 (by omega);simpa [strC] using this
   have hlt':(k:Int) < (nf:Int):=by omega
   clear hc hc2 hrow hrow' hb
   go_wp2_with fail
   go_quiet (fail)
   go_wp2
   go_roundw
   case rel=>exact ⟨k + 1,by omega,by go_num,qnq HL.out _⟩
   case measure=>simp [intOf];omega
  ·obtain rfl:k=nf:=by omega
   replace HB:=qhq (qtq HB.out hb)
   have hgx:Below W.heap.size W wr:=hb
   clear hb HL
   go_wp2_with fail
   clear x0 x1 y0 y1
   go_loopw [46] (fun i wy=>∃ (q:Nat),q ≤ nm ∧ i=.int .i64 q ∧ Below wr.heap.size wr wy) (fun i _=>nm - (intOf i).toNat)
   case atStart=>exact ⟨0,Nat.zero_le _,rfl,qrq _ _⟩
   case round =>
    obtain ⟨q,hq,rfl,hb⟩:=hrel
    have HL:=qhq hb
    have HXq:=qhq (HXr.out.later hb)
    have HYq:=qhq (HYr.out.later hb)
    obtain ⟨x0,x1⟩:=HXq.out.open2
    obtain ⟨y0,y1⟩:=HYq.out.open2
    by_cases hqn:q < nm
    ·obtain ⟨b,o,vk,hA,d0,d1',d2',d3,d4,d5,hvk⟩:=rd_moment (H1.out.later (qtq HB.out hb)).2 (by rw [HNM.out];exact hqn)
     obtain ⟨bb,oo,vk2,hA2,e0,e1,e2,e3,e4,e5,hvk2⟩:=rd_moment (H2.out.later (qtq HB.out hb)).2 (by rw [HNM.out];exact hqn)
     have HV1:=qhq hvk
     have HV2:=qhq hvk2
     obtain ⟨Av,cv,rfl,-⟩:=hvk
     obtain ⟨Av2,cv2,rfl,-⟩:=hvk2
     subst hA
     subst hA2
     have hqI:(q:Int) < (nm:Int):=by omega
     obtain ⟨m,hm⟩:∃ m,elt t.moms q=m:=⟨_,rfl⟩
     rw [hm] at d0 d1' d2' d3 d4 d5 e0 e1 e2 e3 e4 e5 HV1 HV2
     obtain ⟨mk,mt,mf,ml,mx,mv⟩:=m
     dsimp only at d0 d1' d2' d3 d4 d5 e0 e1 e2 e3 e4 e5 HV1 HV2
     clear hm hb
     go_upto_region 13 with fail
     have hl1:Below wr.heap.size wr (wr.alloc (.cells #[.int .i64 mk,.int .i64 mt,.int .i64 mf,.int .i64 ml,.string mx,.slice Av mv.length cv] 114)):=qaq (qrq _ _) _
     have HM1:=qhq (BoxAt.new wr [.int .i64 mk,.int .i64 mt,.int .i64 mf,.int .i64 ml,.string mx,.slice Av mv.length cv] 114)
     clear d0 d1' d2' d3 d4 d5 x0 x1
     generalize World.alloc wr _=W5 at hl1 HM1 ⊢
     replace y0:=qcq hl1 y0
     replace y1:=qcq hl1 y1
     replace e0:=qcq hl1 e0
     replace e1:=qcq hl1 e1
     replace e2:=qcq hl1 e2
     replace e3:=qcq hl1 e3
     replace e4:=qcq hl1 e4
     replace e5:=qcq hl1 e5
     replace HV1:=qhq (HV1.out.later hl1)
     replace HV2:=qhq (HV2.out.later hl1)
     replace HL:=qhq (qtq HL.out hl1)
     clear hl1
     go_upto_region 14 with fail
     have hl1:Below W5.heap.size W5 (W5.alloc (.cells #[.int .i64 mk,.int .i64 mt,.int .i64 mf,.int .i64 ml,.string mx,.slice Av2 mv.length cv2] 114)):=qaq (qrq _ _) _
     have HM2:=qhq (BoxAt.new W5 [.int .i64 mk,.int .i64 mt,.int .i64 mf,.int .i64 ml,.string mx,.slice Av2 mv.length cv2] 114)
     clear e0 e1 e2 e3 e4 e5 y0 y1
     generalize World.alloc W5 _=W6 at hl1 HM2 ⊢
     replace HM1:=qhq (HM1.out.later hl1)
     replace HV1:=qhq (HV1.out.later hl1)
     replace HV2:=qhq (HV2.out.later hl1)
     replace HL:=qhq (qtq HL.out hl1)
     clear hl1
     have d0:=HM1.out 0 _ rfl
     have d1':=HM1.out 1 _ rfl
     have d2':=HM1.out 2 _ rfl
     have d3:=HM1.out 3 _ rfl
     have d4:=HM1.out 4 _ rfl
     have d5:=HM1.out 5 _ rfl
     have e0:=HM2.out 0 _ rfl
     have e1:=HM2.out 1 _ rfl
     have e2:=HM2.out 2 _ rfl
     have e3:=HM2.out 3 _ rfl
     have e4:=HM2.out 4 _ rfl
     have e5:=HM2.out 5 _ rfl
     go_wp2_with fail
     refine (wVars_calls _ _ mv _ HV1.out HV2.out).mono ?_;rintro e w2 ⟨rfl,hb1⟩
     replace HL:=qhq (qtq HL.out hb1)
     clear hb1 d0 d1' d2' d3 d4 d5 e0 e1 e2 e3 e4 e5
     go_wp2
     go_roundw
     case rel=>exact ⟨q + 1,by omega,by go_num,HL.out⟩
     case measure=>simp [intOf];omega
    ·replace HB:=qhq (qtq HB.out hb)
     clear hb HL
     go_wp2
     go_ret
     exact ⟨rfl,HB.out⟩
theorem held4 {w W W':World} {a1 a2 a3 a4:Addr} {v1 v2 v3 v4:Value} (h:Below w.heap.size w W ∧ W.cell? a1=some v1 ∧ W.cell? a2=some v2 ∧ W.cell? a3=some v3 ∧ W.cell? a4=some v4) (hb:Below W.heap.size W W') :
  Below w.heap.size w W' ∧ W'.cell? a1=some v1 ∧ W'.cell? a2=some v2 ∧ W'.cell? a3=some v3 ∧ W'.cell? a4=some v4 :=
 ⟨qtq h.1 hb,qcq hb h.2.1,qcq hb h.2.2.1,qcq hb h.2.2.2.1,qcq hb h.2.2.2.2⟩
theorem held4_bl {w W:World} {a1 a2 a3 a4:Addr} {v1 v2 v3 v4:Value} (h:Below w.heap.size w W ∧ W.cell? a1=some v1 ∧ W.cell? a2=some v2 ∧ W.cell? a3=some v3 ∧ W.cell? a4=some v4):Below w.heap.size w W:=h.1
end Go.Proofs.YtcklnjjbhngbcaaGreatDoor
