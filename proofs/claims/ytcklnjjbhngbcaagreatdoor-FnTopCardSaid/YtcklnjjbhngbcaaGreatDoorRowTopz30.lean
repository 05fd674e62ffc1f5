/- Lemmas and contracts of functions that the theorem of this claim leans on (texts E11, E1, E12). -/
import Derived.Test.YtcklnjjbhngbcaaGreatDoorRowTopz00
import Derived.Test.YtcklnjjbhngbcaaGreatDoorRowTopz29
import Derived.WalkKit
import Derived.LaidEql
import Derived.Stop.Asserts
import Derived.RowKitTokens
import Derived.Test.YtcklnjjbhngbcaaGreatDoorRowUnz05
import Derived.Test.YtcklnjjbhngbcaaGreatDoorRowTopz16
namespace Go.Proofs.YtcklnjjbhngbcaaGreatDoor
open Go.RowKit Go.Proofs.Lens
set_option linter.unusedSimpArgs false
set_option maxRecDepth 100000 in
set_option maxHeartbeats 2000000 in
theorem askOk_2 (a:PAsk) (w:World) (h1:a.op=2) (hz:a.nm.size ≤ 9223372036854775807) :
  Calls Tryz.prog 40 #[.agg #[.int .i64 a.op,.int .i64 a.n,.string a.nm,.int .i64 a.stop.kind,.int .i64 a.stop.fn,.int .i64 a.stop.line,.string a.stop.nm]] w fun e w'=>e=.returned (.bool (askOk a)) ∧ Below w.heap.size w w':=by
 obtain ⟨op,n,nm,st⟩:=a
 simp only at h1 hz ⊢
 subst h1
 have HA:Hid (askOk ⟨2,n,nm,st⟩=(inB n 0 49 && noS nm && noStop st)):=qhq (by unfold askOk;simp)
 go_enter Tryz.func40,Tryz.ntmps40
 go_wp2_with fail
 refine (inside_calls _ _ _ _).mono ?_;rintro e w' ⟨rfl,rfl⟩
 obtain ⟨b,hb⟩:∃ b,inB n 0 49=b:=⟨_,rfl⟩
 rw [hb]
 rw [hb] at HA
 cases b with
 | false =>
  go_wp2_with fail
  go_ret
  exact ⟨ret_bool (by rw [HA.out];simp),(by repeat (with_reducible first | exact qrq _ _ | exact HL.out | refine qaq ?_ _ | refine bl_set ?_ (by dsimp only;omega) _))⟩
 | true =>
  clear hb
  go_wp2_with fail
  all_goals
   go_ret
   refine ⟨ret_bool ?_,(by repeat (with_reducible first | exact qrq _ _ | exact HL.out | refine qaq ?_ _ | refine bl_set ?_ (by dsimp only;omega) _))⟩
   go_tidy
   rw [HA.out]
   unfold noStop noS
   grind [inB,List.isEmpty_iff]
set_option maxRecDepth 100000 in
set_option maxHeartbeats 2000000 in
theorem askOk_13 (a:PAsk) (w:World) (h1:a.op=13) (hz:a.nm.size ≤ 9223372036854775807) :
  Calls Tryz.prog 40 #[.agg #[.int .i64 a.op,.int .i64 a.n,.string a.nm,.int .i64 a.stop.kind,.int .i64 a.stop.fn,.int .i64 a.stop.line,.string a.stop.nm]] w fun e w'=>e=.returned (.bool (askOk a)) ∧ Below w.heap.size w w':=by
 obtain ⟨op,n,nm,st⟩:=a
 simp only at h1 hz ⊢
 subst h1
 have HA:Hid (askOk ⟨13,n,nm,st⟩=(inB n 0 49 && noS nm && noStop st)):=qhq (by unfold askOk;simp)
 go_enter Tryz.func40,Tryz.ntmps40
 go_wp2_with fail
 refine (inside_calls _ _ _ _).mono ?_;rintro e w' ⟨rfl,rfl⟩
 obtain ⟨b,hb⟩:∃ b,inB n 0 49=b:=⟨_,rfl⟩
 rw [hb]
 rw [hb] at HA
 cases b with
 | false =>
  go_wp2_with fail
  go_ret
  exact ⟨ret_bool (by rw [HA.out];simp),(by repeat (with_reducible first | exact qrq _ _ | exact HL.out | refine qaq ?_ _ | refine bl_set ?_ (by dsimp only;omega) _))⟩
 | true =>
  clear hb
  go_wp2_with fail
  all_goals
   go_ret
   refine ⟨ret_bool ?_,(by repeat (with_reducible first | exact qrq _ _ | exact HL.out | refine qaq ?_ _ | refine bl_set ?_ (by dsimp only;omega) _))⟩
   go_tidy
   rw [HA.out]
   unfold noStop noS
   grind [inB,List.isEmpty_iff]
set_option maxRecDepth 100000 in
set_option maxHeartbeats 2000000 in
theorem askOk_9 (a:PAsk) (w:World) (h1:a.op=9) (hz:a.nm.size ≤ 9223372036854775807) :
  Calls Tryz.prog 40 #[.agg #[.int .i64 a.op,.int .i64 a.n,.string a.nm,.int .i64 a.stop.kind,.int .i64 a.stop.fn,.int .i64 a.stop.line,.string a.stop.nm]] w fun e w'=>e=.returned (.bool (askOk a)) ∧ Below w.heap.size w w':=by
 obtain ⟨op,n,nm,st⟩:=a
 simp only at h1 hz ⊢
 subst h1
 have HA:Hid (askOk ⟨9,n,nm,st⟩=(inB n (-1) 3000 && noS nm && noStop st)):=qhq (by unfold askOk;simp)
 go_enter Tryz.func40,Tryz.ntmps40
 go_wp2_with fail
 refine (inside_calls _ _ _ _).mono ?_;rintro e w' ⟨rfl,rfl⟩
 obtain ⟨b,hb⟩:∃ b,inB n (-1) 3000=b:=⟨_,rfl⟩
 rw [hb]
 rw [hb] at HA
 cases b with
 | false =>
  go_wp2_with fail
  go_ret
  exact ⟨ret_bool (by rw [HA.out];simp),(by repeat (with_reducible first | exact qrq _ _ | exact HL.out | refine qaq ?_ _ | refine bl_set ?_ (by dsimp only;omega) _))⟩
 | true =>
  clear hb
  go_wp2_with fail
  all_goals
   go_ret
   refine ⟨ret_bool ?_,(by repeat (with_reducible first | exact qrq _ _ | exact HL.out | refine qaq ?_ _ | refine bl_set ?_ (by dsimp only;omega) _))⟩
   go_tidy
   rw [HA.out]
   unfold noStop noS
   grind [inB,List.isEmpty_iff]
set_option maxRecDepth 100000 in
set_option maxHeartbeats 2000000 in
theorem askOk_10 (a:PAsk) (w:World) (h1:a.op=10) (hz:a.nm.size ≤ 9223372036854775807) :
  Calls Tryz.prog 40 #[.agg #[.int .i64 a.op,.int .i64 a.n,.string a.nm,.int .i64 a.stop.kind,.int .i64 a.stop.fn,.int .i64 a.stop.line,.string a.stop.nm]] w fun e w'=>e=.returned (.bool (askOk a)) ∧ Below w.heap.size w w':=by
 obtain ⟨op,n,nm,st⟩:=a
 simp only at h1 hz ⊢
 subst h1
 have HA:Hid (askOk ⟨10,n,nm,st⟩=(inB n 0 100 && noS nm && noStop st)):=qhq (by unfold askOk;simp)
 go_enter Tryz.func40,Tryz.ntmps40
 go_wp2_with fail
 refine (inside_calls _ _ _ _).mono ?_;rintro e w' ⟨rfl,rfl⟩
 obtain ⟨b,hb⟩:∃ b,inB n 0 100=b:=⟨_,rfl⟩
 rw [hb]
 rw [hb] at HA
 cases b with
 | false =>
  go_wp2_with fail
  go_ret
  exact ⟨ret_bool (by rw [HA.out];simp),(by repeat (with_reducible first | exact qrq _ _ | exact HL.out | refine qaq ?_ _ | refine bl_set ?_ (by dsimp only;omega) _))⟩
 | true =>
  clear hb
  go_wp2_with fail
  all_goals
   go_ret
   refine ⟨ret_bool ?_,(by repeat (with_reducible first | exact qrq _ _ | exact HL.out | refine qaq ?_ _ | refine bl_set ?_ (by dsimp only;omega) _))⟩
   go_tidy
   rw [HA.out]
   unfold noStop noS
   grind [inB,List.isEmpty_iff]
set_option maxRecDepth 100000 in
set_option maxHeartbeats 2000000 in
theorem askOk_12 (a:PAsk) (w:World) (h1:a.op=12) (hz:a.nm.size ≤ 9223372036854775807) :
  Calls Tryz.prog 40 #[.agg #[.int .i64 a.op,.int .i64 a.n,.string a.nm,.int .i64 a.stop.kind,.int .i64 a.stop.fn,.int .i64 a.stop.line,.string a.stop.nm]] w fun e w'=>e=.returned (.bool (askOk a)) ∧ Below w.heap.size w w':=by
 obtain ⟨op,n,nm,st⟩:=a
 simp only at h1 hz ⊢
 subst h1
 have HA:Hid (askOk ⟨12,n,nm,st⟩=(inB nm.size 1 40 && decide (n=0) && noStop st)):=qhq (by unfold askOk;simp;rw [Bool.and_comm (decide (n=0))])
 go_enter Tryz.func40,Tryz.ntmps40
 go_wp2_with fail
 refine (inside_calls _ _ _ _).mono ?_;rintro e w' ⟨rfl,rfl⟩
 obtain ⟨b,hb⟩:∃ b,inB nm.size 1 40=b:=⟨_,rfl⟩
 rw [hb]
 rw [hb] at HA
 cases b with
 | false =>
  go_wp2_with fail
  go_ret
  exact ⟨ret_bool (by rw [HA.out];simp),(by repeat (with_reducible first | exact qrq _ _ | exact HL.out | refine qaq ?_ _ | refine bl_set ?_ (by dsimp only;omega) _))⟩
 | true =>
  clear hb
  go_wp2_with fail
  all_goals
   go_ret
   refine ⟨ret_bool ?_,(by repeat (with_reducible first | exact qrq _ _ | exact HL.out | refine qaq ?_ _ | refine bl_set ?_ (by dsimp only;omega) _))⟩
   go_tidy
   rw [HA.out]
   unfold noStop noS
   grind [inB,List.isEmpty_iff]
set_option maxRecDepth 100000 in
set_option maxHeartbeats 2000000 in
theorem askOk_else (a:PAsk) (w:World) (h1:a.op ≠ 1) (h2:a.op ≠ 2) (h3:a.op ≠ 13) (h9:a.op ≠ 9) (h10:a.op ≠ 10) (h12:a.op ≠ 12) (hz:a.nm.size ≤ 9223372036854775807) :
  Calls Tryz.prog 40 #[.agg #[.int .i64 a.op,.int .i64 a.n,.string a.nm,.int .i64 a.stop.kind,.int .i64 a.stop.fn,.int .i64 a.stop.line,.string a.stop.nm]] w fun e w'=>e=.returned (.bool (askOk a)) ∧ Below w.heap.size w w':=by
 obtain ⟨op,n,nm,st⟩:=a
 simp only at h1 h2 h3 h9 h10 h12 hz ⊢
 have q1:(op == 1)=false:=by simp [h1]
 have q2:(op == 2)=false:=by simp [h2]
 have q3:(op == 13)=false:=by simp [h3]
 have q9:(op == 9)=false:=by simp [h9]
 have q10:(op == 10)=false:=by simp [h10]
 have q12:(op == 12)=false:=by simp [h12]
 have HA:Hid (askOk ⟨op,n,nm,st⟩=(inB op 1 13 && decide (n=0) && noS nm && noStop st)):=qhq (by unfold askOk;simp [h1,h2,h3,h9,h10,h12])
 clear h1 h2 h3 h9 h10 h12
 go_enter Tryz.func40,Tryz.ntmps40
 go_wp2_with fail
 refine (inside_calls _ _ _ _).mono ?_;rintro e w' ⟨rfl,rfl⟩
 obtain ⟨b,hb⟩:∃ b,inB op 1 13=b:=⟨_,rfl⟩
 rw [hb]
 rw [hb] at HA
 cases b with
 | false =>
  go_wp2_with fail
  go_ret
  exact ⟨ret_bool (by rw [HA.out];simp),(by repeat (with_reducible first | exact qrq _ _ | exact HL.out | refine qaq ?_ _ | refine bl_set ?_ (by dsimp only;omega) _))⟩
 | true =>
  clear hb
  go_wp2_with fail
  all_goals
   go_ret
   refine ⟨ret_bool ?_,(by repeat (with_reducible first | exact qrq _ _ | exact HL.out | refine qaq ?_ _ | refine bl_set ?_ (by dsimp only;omega) _))⟩
   go_tidy
   rw [HA.out]
   unfold noStop noS
   grind [inB,List.isEmpty_iff]
set_option maxRecDepth 100000 in
set_option maxHeartbeats 2000000 in
theorem askOk_1 (a:PAsk) (w:World) (h1:a.op=1) (hz:a.nm.size ≤ 9223372036854775807) :
  Calls Tryz.prog 40 #[.agg #[.int .i64 a.op,.int .i64 a.n,.string a.nm,.int .i64 a.stop.kind,.int .i64 a.stop.fn,.int .i64 a.stop.line,.string a.stop.nm]] w fun e w'=>e=.returned (.bool (askOk a)) ∧ Below w.heap.size w w':=by
 obtain ⟨op,n,nm,st⟩:=a
 simp only at h1 hz ⊢
 subst h1
 obtain ⟨b,hb⟩:∃ b,stopOk st=b:=⟨_,rfl⟩
 have HA:Hid (askOk ⟨1,n,nm,st⟩=(decide (n=0) && noS nm && b)):=qhq (by unfold askOk;simp [hb])
 have HX:=qhq ((Blk.made w #[.int .i64 1,.int .i64 n,.string nm,.int .i64 st.kind,.int .i64 st.fn,.int .i64 st.line,.string st.nm] 47).alloc (.cells #[.int .i64 1,.int .i64 0,.string ⟨#[]⟩,.int .i64 st.kind,.int .i64 st.fn,.int .i64 st.line,.string st.nm] 47))
 have hY:=Blk.made (w.alloc (.cells #[.int .i64 1,.int .i64 n,.string nm,.int .i64 st.kind,.int .i64 st.fn,.int .i64 st.line,.string st.nm] 47)) #[.int .i64 1,.int .i64 0,.string ⟨#[]⟩,.int .i64 st.kind,.int .i64 st.fn,.int .i64 st.line,.string st.nm] 47
 rw [World.size_alloc] at hY
 have HY:=qhq hY
 have HL:=qhq (qaq (qaq (qrq _ w) (.cells #[.int .i64 1,.int .i64 n,.string nm,.int .i64 st.kind,.int .i64 st.fn,.int .i64 st.line,.string st.nm] 47)) (.cells #[.int .i64 1,.int .i64 0,.string ⟨#[]⟩,.int .i64 st.kind,.int .i64 st.fn,.int .i64 st.line,.string st.nm] 47))
 clear hY
 go_enter Tryz.func40,Tryz.ntmps40
 go_wp2_with fail
 refine (impl_StopOk_un st _ hb).mono ?_;rintro e w1 ⟨rfl,hbl⟩
 replace HX:=qhq (HX.out.later hbl);replace HY:=qhq (HY.out.later hbl);replace HL:=qhq (qtq HL.out hbl);clear hbl
 have x0:w1.cell? ⟨w.heap.size,0,none⟩=some (.int .i64 1):=HX.out.cell (j:=0) (by simp)
 have x1:w1.cell? ⟨w.heap.size,1,none⟩=some (.int .i64 n):=HX.out.cell (j:=1) (by simp)
 have x2:w1.cell? ⟨w.heap.size,2,none⟩=some (.string nm):=HX.out.cell (j:=2) (by simp)
 have x3:w1.cell? ⟨w.heap.size,3,none⟩=some (.int .i64 st.kind):=HX.out.cell (j:=3) (by simp)
 have x4:w1.cell? ⟨w.heap.size,4,none⟩=some (.int .i64 st.fn):=HX.out.cell (j:=4) (by simp)
 have x5:w1.cell? ⟨w.heap.size,5,none⟩=some (.int .i64 st.line):=HX.out.cell (j:=5) (by simp)
 have x6:w1.cell? ⟨w.heap.size,6,none⟩=some (.string st.nm):=HX.out.cell (j:=6) (by simp)
 have y0:w1.cell? ⟨w.heap.size + 1,0,none⟩=some (.int .i64 1):=HY.out.cell (j:=0) (by simp)
 have y1:w1.cell? ⟨w.heap.size + 1,1,none⟩=some (.int .i64 0):=HY.out.cell (j:=1) (by simp)
 have y2:w1.cell? ⟨w.heap.size + 1,2,none⟩=some (.string ⟨#[]⟩):=HY.out.cell (j:=2) (by simp)
 have y3:w1.cell? ⟨w.heap.size + 1,3,none⟩=some (.int .i64 st.kind):=HY.out.cell (j:=3) (by simp)
 have y4:w1.cell? ⟨w.heap.size + 1,4,none⟩=some (.int .i64 st.fn):=HY.out.cell (j:=4) (by simp)
 have y5:w1.cell? ⟨w.heap.size + 1,5,none⟩=some (.int .i64 st.line):=HY.out.cell (j:=5) (by simp)
 have y6:w1.cell? ⟨w.heap.size + 1,6,none⟩=some (.string st.nm):=HY.out.cell (j:=6) (by simp)
 cases b with
 | false =>
  go_wp2_with fail
  go_ret
  exact ⟨ret_bool (by rw [HA.out];simp),HL.out⟩
 | true =>
  clear hb
  go_wp2_with fail
  all_goals
   go_ret
   refine ⟨ret_bool ?_,HL.out⟩
   go_tidy
   rw [HA.out]
   unfold noS
   grind [inB,List.isEmpty_iff]
theorem askOk_calls (a:PAsk) (w:World) (hz:a.nm.size ≤ 9223372036854775807) :
  Calls Tryz.prog 40 #[.agg #[.int .i64 a.op,.int .i64 a.n,.string a.nm,.int .i64 a.stop.kind,.int .i64 a.stop.fn,.int .i64 a.stop.line,.string a.stop.nm]] w fun e w'=>e=.returned (.bool (askOk a)) ∧ Below w.heap.size w w':=by
 by_cases h1:a.op=1
 ·exact askOk_1 a w h1 hz
 by_cases h2:a.op=2
 ·exact askOk_2 a w h2 hz
 by_cases h3:a.op=13
 ·exact askOk_13 a w h3 hz
 by_cases h9:a.op=9
 ·exact askOk_9 a w h9 hz
 by_cases h10:a.op=10
 ·exact askOk_10 a w h10 hz
 by_cases h12:a.op=12
 ·exact askOk_12 a w h12 hz
 exact askOk_else a w h1 h2 h3 h9 h10 h12 hz
end Go.Proofs.YtcklnjjbhngbcaaGreatDoor

namespace Go.Proofs.YtcklnjjbhngbcaaGreatDoor
open Go.RowKit Go.Extern.Stop Go.Stop Go.Extern Go.Proofs.Lens
theorem as_nil (t:Value) (w:World) :
  Calls Tryz.prog 41 #[.nilIface,t] w fun e w'=>e=.returned (.bool false) ∧ w'=w:=by
 go_enter Tryz.func41,Tryz.ntmps41
 go_wp2
 go_ret
 exact ⟨rfl,rfl⟩
theorem As.valueOf27 (t:Addr) (w:World):(ReflectliteValue.unpack (.iface 97 (.pointer (some t)))).run Tryz.prog w
  = .ok (.agg #[.pointer (some ⟨4,97,none⟩),.pointer (some ⟨w.heap.size,0,none⟩),.int .u64 150]) (w.alloc (.cells #[.pointer (some t)] 97)):=by kernel_rfl
theorem As.type27 (a : Addr) (w : World) : (ReflectliteValue.methodAny (ReflectliteValue.valueError "reflectlite.Value.Type" 0) (fun t _ _ _ => ReflectliteType.toType t) #[.agg #[.pointer (some ⟨4, 97, none⟩), .pointer (some a), .int .u64 150]]).run Tryz.prog w
  = .ok (.iface 220 (.agg #[.pointer (some ⟨4,97,none⟩)])) w:=by kernel_rfl
theorem As.methodKind (h : Value) (w : World) : (Go.method 407 220 (.agg #[h]) "Kind").run Tryz.prog w = .ok (213, h) w := by kernel_rfl
theorem As.kind27 (w:World):((ReflectliteType.abiMethod fun t=>(fun a:Nat=>Value.int IntKind.u8 (a:Int)) <$> Rtype.kind t) #[.pointer (some ⟨4,97,none⟩)]).run Tryz.prog w=.ok (.int .u8 22) w:=by kernel_rfl
theorem As.kind25 (w:World):((ReflectliteType.abiMethod fun t=>(fun a:Nat=>Value.int IntKind.u8 (a:Int)) <$> Rtype.kind t) #[.pointer (some ⟨4,87,none⟩)]).run Tryz.prog w=.ok (.int .u8 2) w:=by kernel_rfl
theorem rlm (z:Sem Value) (f:TypeId → Addr → Nat → Nat → Sem Value) (v:Value) :
  ReflectliteValue.method z f #[v]=(do match ← ReflectliteValue.parts v with | none=>z | some (t,a,fl)=>f t a fl (fl % 32)):=rfl
theorem As.parts27 (a:Addr) (w:World):(ReflectliteValue.parts (.agg #[.pointer (some ⟨4,97,none⟩),.pointer (some a),.int .u64 150])).run Tryz.prog w=.ok (some (97,a,150)) w:=by kernel_rfl
theorem As.isNil27 (a p:Addr) (W:World) (ha:W.cell? a=some (.pointer (some p))) :
  (ReflectliteValue.method (ReflectliteValue.valueError "reflectlite.Value.IsNil" 0) ReflectliteValue.isNil #[.agg #[.pointer (some ⟨4, 97, none⟩), .pointer (some a), .int .u64 150]]).run Tryz.prog W = .ok (.bool false) W := by
 rw [rlm]
 simp only [Sem.run_bind,As.parts27,Result.andThen]
 simp [ReflectliteValue.isNil,loadVar,isAgg,underlying,Tryz.underlying97,ha,Result.andThen]
theorem As.methodElem (h : Value) (w : World) : (Go.method 407 220 (.agg #[h]) "Elem").run Tryz.prog w = .ok (224, .agg #[h]) w := by kernel_rfl
theorem As.methodImplements (h : Value) (w : World) : (Go.method 407 220 (.agg #[h]) "Implements").run Tryz.prog w = .ok (225, .agg #[h]) w := by kernel_rfl
theorem As.methodAssignableTo (h : Value) (w : World) : (Go.method 407 220 (.agg #[h]) "AssignableTo").run Tryz.prog w = .ok (222, .agg #[h]) w := by kernel_rfl
theorem As.elem27 (w:World):(ReflectliteType.method ReflectliteType.elem #[.agg #[.pointer (some ⟨4,97,none⟩)]]).run Tryz.prog w=.ok (.iface 220 (.agg #[.pointer (some ⟨4,87,none⟩)])) w:=by kernel_rfl
theorem As.implements25 (w : World) : (ReflectliteType.relation "Implements" ReflectliteType.implements_ #[.agg #[.pointer (some ⟨4, 87, none⟩)], .iface 220 (.agg #[.pointer (some ⟨4, 86, none⟩)])]).run Tryz.prog w = .ok (.bool true) w := by kernel_rfl
theorem As.typeOf25 (v:Value) (w:World):(ReflectliteType.typeOf #[.iface 87 v]).run Tryz.prog w=.ok (.iface 220 (.agg #[.pointer (some ⟨4,87,none⟩)])) w:=by kernel_rfl
theorem As.assignable25 (w : World) : (ReflectliteType.relation "AssignableTo" ReflectliteType.assignableTo #[.agg #[.pointer (some ⟨4, 87, none⟩)], .iface 220 (.agg #[.pointer (some ⟨4, 87, none⟩)])]).run Tryz.prog w = .ok (.bool true) w := by kernel_rfl
theorem As.valueOf25 (n:Int) (w:World):(ReflectliteValue.unpack (.iface 87 (.int .i64 n))).run Tryz.prog w
  = .ok (.agg #[.pointer (some ⟨4,87,none⟩),.pointer (some ⟨w.heap.size,0,none⟩),.int .u64 130]) (w.alloc (.cells #[.int .i64 n] 87)):=by kernel_rfl
theorem As.elemOf27 (w:World):(Rtype.elem? 97).run Tryz.prog w=.ok (some 87) w:=by kernel_rfl
theorem As.mk25 (p:Addr) (w:World):(ReflectliteValue.mk 87 p ReflectliteValue.flagAddr).run Tryz.prog w=.ok (.agg #[.pointer (some ⟨4,87,none⟩),.pointer (some p),.int .u64 386]) w:=by kernel_rfl
theorem As.elemV27 (a p:Addr) (W:World) (ha:W.cell? a=some (.pointer (some p))) :
  (ReflectliteValue.method (ReflectliteValue.valueError "reflectlite.Value.Elem" 0) ReflectliteValue.elem #[.agg #[.pointer (some ⟨4, 97, none⟩), .pointer (some a), .int .u64 150]]).run Tryz.prog W
   = .ok (.agg #[.pointer (some ⟨4,87,none⟩),.pointer (some p),.int .u64 386]) W:=by
 rw [rlm]
 simp only [Sem.run_bind,As.parts27,Result.andThen]
 simp [ReflectliteValue.elem,loadVar,isAgg,underlying,Tryz.underlying97,ha,Result.andThen,As.elemOf27,As.mk25]
theorem rls (v x:Value):ReflectliteValue.set #[v,x]=(do
  let (some (dst,a,fl),some (src,b,_)):=(← ReflectliteValue.parts v,← ReflectliteValue.parts x)
   | unsupported (.noEntry "extern/(internal/reflectlite.Value).Set.zeroValue")
  if fl / ReflectliteValue.flagAddr % 2 == 0 then unsupported (.noEntry "extern/(internal/reflectlite.Value).Set.unaddressable")
  let val ← loadVar src b
  if ← Rtype.directlyAssignable dst src then storeVar dst a val
  else if ← Rtype.implements dst src then
   if (← Rtype.kind src) == 20 then
    match val with
    | .nilIface => unsupported (.noEntry "extern/reflectlite: a nil value of one interface type handed on as a value of another")
    | _=>storeVar dst a val
   else storeVar dst a (.iface src val)
  else panicString ("reflectlite.Set: value of type " ++ (← Rtype.spelt src) ++ " is not assignable to type " ++ (← Rtype.spelt dst))
  pure (.tuple #[])):=rfl
theorem As.parts25a (a:Addr) (w:World):(ReflectliteValue.parts (.agg #[.pointer (some ⟨4,87,none⟩),.pointer (some a),.int .u64 386])).run Tryz.prog w=.ok (some (87,a,386)) w:=by kernel_rfl
theorem As.parts25 (a:Addr) (w:World):(ReflectliteValue.parts (.agg #[.pointer (some ⟨4,87,none⟩),.pointer (some a),.int .u64 130])).run Tryz.prog w=.ok (some (87,a,130)) w:=by kernel_rfl
theorem As.direct25 (w:World):(Rtype.directlyAssignable 87 87).run Tryz.prog w=.ok true w:=by kernel_rfl
theorem As.set25 (ta b:Addr) (n:Int) (old:Value) (W:World) (hb:W.cell? b=some (.int .i64 n)) (ht:W.cell? ta=some old) (hf:W.frozen? ta=false) :
  (ReflectliteValue.set #[.agg #[.pointer (some ⟨4,87,none⟩),.pointer (some ta),.int .u64 386],.agg #[.pointer (some ⟨4,87,none⟩),.pointer (some b),.int .u64 130]]).run Tryz.prog W
   = .ok (.tuple #[]) (W.setCell ta (.int .i64 n)):=by
 rw [rls]
 simp only [Sem.run_bind,As.parts25a,As.parts25,Result.andThen]
 simp [ReflectliteValue.flagAddr,loadVar,isAgg,underlying,Tryz.underlying87,hb,Result.andThen,As.direct25,storeVar,Value.cells,storeCells,Addr.add]
 rw [run_store Tryz.prog W ta _ _ (by rfl)]
 simp [ht,hf]
set_option maxHeartbeats 4000000 in
theorem as_hit (n:Int) (t:Addr) (old:Value) (w:World) (hg:w.cell? ⟨0,0,none⟩=some (.iface 220 (.agg #[.pointer (some ⟨4,86,none⟩)]))) (ht0:w.cell? t=some old) (hf0:w.frozen? t=false) :
  Calls Tryz.prog 41 #[.iface 87 (.int .i64 n),.iface 97 (.pointer (some t))] w fun ev w'=>ev=.returned (.bool true) ∧ w'=((((w.alloc (.cells #[.pointer (some t)] 97)).alloc (.cells #[.pointer (some ⟨4,97,none⟩),.pointer (some ⟨w.heap.size,0,none⟩),.int .u64 150] 181)).alloc (.cells #[.pointer (some ⟨4,97,none⟩),.pointer (some ⟨w.heap.size,0,none⟩),.int .u64 150] 181)).alloc (.cells #[.int .i64 n] 87)).setCell t (.int .i64 n):=by
 have h6:=@run_callFunc_extern Tryz.prog 117 _ (fun args=>ReflectliteValue.unpack (args.getD 0 (.tuple #[]))) Tryz.func117 (by kernel_rfl) (by kernel_rfl) (by kernel_rfl) (by kernel_rfl)
 have h7 := @run_callFunc_extern Tryz.prog 118 _ (ReflectliteValue.methodAny (ReflectliteValue.valueError "reflectlite.Value.Type" 0) (fun t _ _ _ => ReflectliteType.toType t)) Tryz.func118 (by kernel_rfl) (by kernel_rfl) (by kernel_rfl) (by kernel_rfl)
 have h8 := @run_callFunc_extern Tryz.prog 119 _ (ReflectliteValue.method (ReflectliteValue.valueError "reflectlite.Value.IsNil" 0) ReflectliteValue.isNil) Tryz.func119 (by kernel_rfl) (by kernel_rfl) (by kernel_rfl) (by kernel_rfl)
 have h27:=@run_callFunc_extern Tryz.prog 213 _ (ReflectliteType.abiMethod fun t=>do pure (.int .u8 (← Rtype.kind t))) Tryz.func213 (by kernel_rfl) (by kernel_rfl) (by kernel_rfl) (by kernel_rfl)
 have h37:=@run_callFunc_extern Tryz.prog 224 _ (ReflectliteType.method ReflectliteType.elem) Tryz.func224 (by kernel_rfl) (by kernel_rfl) (by kernel_rfl) (by kernel_rfl)
 have h38 := @run_callFunc_extern Tryz.prog 225 _ (ReflectliteType.relation "Implements" ReflectliteType.implements_) Tryz.func225 (by kernel_rfl) (by kernel_rfl) (by kernel_rfl) (by kernel_rfl)
 have h10:=@run_callFunc_extern Tryz.prog 157 _ ReflectliteType.typeOf Tryz.func157 (by kernel_rfl) (by kernel_rfl) (by kernel_rfl) (by kernel_rfl)
 have h35 := @run_callFunc_extern Tryz.prog 222 _ (ReflectliteType.relation "AssignableTo" ReflectliteType.assignableTo) Tryz.func222 (by kernel_rfl) (by kernel_rfl) (by kernel_rfl) (by kernel_rfl)
 have h11 := @run_callFunc_extern Tryz.prog 158 _ (ReflectliteValue.method (ReflectliteValue.valueError "reflectlite.Value.Elem" 0) ReflectliteValue.elem) Tryz.func158 (by kernel_rfl) (by kernel_rfl) (by kernel_rfl) (by kernel_rfl)
 have h12:=@run_callFunc_extern Tryz.prog 159 _ ReflectliteValue.set Tryz.func159 (by kernel_rfl) (by kernel_rfl) (by kernel_rfl) (by kernel_rfl)
 have tO:=As.typeOf25
 have mA:=As.methodAssignableTo
 have a25:=As.assignable25
 have v25:=As.valueOf25
 have f6:=As.valueOf27
 have f7:=As.type27
 have mK:=As.methodKind
 have mE:=As.methodElem
 have mI:=As.methodImplements
 have k27:=As.kind27
 have k25:=As.kind25
 have e27:=As.elem27
 have i25:=As.implements25
 have n8:=As.isNil27 ⟨w.heap.size,0,none⟩ t ((w.alloc (.cells #[.pointer (some t)] 97)).alloc (.cells #[.pointer (some ⟨4,97,none⟩),.pointer (some ⟨w.heap.size,0,none⟩),.int .u64 150] 181)) (by simp)
 have hlt:0 < w.heap.size:=by
  rcases Nat.eq_zero_or_pos w.heap.size with h0 | h
  ·simp [World.cell?,h0] at hg
  ·exact h
 have hg2:((w.alloc (.cells #[.pointer (some t)] 97)).alloc (.cells #[.pointer (some ⟨4,97,none⟩),.pointer (some ⟨w.heap.size,0,none⟩),.int .u64 150] 181)).cell? ⟨0,0,none⟩=some (.iface 220 (.agg #[.pointer (some ⟨4,86,none⟩)])):=by
  rw [World.cell?_alloc_lt _ _ ⟨0,0,none⟩ (by simp),World.cell?_alloc_lt _ _ ⟨0,0,none⟩ hlt];exact hg
 have htl:t.block < w.heap.size:=by
  rcases Nat.lt_or_ge t.block w.heap.size with h | h
  ·exact h
  ·simp [World.cell?,Array.getElem?_eq_none h] at ht0
 have el:=As.elemV27 ⟨w.heap.size,0,none⟩ t (((w.alloc (.cells #[.pointer (some t)] 97)).alloc (.cells #[.pointer (some ⟨4,97,none⟩),.pointer (some ⟨w.heap.size,0,none⟩),.int .u64 150] 181)).alloc (.cells #[.pointer (some ⟨4,97,none⟩),.pointer (some ⟨w.heap.size,0,none⟩),.int .u64 150] 181)) (by rw [World.cell?_alloc_lt _ _ ⟨w.heap.size,0,none⟩ (by simp;omega)];simp)
 have st:=As.set25 t ⟨w.heap.size + 1 + 1 + 1,0,none⟩ n old ((((w.alloc (.cells #[.pointer (some t)] 97)).alloc (.cells #[.pointer (some ⟨4,97,none⟩),.pointer (some ⟨w.heap.size,0,none⟩),.int .u64 150] 181)).alloc (.cells #[.pointer (some ⟨4,97,none⟩),.pointer (some ⟨w.heap.size,0,none⟩),.int .u64 150] 181)).alloc (.cells #[.int .i64 n] 87))
  (by rw [World.cell?_alloc_at _ _ _ _ (by simp)];rfl)
  (by rw [World.cell?_alloc_lt _ _ t (by simp;omega),World.cell?_alloc_lt _ _ t (by simp;omega),World.cell?_alloc_lt _ _ t (by simp;omega),World.cell?_alloc_lt _ _ t htl];exact ht0)
  (by rw [World.frozen?_alloc_old _ _ t (by simp;omega),World.frozen?_alloc_old _ _ t (by simp;omega),World.frozen?_alloc_old _ _ t (by simp;omega),World.frozen?_alloc_old _ _ t (Nat.ne_of_lt htl)];exact hf0)
 go_enter Tryz.func41,Tryz.ntmps41
 go_wp2
 refine wp_loop_rounds 1 ?_
 rw [rounds_succ]
 go_wp2
 go_ret
 exact ⟨rfl,rfl⟩
end Go.Proofs.YtcklnjjbhngbcaaGreatDoor

namespace Go.Proofs.YtcklnjjbhngbcaaGreatDoor
open Go.RowKit Go.Proofs.Lens
set_option linter.unusedSimpArgs false
def doF (j:Nat):Nat:=match j with
 | 1=>99 | 2=>100 | 3=>102 | 4=>105 | 5=>107 | 6=>108 | 7=>110 | 8=>112 | 9=>113
 | 10=>148 | 11=>150 | 12=>153 | _=>155
def doC (sb tb sb2 tb2:Nat) (j:Nat):Array Value:=match j with
 | 1=>#[ptrB sb] | 2=>#[ptrB sb] | 3=>#[ptrB sb,ptrB tb] | 4=>#[ptrB sb,ptrB tb] | 5=>#[ptrB sb,ptrB tb] | 6=>#[ptrB sb,ptrB tb] | 7=>#[ptrB sb,ptrB tb] | 8=>#[ptrB sb] | 9=>#[ptrB tb,ptrB sb]
 | 10=>#[ptrB tb2,ptrB sb2] | 11=>#[ptrB sb2] | 12=>#[ptrB sb2] | _=>#[ptrB sb2,ptrB tb2]
theorem doV_eq (sb tb sb2 tb2 j:Nat) (h1:1 ≤ j) (h2:j ≤ 13):doV sb tb sb2 tb2 j=.func (.func (doF j)) #[] (doC sb tb sb2 tb2 j):=by
 match j,h1,h2 with
 | 1,_,_=>rfl
 | 2,_,_=>rfl
 | 3,_,_=>rfl
 | 4,_,_=>rfl
 | 5,_,_=>rfl
 | 6,_,_=>rfl
 | 7,_,_=>rfl
 | 8,_,_=>rfl
 | 9,_,_=>rfl
 | 10,_,_=>rfl
 | 11,_,_=>rfl
 | 12,_,_=>rfl
 | 13,_,_=>rfl
 | j + 14,_,h=>exact absurd h (by omega)
theorem doP_at {t:PTr} {L:Lk} {a:PAsk} (k:Int) (h:a.op=k):doP t L a=(if k=1 then doStop L a else if k=2 then doClear L a else if k=3 then doMove L (nextP t L.ss L.place) else if k=4 then doMove L (lastP t L.ss L.place) else if k=5 then doMove L (intoP t L.place) else if k=6 then doMove L (overP t L.place) else if k=7 then doMove L (outP t L.place) else if k=8 then doUndo L else if k=9 then doTo t L a else if k=10 then doWhere t L a else if k=11 then doVars t L else if k=12 then doValue t L a else doCount t L a):=by
 subst h
 rfl
theorem askOk_n0 {a:PAsk} (h:askOk a=true) (h9:a.op ≠ 9):0 ≤ a.n:=by
 unfold askOk at h
 by_cases e:a.op=1
 ·rw [if_pos e] at h;simp only [Bool.and_eq_true,decide_eq_true_eq] at h;omega
 rw [if_neg e] at h
 by_cases e2:a.op=2 ∨ a.op=13
 ·rw [if_pos e2] at h;simp only [Bool.and_eq_true,inB_true] at h;omega
 rw [if_neg e2,if_neg h9] at h
 by_cases e10:a.op=10
 ·rw [if_pos e10] at h;simp only [Bool.and_eq_true,inB_true] at h;omega
 rw [if_neg e10] at h
 by_cases e12:a.op=12
 ·rw [if_pos e12] at h;simp only [Bool.and_eq_true,decide_eq_true_eq] at h;omega
 rw [if_neg e12] at h
 simp only [Bool.and_eq_true,decide_eq_true_eq] at h;omega
theorem do_calls (lo s sb tb sb2 tb2 x:Nat) (v1 v2:Value) (t:PTr) (D:Nat → Value) (L:Lk) (vs vu:Value) (a:PAsk) (w:World) (h:SeS w lo s v1 v2 D L vs vu) (he:SeE w s sb tb v1 v2) (he2:SeE w s sb2 tb2 v1 v2) (hx:Td0 w x)
  (wb:World) (hrb:RdTr wb v1 v2 t) (hbb:Below wb.heap.size wb w) (hbl:wb.heap.size ≤ lo) (hsm:smTr t) (hso:soundP t=true) (hok:LkOk t L) (hlo:lo ≤ s) (hlx:lo ≤ x) (hl:L.past.length ≤ 1000000) (ha:askOk a=true) (j:Nat) (hj:a.op=(j:Int)) :
  Calls Tryz.prog (doF j) (#[.agg #[.int .i64 a.op,.int .i64 a.n,.string a.nm,.int .i64 a.stop.kind,.int .i64 a.stop.fn,.int .i64 a.stop.line,.string a.stop.nm],.pointer (some ⟨x,0,none⟩)] ++ doC sb tb sb2 tb2 j) w (DoPost (doP t L a) lo s x v1 v2 D w):=by
 have hr:=hrb.later hbb
 have hop:=askOk_op ha
 have hn:=askOk_n0 ha
 rw [doP_at (j:Int) hj]
 match j,hj with
 | 0,hj=>exact absurd hop.1 (by omega)
 | 1,_=>exact do1_calls lo s sb tb x v1 v2 t D L vs vu a w h he hx hr hsm hso hok hlo hlx
 | 2,hj=>exact do2_calls lo s sb tb x v1 v2 t D L vs vu a w h he hx hr hsm hso hok hlo (hn (by omega))
 | 3,_=>exact do3_calls lo s sb tb x v1 v2 t D L vs vu a w h he hx hr hsm hso hok hlo hl
 | 4,_=>exact do4_calls lo s sb tb x v1 v2 t D L vs vu a w h he hx hr hsm hso hok hlo hl
 | 5,_=>exact do5_calls lo s sb tb x v1 v2 t D L vs vu a w h he hx hr hsm hso hok hlo hl
 | 6,_=>exact do6_calls lo s sb tb x v1 v2 t D L vs vu a w h he hx hr hsm hso hok hlo hl
 | 7,_=>exact do7_calls lo s sb tb x v1 v2 t D L vs vu a w h he hx hr hsm hso hok hlo hl
 | 8,_=>exact do8_calls lo s sb tb x v1 v2 t D L vs vu a w h he hx hr hsm hso hok hlo hl
 | 9,_=>exact do9_calls lo s sb tb x v1 v2 t D L vs vu a w h he hx hr hsm hso hok hlo hl
 | 10,_=>exact do10_calls lo s sb2 tb2 x v1 v2 t D L vs vu a w h he2 hx hr hsm hso hok hlo hlx wb hrb hbb hbl
 | 11,_=>exact do11_calls lo s sb2 tb2 x v1 v2 t D L vs vu a w h he2 hx hr hsm hso hok hlo hlx
 | 12,_=>exact do12_calls lo s sb2 tb2 x v1 v2 t D L vs vu a w h he2 hx hr hsm hso hok hlo hlx
 | 13,hj=>exact do13_calls lo s sb2 tb2 x v1 v2 t D L vs vu a w h he2 hx hr hsm hso hok hlo hlx (hn (by omega))
 | j + 14,hj=>exact absurd hop.2 (by omega)
end Go.Proofs.YtcklnjjbhngbcaaGreatDoor
