/- Lemmas and contracts of functions that the theorem of this claim leans on (texts I1, I2). -/
import Derived.Test.YtcklnjjbhngbcaaGreatDoorRowTopz00
import Derived.Test.YtcklnjjbhngbcaaGreatDoorRowUnz02
import Derived.Test.YtcklnjjbhngbcaaGreatDoorRowUnz05
import Derived.Deep.RegionHeld3
import Derived.Deep.RegionWith
import Derived.IntWalk
namespace Go.Proofs.YtcklnjjbhngbcaaGreatDoor
open Go.RowKit Go.Proofs.Lens
def frNode (f:PFr) (q:Option Addr) (n:Nat) (j:Nat):Value:=match j with
 | 0=>.int .i64 f.fn | 1=>.int .i64 f.line | 2=>.int .i64 f.frm | 3=>.pointer q | _=>.int .i64 n
def FrL (w:World):Option Addr → List PFr → Prop
 | p,[]=>p=none
 | p,f :: r=>∃ b q,p=some ⟨b,0,none⟩ ∧ Blk w b 148 5 (frNode f q (r.length + 1)) ∧ FrL w q r
theorem FrL.keep {w w':World} (hk:∀ (b' N:Nat) (f:Nat → Value),Blk w b' 148 N f → w'.heap[b']?=w.heap[b']?):∀ {fs:List PFr} {p:Option Addr},FrL w p fs → FrL w' p fs
 | [],_,h=>h
 | _ :: _,_,⟨b,q,h1,h2,h3⟩=>⟨b,q,h1,h2.keep (hk b _ _ h2),FrL.keep hk h3⟩
theorem FrL.later {w w':World} {fs:List PFr} {p:Option Addr} (h:FrL w p fs) (hb:Below w.heap.size w w'):FrL w' p fs:=h.keep fun b' _ _ hB=>hb.block b' hB.lt
theorem FrL.grown {w w':World} {fs:List PFr} {p:Option Addr} (h:FrL w p fs) {g N:Nat} {e:TypeId} {f:Nat → Value} (hB:Blk w g e N f) (he:e ≠ 148) (hb:w.grownBy w' (some g)):FrL w' p fs :=
 h.keep fun b _ _ hN=>hb.block b hN.lt (fun hh=>hB.ne hN he (Option.some.inj hh).symm)
theorem FrL.set {w:World} {fs:List PFr} {p:Option Addr} (h:FrL w p fs) {g N:Nat} {e:TypeId} {f:Nat → Value} (hB:Blk w g e N f) (he:e ≠ 148) (j:Nat) (u:Value):FrL (w.setCell ⟨g,j,none⟩ u) p fs :=
 h.keep fun _ _ _ hN=>Below.heap_setCell _ _ _ _ (fun hh=>hB.ne hN he hh.symm)
structure IsW (w:World) (g:Nat) (v1 v2:Value) (s:PS) (cl:List PFr) (f:Nat → Value):Prop where
 blk:Blk w g 146 105 f
 v1:f 0=v1
 v2:f 1=v2
 cur:f 2=.int .i64 s.cur
 stk:∀ i:Nat,i < 101 → ∃ p,f (3 + i)=.pointer p ∧ FrL w p (s.stk i)
 cl:∃ c,f 104=.pointer c ∧ FrL w c cl
theorem IsW.later {w w':World} {g:Nat} {v1 v2:Value} {s:PS} {cl:List PFr} {f:Nat → Value} (h:IsW w g v1 v2 s cl f) (hb:Below w.heap.size w w'):IsW w' g v1 v2 s cl f :=
 ⟨h.blk.later hb,h.v1,h.v2,h.cur,fun i hi=>by obtain ⟨p,h1,h2⟩:=h.stk i hi;exact ⟨p,h1,h2.later hb⟩,by obtain ⟨c,h1,h2⟩:=h.cl;exact ⟨c,h1,h2.later hb⟩⟩
theorem IsW.top {w:World} {g:Nat} {v1 v2:Value} {s:PS} {cl:List PFr} {f:Nat → Value} (h:IsW w g v1 v2 s cl f) (h0:0 ≤ s.cur) (h1:s.cur ≤ 100) :
  ∃ p,w.cell? ⟨g,3 + s.cur.toNat,none⟩=some (.pointer p) ∧ FrL w p s.top:=by
 obtain ⟨p,e,hl⟩:=h.stk s.cur.toNat (by omega)
 refine ⟨p,(h.blk.cell (by omega)).trans (by rw [e]),?_⟩
 rwa [Int.toNat_of_nonneg h0] at hl
set_option maxRecDepth 100000 in
set_option maxHeartbeats 400000 in
theorem count_calls (p:Option Addr) (fs:List PFr) (w:World) (h:FrL w p fs):Calls Tryz.prog 136 #[.pointer p] w fun e w'=>e=.returned (.int .i64 fs.length) ∧ w=w':=by
 cases fs with
 | nil =>
  obtain rfl:p=none:=h
  go_enter Tryz.func136,Tryz.ntmps136
  go_wp2
  go_ret
  exact ⟨rfl,rfl⟩
 | cons f r =>
  obtain ⟨b,q,rfl,hB,-⟩:=h
  have h4:w.cell? ⟨b,4,none⟩=some (.int .i64 ((r.length + 1:Nat):Int)):=hB.cell (j:=4) (by omega)
  clear hB
  go_enter Tryz.func136,Tryz.ntmps136
  go_wp2
  go_ret
  exact ⟨rfl,rfl⟩
theorem zero_walk:Tryz.zeroCells146=#[.slice none 0 0,.slice none 0 0,.int .i64 0] ++ Array.replicate 102 (.pointer none):=by kernel_rfl
theorem zero_walk_size:Tryz.zeroCells146.size=105:=by rw [zero_walk];simp
theorem zero_walk_at {j:Nat} (h3:3 ≤ j) (hj:j < 105):Tryz.zeroCells146[j]?=some (.pointer none):=by
 rw [zero_walk,Array.getElem?_append_right (by simpa using h3)]
 simp only [List.size_toArray,List.length_cons,List.length_nil,Array.getElem?_replicate]
 rw [if_pos (by omega)]
set_option maxRecDepth 100000 in
set_option maxHeartbeats 400000 in
theorem newWalk_calls (v1 v2:Value) (w:World):Calls Tryz.prog 71 #[.agg #[v1,v2]] w fun e w' =>
  ∃ g f,e=.returned (.pointer (some ⟨g,0,none⟩)) ∧ IsW w' g v1 v2 ps0 [] f ∧ w.heap.size ≤ g ∧ Below w.heap.size w w':=by
 go_enter Tryz.func71,Tryz.ntmps71
 go_wp2
 go_ret
 refine ⟨w.heap.size + 1,fun j=>if j=0 then v1 else if j=1 then v2 else if j=2 then .int .i64 0 else if j=3 then .pointer (some ⟨w.heap.size + 1 + 1,0,none⟩) else .pointer none,rfl,?_,by omega,qaq (qaq (qaq (qrq _ _) _) _) _⟩
 have hB:Blk (w.alloc (.cells #[v1,v2] 26) |>.alloc (.cells (((Tryz.zeroCells146.setIfInBounds 0 v1).setIfInBounds 1 v2).setIfInBounds 3 (Value.pointer (some ⟨w.heap.size + 1 + 1,0,none⟩))) 146))
   (w.heap.size + 1) 146 105 (fun j=>if j=0 then v1 else if j=1 then v2 else if j=2 then .int .i64 0 else if j=3 then .pointer (some ⟨w.heap.size + 1 + 1,0,none⟩) else .pointer none):=by
  have h:=Blk.new (w.alloc (.cells #[v1,v2] 26)) (((Tryz.zeroCells146.setIfInBounds 0 v1).setIfInBounds 1 v2).setIfInBounds 3 (Value.pointer (some ⟨w.heap.size + 1 + 1,0,none⟩))) 146
   (fun j=>if j=0 then v1 else if j=1 then v2 else if j=2 then .int .i64 0 else if j=3 then .pointer (some ⟨w.heap.size + 1 + 1,0,none⟩) else .pointer none) (fun j hj=>by
    simp only [Array.size_setIfInBounds,zero_walk_size] at hj
    simp only [Array.getElem?_setIfInBounds,Array.size_setIfInBounds,zero_walk_size]
    by_cases h3:j=3
    ·subst h3;simp
    ·by_cases h1:j=1
     ·subst h1;simp
     ·by_cases h0:j=0
      ·subst h0;simp
      ·by_cases h2:j=2
       ·subst h2;rw [zero_walk];simp
       ·have:=zero_walk_at (j:=j) (by omega) (by omega)
        simp [Ne.symm h0,Ne.symm h1,Ne.symm h3,h0,h1,h2,h3,this])
  simpa only [Array.size_setIfInBounds,zero_walk_size,World.size_alloc] using h
 have hN:=Blk.made ((w.alloc (.cells #[v1,v2] 26)).alloc (.cells (((Tryz.zeroCells146.setIfInBounds 0 v1).setIfInBounds 1 v2).setIfInBounds 3 (Value.pointer (some ⟨w.heap.size + 1 + 1,0,none⟩))) 146))
  #[Value.int IntKind.i64 0,Value.int IntKind.i64 0,Value.int IntKind.i64 (-1),Value.pointer none,Value.int IntKind.i64 1] 148
 refine ⟨hB.alloc _,rfl,rfl,rfl,fun i hi=>?_,⟨none,rfl,rfl⟩⟩
 by_cases h0:i=0
 ·subst h0
  refine ⟨_,rfl,?_⟩
  simp only [ps0]
  refine ⟨_,none,rfl,?_,rfl⟩
  simp only [World.size_alloc] at hN
  refine hN.congr fun j hj=>?_
  match j,hj with
  | 0,_=>rfl
  | 1,_=>rfl
  | 2,_=>rfl
  | 3,_=>rfl
  | 4,_=>rfl
 ·refine ⟨none,by show (if 3 + i=0 then _ else _)=_;rw [if_neg (by omega),if_neg (by omega),if_neg (by omega),if_neg (by omega)],?_⟩
  have:¬ (i:Int)=0:=by omega
  simp only [ps0,this]
  rfl
set_option maxRecDepth 100000 in
set_option maxHeartbeats 1000000 in
theorem check_calls (g:Nat) (v1 v2:Value) (s:PS) (cl:List PFr) (f:Nat → Value) (m:PMom) (v:Value) (w:World) (h:IsW w g v1 v2 s cl f) (hlo:0 ≤ s.cur) (hhi:s.cur ≤ 100) :
  Calls Tryz.prog 72 #[.pointer (some ⟨g,0,none⟩),.agg #[.int .i64 m.kind,.int .i64 m.task,.int .i64 m.fn,.int .i64 m.line,.string m.text,v]] w fun e w' =>
   e=.returned (.int .i64 (checkP s m)) ∧ Below w.heap.size w w':=by
 obtain ⟨p,ht,hl⟩:=h.top hlo hhi
 have hc:w.cell? ⟨g,2,none⟩=some (.int .i64 s.cur):=(h.blk.cell (by omega)).trans (by rw [h.cur])
 have hg:=h.blk.lt
 have HL:=qhq hl
 cases hs:s.top with
 | nil =>
  obtain rfl:p=none:=by rw [hs] at hl;exact hl
  have HS:=qhq hs
  clear h hl hs
  go_enter Tryz.func72,Tryz.ntmps72
  go_wp2_with (first | (go_at_call 136;refine (count_calls none [] _ rfl).mono ?_;rintro e w1 ⟨rfl,rfl⟩) | go_quiet (fail))
  all_goals
   go_ret
   refine ⟨ret_int ?_,(by repeat (with_reducible first | exact qrq _ _ | exact HL.out | refine qnq ?_ _ | refine bl_drew ?_ | refine qaq ?_ _ | refine bl_set ?_ (by dsimp only;omega) _))⟩
   go_tidy
   unfold checkP
   rw [HS.out]
   grind
 | cons fr r =>
  obtain ⟨b,q,rfl,hB,-⟩:∃ b q,p=some ⟨b,0,none⟩ ∧ Blk w b 148 5 (frNode fr q (r.length + 1)) ∧ FrL w q r:=by rw [hs] at hl;exact hl
  have n0:w.cell? ⟨b,0,none⟩=some (.int .i64 fr.fn):=hB.cell (j:=0) (by omega)
  have n2:w.cell? ⟨b,2,none⟩=some (.int .i64 fr.frm):=hB.cell (j:=2) (by omega)
  have hbw:=hB.lt
  have HS:=qhq hs
  have HL2:Hid (FrL w (some ⟨b,0,none⟩) (fr :: r)):=by rw [hs] at hl;exact hl
  clear h hl hs hB
  go_enter Tryz.func72,Tryz.ntmps72
  by_cases hf:m.fn=fr.fn
  ·by_cases hk:m.kind=3
   ·have hd1:(m.fn != fr.fn)=false:=by simp [hf]
    have hd2:(m.kind == 3)=true:=by simp [hk]
    have HF:=qhq hf
    have HK:=qhq hk
    clear hf hk
    go_wp2_with (first | (go_at_call 136;refine (count_calls _ (fr :: r) _ (HL2.out.later (by repeat (with_reducible first | exact qrq _ _ | exact HL.out | refine qnq ?_ _ | refine bl_drew ?_ | refine qaq ?_ _ | refine bl_set ?_ (by dsimp only;omega) _)))).mono ?_;rintro e w1 ⟨rfl,rfl⟩) | go_quiet (fail))
    all_goals
     go_ret
     refine ⟨ret_int ?_,(by repeat (with_reducible first | exact qrq _ _ | exact HL.out | refine qnq ?_ _ | refine bl_drew ?_ | refine qaq ?_ _ | refine bl_set ?_ (by dsimp only;omega) _))⟩
     go_tidy
     unfold checkP
     rw [HS.out]
     have h1:=HF.out
     have h2:=HK.out
     grind
   ·have hd1:(m.fn != fr.fn)=false:=by simp [hf]
    have hd2:(m.kind == 3)=false:=by simp [hk]
    have HF:=qhq hf
    have HK:=qhq hk
    clear hf hk
    go_wp2_with (first | (go_at_call 136;refine (count_calls _ (fr :: r) _ (HL2.out.later (by repeat (with_reducible first | exact qrq _ _ | exact HL.out | refine qnq ?_ _ | refine bl_drew ?_ | refine qaq ?_ _ | refine bl_set ?_ (by dsimp only;omega) _)))).mono ?_;rintro e w1 ⟨rfl,rfl⟩) | go_quiet (fail))
    all_goals
     go_ret
     refine ⟨ret_int ?_,(by repeat (with_reducible first | exact qrq _ _ | exact HL.out | refine qnq ?_ _ | refine bl_drew ?_ | refine qaq ?_ _ | refine bl_set ?_ (by dsimp only;omega) _))⟩
     go_tidy
     unfold checkP
     rw [HS.out]
     have h1:=HF.out
     have h2:=HK.out
     grind
  ·have hd1:(m.fn != fr.fn)=true:=by simp [hf]
   have HF:=qhq hf
   clear hf
   go_wp2_with (first | (go_at_call 136;refine (count_calls _ (fr :: r) _ (HL2.out.later (by repeat (with_reducible first | exact qrq _ _ | exact HL.out | refine qnq ?_ _ | refine bl_drew ?_ | refine qaq ?_ _ | refine bl_set ?_ (by dsimp only;omega) _)))).mono ?_;rintro e w1 ⟨rfl,rfl⟩) | go_quiet (fail))
   all_goals
    go_ret
    refine ⟨ret_int ?_,(by repeat (with_reducible first | exact qrq _ _ | exact HL.out | refine qnq ?_ _ | refine bl_drew ?_ | refine qaq ?_ _ | refine bl_set ?_ (by dsimp only;omega) _))⟩
    go_tidy
    unfold checkP
    rw [HS.out]
    have h1:=HF.out
    grind
theorem gb_refl (w:World) (r:Option Nat):w.grownBy w r:=⟨rfl,rfl,rfl,Nat.le_refl _,fun _ _ _=>rfl⟩
theorem gb_alloc {w W:World} {r:Option Nat} (h:w.grownBy W r) (o:Obj):w.grownBy (W.alloc o) r :=
 ⟨h.os,h.tape,h.output,by simp;exact Nat.le_succ_of_le h.size,fun k hk hr=>(Below.heap_alloc W o k (Nat.lt_of_lt_of_le hk h.size)).trans (h.block k hk hr)⟩
theorem gb_drew {w W:World} {r:Option Nat} (h:w.grownBy W r):w.grownBy W.drew r:=⟨h.os,h.tape,h.output,h.size,h.block⟩
theorem gb_drewN {w W:World} {r:Option Nat} (h:w.grownBy W r) (n:Nat):w.grownBy (W.drewN n) r:=⟨h.os,h.tape,h.output,h.size,h.block⟩
theorem gb_set {w W:World} {g:Nat} (h:w.grownBy W (some g)) (j:Nat) (u:Value):w.grownBy (W.setCell ⟨g,j,none⟩ u) (some g) :=
 ⟨h.os,h.tape,h.output,by rw [World.size_setCell];exact h.size,fun k hk hr=>(Below.heap_setCell _ _ _ _ (fun e=>hr (by rw [e]))).trans (h.block k hk hr)⟩
theorem bl_grown {w W W':World} {g:Nat} (h:Below w.heap.size w W) (hg:W.grownBy W' (some g)) (hw:w.heap.size ≤ g):Below w.heap.size w W' :=
 h.grown hg h.size (fun k e=>by cases e;exact hw)
theorem Blk.gb {w w':World} {b g:Nat} {e:TypeId} {N:Nat} {f:Nat → Value} (h:Blk w b e N f) (hb:w.grownBy w' (some g)) (hne:b ≠ g):Blk w' b e N f :=
 h.keep (hb.block b h.lt (fun e=>hne (Option.some.inj e)))
theorem BoxAt.gb {w w':World} {b g:Nat} {vs:List Value} (h:BoxAt w b vs) (hb:w.grownBy w' (some g)) (hne:b ≠ g):BoxAt w' b vs:=fun j v hj=>by
 have h1:=h j v hj
 rw [World.cell?_of_block (w:=w) (w':=w') (hb.block b (World.block_lt_of_cell? _ _ h1) (fun e=>hne (Option.some.inj e)))]
 exact h1
section
variable {w : World} {g : Nat} {v1 v2 : Value} {s : PS} {cl : List PFr} {f : Nat → Value}
theorem IsW.set104 (h:IsW w g v1 v2 s cl f) (c:Option Addr) {cl':List PFr} (hc:FrL w c cl'):IsW (w.setCell ⟨g,104,none⟩ (.pointer c)) g v1 v2 s cl' (upd f 104 (.pointer c)):=by
 refine ⟨h.blk.set (by omega) _,?_,?_,?_,fun i hi=>?_,⟨c,upd_same _ _ _,hc.set h.blk (by decide) _ _⟩⟩
 ·rw [upd_ne _ _ (by omega)];exact h.v1
 ·rw [upd_ne _ _ (by omega)];exact h.v2
 ·rw [upd_ne _ _ (by omega)];exact h.cur
 ·obtain ⟨p,h1,h2⟩:=h.stk i hi
  exact ⟨p,by rw [upd_ne _ _ (by omega)];exact h1,h2.set h.blk (by decide) _ _⟩
theorem IsW.set2 (h:IsW w g v1 v2 s cl f) (x:Int):IsW (w.setCell ⟨g,2,none⟩ (.int .i64 x)) g v1 v2 ⟨x,s.stk⟩ cl (upd f 2 (.int .i64 x)):=by
 refine ⟨h.blk.set (by omega) _,?_,?_,upd_same _ _ _,fun i hi=>?_,?_⟩
 ·rw [upd_ne _ _ (by omega)];exact h.v1
 ·rw [upd_ne _ _ (by omega)];exact h.v2
 ·obtain ⟨p,h1,h2⟩:=h.stk i hi
  exact ⟨p,by rw [upd_ne _ _ (by omega)];exact h1,h2.set h.blk (by decide) _ _⟩
 ·obtain ⟨c,h1,h2⟩:=h.cl
  exact ⟨c,by rw [upd_ne _ _ (by omega)];exact h1,h2.set h.blk (by decide) _ _⟩
theorem IsW.setStk (h:IsW w g v1 v2 s cl f) (hlo:0 ≤ s.cur) (hhi:s.cur ≤ 100) (p:Option Addr) {l:List PFr} (hl:FrL w p l) :
  IsW (w.setCell ⟨g,3 + s.cur.toNat,none⟩ (.pointer p)) g v1 v2 (s.put l) cl (upd f (3 + s.cur.toNat) (.pointer p)):=by
 refine ⟨h.blk.set (by omega) _,?_,?_,?_,fun i hi=>?_,?_⟩
 ·rw [upd_ne _ _ (by omega)];exact h.v1
 ·rw [upd_ne _ _ (by omega)];exact h.v2
 ·rw [upd_ne _ _ (by omega)];exact h.cur
 ·by_cases hc:(i:Int)=s.cur
  ·have:i=s.cur.toNat:=by omega
   subst this
   refine ⟨p,upd_same _ _ _,?_⟩
   simp only [PS.put,if_pos hc]
   exact hl.set h.blk (by decide) _ _
  ·obtain ⟨q,h1,h2⟩:=h.stk i hi
   refine ⟨q,by rw [upd_ne _ _ (by omega)];exact h1,?_⟩
   simp only [PS.put,if_neg hc]
   exact h2.set h.blk (by decide) _ _
 ·obtain ⟨c,h1,h2⟩:=h.cl
  exact ⟨c,by rw [upd_ne _ _ (by omega)];exact h1,h2.set h.blk (by decide) _ _⟩
theorem IsW.alloc (h:IsW w g v1 v2 s cl f) (o:Obj):IsW (w.alloc o) g v1 v2 s cl f:=h.later (qaq (qrq _ _) o)
theorem IsW.drewN (h:IsW w g v1 v2 s cl f) (n:Nat):IsW (w.drewN n) g v1 v2 s cl f:=h.later (qnq (qrq _ _) n)
theorem IsW.drew (h:IsW w g v1 v2 s cl f):IsW w.drew g v1 v2 s cl f:=h.later (bl_drew (qrq _ _))
end
set_option maxRecDepth 100000 in
set_option maxHeartbeats 2000000 in
theorem step_turn (g:Nat) (v1 v2:Value) (s:PS) (cl:List PFr) (f:Nat → Value) (ms:List PMom) (k:Nat) (w:World) (h:IsW w g v1 v2 s cl f) (hm:RdMoms w v2 ms) (hk:k < ms.length)
  (hkind:(elt ms k).kind=7) (ht0:0 ≤ (elt ms k).task) (ht1:(elt ms k).task ≤ 100) :
  Calls Tryz.prog 73 #[.pointer (some ⟨g,0,none⟩),.int .i64 k] w fun e w'=>e=.returned (.tuple #[]) ∧ (∃ f',IsW w' g v1 v2 (stepP s (elt ms k) k) (closedP s (elt ms k)) f') ∧ w.grownBy w' (some g):=by
 obtain ⟨vv,⟨A,c,rfl,hn,hrow⟩,hvv⟩:=hm
 obtain ⟨A5,c5,e5,-⟩:=hvv k hk
 clear hvv
 obtain ⟨b,o,rfl,hc⟩:=hrow (by omega)
 have hc0:w.cell? ⟨b,o + k * 6,none⟩=some (.int .i64 (elt ms k).kind):=hc k hk 0 (by omega)
 have hc1:w.cell? ⟨b,o + k * 6 + 1,none⟩=some (.int .i64 (elt ms k).task):=hc k hk 1 (by omega)
 have hc2:w.cell? ⟨b,o + k * 6 + 2,none⟩=some (.int .i64 (elt ms k).fn):=hc k hk 2 (by omega)
 have hc3:w.cell? ⟨b,o + k * 6 + 3,none⟩=some (.int .i64 (elt ms k).line):=hc k hk 3 (by omega)
 have hc4:w.cell? ⟨b,o + k * 6 + 4,none⟩=some (.string (elt ms k).text):=hc k hk 4 (by omega)
 have hc5:w.cell? ⟨b,o + k * 6 + 5,none⟩=some (.slice A5 (elt ms k).vars.length c5):=(hc k hk 5 (by omega)).trans (by rw [← e5];rfl)
 have g1:w.cell? ⟨g,1,none⟩=some (.slice (some ⟨b,o,none⟩) ms.length c):=(h.blk.cell (by omega)).trans (by rw [h.v2])
 have g2:w.cell? ⟨g,2,none⟩=some (.int .i64 s.cur):=(h.blk.cell (by omega)).trans (by rw [h.cur])
 have g104:=h.blk.cell (j:=104) (by omega)
 have gf1:=h.blk.free 2
 have gf104:=h.blk.free 104
 have hg:=h.blk.lt
 have H:=qhq h
 have hd:((elt ms k).kind == 7)=true:=by simp [hkind]
 have hd2:((elt ms k).kind == 2)=false:=by simp [hkind]
 have hd3:((elt ms k).kind == 3)=false:=by simp [hkind]
 have hd4:((elt ms k).kind == 1)=false:=by simp [hkind]
 have HK:=qhq hkind
 obtain ⟨q,e,-⟩:=h.stk (elt ms k).task.toNat (by omega)
 have gt:w.cell? ⟨g,3 + (elt ms k).task.toNat,none⟩=some (.pointer q):=(h.blk.cell (by omega)).trans (by rw [e])
 clear e
 clear h hc hrow hkind e5
 go_enter Tryz.func73,Tryz.ntmps73
 go_wp2_with (go_quiet (fail))
 go_end0
 refine ⟨rfl,?_,gb_drewN (gb_alloc (gb_set (gb_set (gb_refl _ _) _ _) _ _) _) _⟩
 have e1:stepP s (elt ms k) k=⟨(elt ms k).task,s.stk⟩:=by unfold stepP;rw [if_pos HK.out]
 have e2:closedP s (elt ms k)=[]:=by unfold closedP;rw [if_neg (by rw [HK.out];decide)]
 rw [e1,e2]
 exact ⟨_,(((H.out.set104 none (cl':=[]) rfl).set2 _).alloc _).drewN _⟩
set_option maxRecDepth 100000 in
set_option maxHeartbeats 2000000 in
theorem step_none (g:Nat) (v1 v2:Value) (s:PS) (cl:List PFr) (f:Nat → Value) (ms:List PMom) (k:Nat) (w:World) (h:IsW w g v1 v2 s cl f) (hm:RdMoms w v2 ms) (hk:k < ms.length)
  (hlo:0 ≤ s.cur) (hhi:s.cur ≤ 100) (hkind:(elt ms k).kind=4 ∨ (elt ms k).kind=5 ∨ (elt ms k).kind=6) :
  Calls Tryz.prog 73 #[.pointer (some ⟨g,0,none⟩),.int .i64 k] w fun e w'=>e=.returned (.tuple #[]) ∧ (∃ f',IsW w' g v1 v2 (stepP s (elt ms k) k) (closedP s (elt ms k)) f') ∧ w.grownBy w' (some g):=by
 obtain ⟨vv,⟨A,c,rfl,hn,hrow⟩,hvv⟩:=hm
 obtain ⟨A5,c5,e5,-⟩:=hvv k hk
 clear hvv
 obtain ⟨b,o,rfl,hc⟩:=hrow (by omega)
 have hc0:w.cell? ⟨b,o + k * 6,none⟩=some (.int .i64 (elt ms k).kind):=hc k hk 0 (by omega)
 have hc1:w.cell? ⟨b,o + k * 6 + 1,none⟩=some (.int .i64 (elt ms k).task):=hc k hk 1 (by omega)
 have hc2:w.cell? ⟨b,o + k * 6 + 2,none⟩=some (.int .i64 (elt ms k).fn):=hc k hk 2 (by omega)
 have hc3:w.cell? ⟨b,o + k * 6 + 3,none⟩=some (.int .i64 (elt ms k).line):=hc k hk 3 (by omega)
 have hc4:w.cell? ⟨b,o + k * 6 + 4,none⟩=some (.string (elt ms k).text):=hc k hk 4 (by omega)
 have hc5:w.cell? ⟨b,o + k * 6 + 5,none⟩=some (.slice A5 (elt ms k).vars.length c5):=(hc k hk 5 (by omega)).trans (by rw [← e5];rfl)
 have g1:w.cell? ⟨g,1,none⟩=some (.slice (some ⟨b,o,none⟩) ms.length c):=(h.blk.cell (by omega)).trans (by rw [h.v2])
 have g2:w.cell? ⟨g,2,none⟩=some (.int .i64 s.cur):=(h.blk.cell (by omega)).trans (by rw [h.cur])
 have g104:=h.blk.cell (j:=104) (by omega)
 have gf1:=h.blk.free 2
 have gf104:=h.blk.free 104
 have hg:=h.blk.lt
 have H:=qhq h
 have hd:((elt ms k).kind == 7)=false:=by simp;omega
 have hd2:((elt ms k).kind == 2)=false:=by simp;omega
 have hd3:((elt ms k).kind == 3)=false:=by simp;omega
 have hd4:((elt ms k).kind == 1)=false:=by simp;omega
 have HK:=qhq hkind
 obtain ⟨q,gt,-⟩:=h.top hlo hhi
 clear h hc hrow hkind e5
 go_enter Tryz.func73,Tryz.ntmps73
 go_wp2_with (go_quiet (fail))
 go_end0
 refine ⟨rfl,?_,gb_drewN (gb_alloc (gb_set (gb_refl _ _) _ _) _) _⟩
 have e1:stepP s (elt ms k) k=s:=by unfold stepP;have:=HK.out;rw [if_neg (by omega),if_neg (by omega),if_neg (by omega),if_neg (by omega)]
 have e2:closedP s (elt ms k)=[]:=by unfold closedP;have:=HK.out;rw [if_neg (by omega)]
 rw [e1,e2]
 exact ⟨_,((H.out.set104 none (cl':=[]) rfl).alloc _).drewN _⟩
set_option maxRecDepth 100000 in
set_option maxHeartbeats 2000000 in
theorem step_back (g:Nat) (v1 v2:Value) (s:PS) (cl:List PFr) (f:Nat → Value) (ms:List PMom) (k:Nat) (w:World) (h:IsW w g v1 v2 s cl f) (hm:RdMoms w v2 ms) (hk:k < ms.length)
  (hlo:0 ≤ s.cur) (hhi:s.cur ≤ 100) (hkind:(elt ms k).kind=3) (hne:s.top ≠ []) :
  Calls Tryz.prog 73 #[.pointer (some ⟨g,0,none⟩),.int .i64 k] w fun e w'=>e=.returned (.tuple #[]) ∧ (∃ f',IsW w' g v1 v2 (stepP s (elt ms k) k) (closedP s (elt ms k)) f') ∧ w.grownBy w' (some g):=by
 obtain ⟨vv,⟨A,c,rfl,hn,hrow⟩,hvv⟩:=hm
 obtain ⟨A5,c5,e5,-⟩:=hvv k hk
 clear hvv
 obtain ⟨b,o,rfl,hc⟩:=hrow (by omega)
 have hc0:w.cell? ⟨b,o + k * 6,none⟩=some (.int .i64 (elt ms k).kind):=hc k hk 0 (by omega)
 have hc1:w.cell? ⟨b,o + k * 6 + 1,none⟩=some (.int .i64 (elt ms k).task):=hc k hk 1 (by omega)
 have hc2:w.cell? ⟨b,o + k * 6 + 2,none⟩=some (.int .i64 (elt ms k).fn):=hc k hk 2 (by omega)
 have hc3:w.cell? ⟨b,o + k * 6 + 3,none⟩=some (.int .i64 (elt ms k).line):=hc k hk 3 (by omega)
 have hc4:w.cell? ⟨b,o + k * 6 + 4,none⟩=some (.string (elt ms k).text):=hc k hk 4 (by omega)
 have hc5:w.cell? ⟨b,o + k * 6 + 5,none⟩=some (.slice A5 (elt ms k).vars.length c5):=(hc k hk 5 (by omega)).trans (by rw [← e5];rfl)
 have g1:w.cell? ⟨g,1,none⟩=some (.slice (some ⟨b,o,none⟩) ms.length c):=(h.blk.cell (by omega)).trans (by rw [h.v2])
 have g2:w.cell? ⟨g,2,none⟩=some (.int .i64 s.cur):=(h.blk.cell (by omega)).trans (by rw [h.cur])
 have g104:=h.blk.cell (j:=104) (by omega)
 have gf1:=h.blk.free 2
 have gf104:=h.blk.free 104
 have hg:=h.blk.lt
 have H:=qhq h
 have hd:((elt ms k).kind == 7)=false:=by simp [hkind]
 have hd2:((elt ms k).kind == 2)=false:=by simp [hkind]
 have hd3:((elt ms k).kind == 3)=true:=by simp [hkind]
 have hd4:((elt ms k).kind == 1)=false:=by simp [hkind]
 have HK:=qhq hkind
 obtain ⟨q,gt,hl⟩:=h.top hlo hhi
 cases hs:s.top with
 | nil=>exact absurd hs hne
 | cons fr r =>
 rw [hs] at hl
 obtain ⟨b2,q2,rfl,hB,hl2⟩:=hl
 have n3:w.cell? ⟨b2,3,none⟩=some (.pointer q2):=hB.cell (j:=3) (by omega)
 have gf3:=h.blk.free (3 + s.cur.toNat)
 have hb2:=hB.lt
 have hne2:¬ b2=g:=fun e=>hB.ne h.blk (by decide) e
 have HN:Hid (FrL w (some ⟨b2,0,none⟩) (fr :: r)):=⟨b2,q2,rfl,hB,hl2⟩
 have HL:=qhq hl2
 have HS:=qhq hs
 clear hB hl2 hs hne
 clear h hc hrow hkind e5
 go_enter Tryz.func73,Tryz.ntmps73
 go_wp2_with fail
 go_quiet (fail)
 go_wp2_with fail
 generalize hW:World.setCell (World.drewN _ _) _ _=W
 have i1:∃ f',IsW W g v1 (.slice (some ⟨b,o,none⟩) ms.length c) s (fr :: r) f':=by
  rw [← hW];exact ⟨_,(((H.out.set104 none (cl':=[]) rfl).alloc _).drewN _).set104 _ (((HN.out.set H.out.blk (by decide) _ _).later (qaq (qrq _ _) _)).later (qnq (qrq _ _) _))⟩
 have i2:w.grownBy W (some g):=by rw [← hW];exact (by repeat (with_reducible first | exact gb_refl _ _ | refine gb_drewN ?_ _ | refine gb_drew ?_ | refine gb_alloc ?_ _ | refine gb_set ?_ _ _))
 have i3:FrL W q2 r:=by rw [← hW];exact (((HL.out.set H.out.blk (by decide) _ _).later (qaq (qrq _ _) _)).later (qnq (qrq _ _) _)).set (((H.out.set104 none (cl':=[]) rfl).alloc _).drewN _).blk (by decide) _ _
 have x1:W.cell? ⟨g,2,none⟩=some (.int .i64 s.cur):=by rw [← hW];clear hW;go_simp
 have x2:W.cell? ⟨g,3 + s.cur.toNat,none⟩=some (.pointer (some ⟨b2,0,none⟩)):=by rw [← hW];clear hW;go_simp
 have x3:W.frozen? ⟨g,3 + s.cur.toNat,none⟩=false:=by rw [← hW];clear hW;go_simp
 have x4:W.cell? ⟨b2,3,none⟩=some (.pointer q2):=by rw [← hW];clear hW;go_simp
 have x9:s.cur < 101:=by omega
 have x10:¬ 3 + s.cur.toNat=2:=by omega
 have x11:¬ 2=3 + s.cur.toNat:=by omega
 have x12:¬ w.heap.size=g:=by omega
 have x13:¬ g=w.heap.size:=by omega
 have I1:=qhq i1
 have I2:=qhq i2
 have I3:=qhq i3
 clear i1 i2 i3 hW hc0 hc1 hc2 hc3 hc4 hc5 g1 g2 gt g104 gf1 gf104 gf3 n3
 go_still_tail 12,(by kernel_rfl)
 go_wp2_with fail
 go_end0
 have e1:stepP s (elt ms k) k=s.put r:=by unfold stepP;have:=HK.out;rw [if_neg (by omega),if_neg (by omega),if_pos this,HS.out];rfl
 have e2:closedP s (elt ms k)=fr :: r:=by unfold closedP;rw [if_pos HK.out,HS.out]
 rw [e1,e2]
 obtain ⟨f',i1⟩:=I1.out
 refine ⟨rfl,⟨_,(i1.setStk hlo hhi q2 I3.out).drew⟩,gb_drew (gb_set I2.out _ _)⟩
set_option maxRecDepth 100000 in
set_option maxHeartbeats 2000000 in
theorem step_line (g:Nat) (v1 v2:Value) (s:PS) (cl:List PFr) (f:Nat → Value) (ms:List PMom) (k:Nat) (w:World) (h:IsW w g v1 v2 s cl f) (hm:RdMoms w v2 ms) (hk:k < ms.length)
  (hlo:0 ≤ s.cur) (hhi:s.cur ≤ 100) (hkind:(elt ms k).kind=1) (hne:s.top ≠ []) :
  Calls Tryz.prog 73 #[.pointer (some ⟨g,0,none⟩),.int .i64 k] w fun e w'=>e=.returned (.tuple #[]) ∧ (∃ f',IsW w' g v1 v2 (stepP s (elt ms k) k) (closedP s (elt ms k)) f') ∧ w.grownBy w' (some g):=by
 obtain ⟨vv,⟨A,c,rfl,hn,hrow⟩,hvv⟩:=hm
 obtain ⟨A5,c5,e5,-⟩:=hvv k hk
 clear hvv
 obtain ⟨b,o,rfl,hc⟩:=hrow (by omega)
 have hc0:w.cell? ⟨b,o + k * 6,none⟩=some (.int .i64 (elt ms k).kind):=hc k hk 0 (by omega)
 have hc1:w.cell? ⟨b,o + k * 6 + 1,none⟩=some (.int .i64 (elt ms k).task):=hc k hk 1 (by omega)
 have hc2:w.cell? ⟨b,o + k * 6 + 2,none⟩=some (.int .i64 (elt ms k).fn):=hc k hk 2 (by omega)
 have hc3:w.cell? ⟨b,o + k * 6 + 3,none⟩=some (.int .i64 (elt ms k).line):=hc k hk 3 (by omega)
 have hc4:w.cell? ⟨b,o + k * 6 + 4,none⟩=some (.string (elt ms k).text):=hc k hk 4 (by omega)
 have hc5:w.cell? ⟨b,o + k * 6 + 5,none⟩=some (.slice A5 (elt ms k).vars.length c5):=(hc k hk 5 (by omega)).trans (by rw [← e5];rfl)
 have g1:w.cell? ⟨g,1,none⟩=some (.slice (some ⟨b,o,none⟩) ms.length c):=(h.blk.cell (by omega)).trans (by rw [h.v2])
 have g2:w.cell? ⟨g,2,none⟩=some (.int .i64 s.cur):=(h.blk.cell (by omega)).trans (by rw [h.cur])
 have g104:=h.blk.cell (j:=104) (by omega)
 have gf1:=h.blk.free 2
 have gf104:=h.blk.free 104
 have hg:=h.blk.lt
 have H:=qhq h
 have hd:((elt ms k).kind == 7)=false:=by simp [hkind]
 have hd2:((elt ms k).kind == 2)=false:=by simp [hkind]
 have hd3:((elt ms k).kind == 3)=false:=by simp [hkind]
 have hd4:((elt ms k).kind == 1)=true:=by simp [hkind]
 have HK:=qhq hkind
 obtain ⟨q,gt,hl⟩:=h.top hlo hhi
 cases hs:s.top with
 | nil=>exact absurd hs hne
 | cons fr r =>
 rw [hs] at hl
 obtain ⟨b2,q2,rfl,hB,hl2⟩:=hl
 have n0:w.cell? ⟨b2,0,none⟩=some (.int .i64 fr.fn):=hB.cell (j:=0) (by omega)
 have n1:w.cell? ⟨b2,1,none⟩=some (.int .i64 fr.line):=hB.cell (j:=1) (by omega)
 have n2:w.cell? ⟨b2,2,none⟩=some (.int .i64 fr.frm):=hB.cell (j:=2) (by omega)
 have n3:w.cell? ⟨b2,3,none⟩=some (.pointer q2):=hB.cell (j:=3) (by omega)
 have n4:w.cell? ⟨b2,4,none⟩=some (.int .i64 ((r.length + 1:Nat):Int)):=hB.cell (j:=4) (by omega)
 have gf3:=h.blk.free (3 + s.cur.toNat)
 have hb2:=hB.lt
 have hne2:¬ b2=g:=fun e=>hB.ne h.blk (by decide) e
 have HL:=qhq hl2
 have HS:=qhq hs
 clear hB hl2 hs hne
 clear h hc hrow hkind e5
 go_enter Tryz.func73,Tryz.ntmps73
 go_wp2_with fail
 go_quiet (fail)
 go_wp2_with fail
 generalize hW:World.alloc (World.drewN _ _) _=W
 have i1:∃ f',IsW W g v1 (.slice (some ⟨b,o,none⟩) ms.length c) s [] f':=by
  rw [← hW];exact ⟨_,(((H.out.set104 none (cl':=[]) rfl).alloc _).drewN _).alloc _⟩
 have i2:w.grownBy W (some g):=by rw [← hW];exact (by repeat (with_reducible first | exact gb_refl _ _ | refine gb_drewN ?_ _ | refine gb_drew ?_ | refine gb_alloc ?_ _ | refine gb_set ?_ _ _))
 have i3:FrL W (some ⟨w.heap.size + 1,0,none⟩) (⟨fr.fn,(elt ms k).line,fr.frm⟩ :: r):=by
  rw [← hW]
  refine ⟨w.heap.size + 1,q2,rfl,?_,(((HL.out.set H.out.blk (by decide) _ _).later (qaq (qrq _ _) _)).later (qnq (qrq _ _) _)).later (qaq (qrq _ _) _)⟩
  have hN:=Blk.made (World.drewN (World.alloc (World.setCell w ⟨g,104,none⟩ (.pointer none)) (.cells #[.int .i64 (elt ms k).kind,.int .i64 (elt ms k).task,.int .i64 (elt ms k).fn,.int .i64 (elt ms k).line,.string (elt ms k).text,.slice A5 (elt ms k).vars.length c5] 114)) nq)
   #[.int .i64 fr.fn,.int .i64 (elt ms k).line,.int .i64 fr.frm,.pointer q2,.int .i64 (r.length + 1)] 148
  have hsz:(World.drewN (World.alloc (World.setCell w ⟨g,104,none⟩ (.pointer none)) (.cells #[.int .i64 (elt ms k).kind,.int .i64 (elt ms k).task,.int .i64 (elt ms k).fn,.int .i64 (elt ms k).line,.string (elt ms k).text,.slice A5 (elt ms k).vars.length c5] 114)) nq).heap.size=w.heap.size + 1:=by simp
  rw [hsz] at hN
  refine hN.congr fun j hj=>?_
  match j,hj with
  | 0,_=>rfl
  | 1,_=>rfl
  | 2,_=>rfl
  | 3,_=>rfl
  | 4,_=>rfl
 have x1:W.cell? ⟨g,2,none⟩=some (.int .i64 s.cur):=by rw [← hW];clear hW;go_simp
 have x2:W.cell? ⟨g,3 + s.cur.toNat,none⟩=some (.pointer (some ⟨b2,0,none⟩)):=by rw [← hW];clear hW;go_simp
 have x3:W.frozen? ⟨g,3 + s.cur.toNat,none⟩=false:=by rw [← hW];clear hW;go_simp
 have x9:s.cur < 101:=by omega
 have x10:¬ 3 + s.cur.toNat=2:=by omega
 have x11:¬ 2=3 + s.cur.toNat:=by omega
 have x12:¬ w.heap.size=g:=by omega
 have x13:¬ g=w.heap.size:=by omega
 have I1:=qhq i1
 have I2:=qhq i2
 have I3:=qhq i3
 clear i1 i2 i3 hW hc0 hc1 hc2 hc3 hc4 hc5 g1 g2 gt g104 gf1 gf104 gf3 n0 n1 n2 n3 n4
 go_still_tail 8,(by kernel_rfl)
 go_wp2_with fail
 go_end0
 have e1:stepP s (elt ms k) k=s.put (⟨fr.fn,(elt ms k).line,fr.frm⟩ :: r):=by unfold stepP;have:=HK.out;rw [if_neg (by omega),if_neg (by omega),if_neg (by omega),if_pos this,HS.out]
 have e2:closedP s (elt ms k)=[]:=by unfold closedP;have:=HK.out;rw [if_neg (by omega)]
 rw [e1,e2]
 obtain ⟨f',i1⟩:=I1.out
 refine ⟨rfl,⟨_,(i1.setStk hlo hhi _ I3.out).drew⟩,gb_drew (gb_set I2.out _ _)⟩
set_option maxRecDepth 100000 in
set_option maxHeartbeats 2000000 in
theorem step_call (g:Nat) (v1 v2:Value) (s:PS) (cl:List PFr) (f:Nat → Value) (ms:List PMom) (k:Nat) (w:World) (h:IsW w g v1 v2 s cl f) (hm:RdMoms w v2 ms) (hk:k < ms.length)
  (hlo:0 ≤ s.cur) (hhi:s.cur ≤ 100) (hkind:(elt ms k).kind=2) (hdeep:s.top.length ≤ 200) :
  Calls Tryz.prog 73 #[.pointer (some ⟨g,0,none⟩),.int .i64 k] w fun e w'=>e=.returned (.tuple #[]) ∧ (∃ f',IsW w' g v1 v2 (stepP s (elt ms k) k) (closedP s (elt ms k)) f') ∧ w.grownBy w' (some g):=by
 obtain ⟨vv,⟨A,c,rfl,hn,hrow⟩,hvv⟩:=hm
 obtain ⟨A5,c5,e5,-⟩:=hvv k hk
 clear hvv
 obtain ⟨b,o,rfl,hc⟩:=hrow (by omega)
 have hc0:w.cell? ⟨b,o + k * 6,none⟩=some (.int .i64 (elt ms k).kind):=hc k hk 0 (by omega)
 have hc1:w.cell? ⟨b,o + k * 6 + 1,none⟩=some (.int .i64 (elt ms k).task):=hc k hk 1 (by omega)
 have hc2:w.cell? ⟨b,o + k * 6 + 2,none⟩=some (.int .i64 (elt ms k).fn):=hc k hk 2 (by omega)
 have hc3:w.cell? ⟨b,o + k * 6 + 3,none⟩=some (.int .i64 (elt ms k).line):=hc k hk 3 (by omega)
 have hc4:w.cell? ⟨b,o + k * 6 + 4,none⟩=some (.string (elt ms k).text):=hc k hk 4 (by omega)
 have hc5:w.cell? ⟨b,o + k * 6 + 5,none⟩=some (.slice A5 (elt ms k).vars.length c5):=(hc k hk 5 (by omega)).trans (by rw [← e5];rfl)
 have g1:w.cell? ⟨g,1,none⟩=some (.slice (some ⟨b,o,none⟩) ms.length c):=(h.blk.cell (by omega)).trans (by rw [h.v2])
 have g2:w.cell? ⟨g,2,none⟩=some (.int .i64 s.cur):=(h.blk.cell (by omega)).trans (by rw [h.cur])
 have g104:=h.blk.cell (j:=104) (by omega)
 have gf1:=h.blk.free 2
 have gf104:=h.blk.free 104
 have hg:=h.blk.lt
 have H:=qhq h
 have hd:((elt ms k).kind == 7)=false:=by simp [hkind]
 have hd2:((elt ms k).kind == 2)=true:=by simp [hkind]
 have hd3:((elt ms k).kind == 3)=false:=by simp [hkind]
 have hd4:((elt ms k).kind == 1)=false:=by simp [hkind]
 have HK:=qhq hkind
 obtain ⟨q,gt,hl⟩:=h.top hlo hhi
 have gf3:=h.blk.free (3 + s.cur.toNat)
 have HL:=qhq hl
 clear hl
 clear h hc hrow hkind e5
 go_enter Tryz.func73,Tryz.ntmps73
 go_wp2_with fail
 go_quiet (fail)
 go_wp2_with fail
 generalize hW:World.drewN _ _=W
 have i1:∃ f',IsW W g v1 (.slice (some ⟨b,o,none⟩) ms.length c) s [] f':=by
  rw [← hW];exact ⟨_,((H.out.set104 none (cl':=[]) rfl).alloc _).drewN _⟩
 have i2:w.grownBy W (some g):=by rw [← hW];exact (by repeat (with_reducible first | exact gb_refl _ _ | refine gb_drewN ?_ _ | refine gb_drew ?_ | refine gb_alloc ?_ _ | refine gb_set ?_ _ _))
 have i3:FrL W q s.top:=by rw [← hW];exact ((HL.out.set H.out.blk (by decide) _ _).later (qaq (qrq _ _) _)).later (qnq (qrq _ _) _)
 have x1:W.cell? ⟨g,2,none⟩=some (.int .i64 s.cur):=by rw [← hW];clear hW;go_simp
 have x2:W.cell? ⟨g,3 + s.cur.toNat,none⟩=some (.pointer q):=by rw [← hW];clear hW;go_simp
 have x3:W.frozen? ⟨g,3 + s.cur.toNat,none⟩=false:=by rw [← hW];clear hW;go_simp
 have x4:W.cell? ⟨w.heap.size,2,none⟩=some (.int .i64 (elt ms k).fn):=by rw [← hW];clear hW;go_simp
 have x5:w.heap.size + 1=W.heap.size:=by rw [← hW];simp
 have x6:g < W.heap.size:=by omega
 have x7:w.heap.size < W.heap.size:=by omega
 have x9:s.cur < 101:=by omega
 have x10:¬ 3 + s.cur.toNat=2:=by omega
 have x11:¬ 2=3 + s.cur.toNat:=by omega
 have x12:¬ w.heap.size=g:=by omega
 have x13:¬ g=w.heap.size:=by omega
 have I1:=qhq i1
 have I2:=qhq i2
 have I3:=qhq i3
 have x14:∀ u o,((W.setCell ⟨g,3 + s.cur.toNat,none⟩ u).alloc o).cell? ⟨g,2,none⟩=some (.int .i64 s.cur):=fun u o=>by
  obtain ⟨f',h'⟩:=i1
  exact (((h'.blk.set (j:=3 + s.cur.toNat) (by omega) u).alloc o).cell (by omega)).trans (by rw [upd_ne _ _ (by omega),h'.cur])
 have x15:IntKind.i64.wrap ((s.top.length:Int) + 1)=(s.top.length:Int) + 1:=IntWalk.i64_in _ (by omega)
 clear i1 i2 i3 hW hc0 hc1 hc2 hc3 hc4 hc5 g1 g2 gt g104 gf1 gf104 gf3 x5
 go_region_held3 (fun w'=>w'.cell? ⟨g,2,none⟩=some (.int .i64 s.cur) ∧ w'.cell? ⟨w.heap.size,2,none⟩=some (.int .i64 (elt ms k).fn)) (first | go_keep) ((go_at_call 136;refine (count_calls _ s.top _ (I3.out.later ((by repeat (with_reducible first | exact qrq _ _ | exact HL.out | refine qnq ?_ _ | refine bl_drew ?_ | refine qaq ?_ _ | refine bl_set ?_ (by dsimp only;omega) _))))).mono ?_;rintro e w1 ⟨rfl,rfl⟩))
 go_wp2_with fail
 go_end0
 have e1:stepP s (elt ms k) k=s.put (⟨(elt ms k).fn,0,k⟩ :: s.top):=by unfold stepP;have:=HK.out;rw [if_neg (by omega),if_pos this]
 have e2:closedP s (elt ms k)=[]:=by unfold closedP;have:=HK.out;rw [if_neg (by omega)]
 rw [e1,e2]
 obtain ⟨f',i1⟩:=I1.out
 have hN:FrL (W.alloc (.cells #[.int .i64 (elt ms k).fn,.int .i64 0,.int .i64 k,.pointer q,.int .i64 (s.top.length + 1)] 148)) (some ⟨W.heap.size,0,none⟩) (⟨(elt ms k).fn,0,k⟩ :: s.top):=by
  refine ⟨W.heap.size,q,rfl,?_,I3.out.later (qaq (qrq _ _) _)⟩
  refine (Blk.made W _ _).congr fun j hj=>?_
  match j,hj with
  | 0,_=>rfl
  | 1,_=>rfl
  | 2,_=>rfl
  | 3,_=>rfl
  | 4,_=>rfl
 rw [← World.setCell_alloc_past _ _ _ _ x6]
 exact ⟨rfl,⟨_,((i1.alloc _).setStk hlo hhi _ hN).drew⟩,gb_drew (gb_set (gb_alloc I2.out _) _ _)⟩
theorem step_calls (g:Nat) (v1 v2:Value) (s:PS) (cl:List PFr) (f:Nat → Value) (ms:List PMom) (k nf:Nat) (w:World) (h:IsW w g v1 v2 s cl f) (hm:RdMoms w v2 ms) (hk:k < ms.length)
  (hi:Inv s k) (hok:momOk nf (elt ms k)=true) (hc:checkP s (elt ms k)=0) :
  Calls Tryz.prog 73 #[.pointer (some ⟨g,0,none⟩),.int .i64 k] w fun e w'=>e=.returned (.tuple #[]) ∧ (∃ f',IsW w' g v1 v2 (stepP s (elt ms k) k) (closedP s (elt ms k)) f') ∧ w.grownBy w' (some g):=by
 simp only [momOk,momHd,Bool.and_eq_true] at hok
 have hkind:=inB_true.1 hok.1.1.1.1.1.1.1
 have htask:=inB_true.1 hok.1.1.1.1.1.1.2
 have hne:(elt ms k).kind=1 ∨ (elt ms k).kind=3 → s.top ≠ []:=by
  intro h1 h2
  unfold checkP at hc
  rw [if_neg (by omega),h2] at hc
  by_cases ht:(elt ms k).task ≠ s.cur
  ·rw [if_pos ht] at hc;cases hc
  ·rw [if_neg ht,if_neg (by omega)] at hc
   simp only at hc
   rw [if_pos (by omega)] at hc
   cases hc
 by_cases k7:(elt ms k).kind=7
 ·exact step_turn g v1 v2 s cl f ms k w h hm hk k7 htask.1 htask.2
 by_cases k2:(elt ms k).kind=2
 ·exact step_call g v1 v2 s cl f ms k w h hm hk hi.lo hi.hi k2 (hi.deep _)
 by_cases k3:(elt ms k).kind=3
 ·exact step_back g v1 v2 s cl f ms k w h hm hk hi.lo hi.hi k3 (hne (.inr k3))
 by_cases k1:(elt ms k).kind=1
 ·exact step_line g v1 v2 s cl f ms k w h hm hk hi.lo hi.hi k1 (hne (.inl k1))
 exact step_none g v1 v2 s cl f ms k w h hm hk hi.lo hi.hi (by omega)
end Go.Proofs.YtcklnjjbhngbcaaGreatDoor
