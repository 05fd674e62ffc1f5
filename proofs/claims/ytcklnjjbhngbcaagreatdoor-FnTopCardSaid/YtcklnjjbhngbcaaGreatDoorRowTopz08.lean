/- Lemmas and contracts of functions that the theorem of this claim leans on (texts B17). -/
import Derived.Test.YtcklnjjbhngbcaaGreatDoorRowTopz00
import Derived.Test.YtcklnjjbhngbcaaGreatDoorRowUnz04
import Derived.Test.YtcklnjjbhngbcaaGreatDoorRowUnz05
namespace Go.Proofs.YtcklnjjbhngbcaaGreatDoor
open Go.RowKit Go.Proofs.Lens
def tdF (q:PTold) (sv vv:Value) (j:Nat):Value:=match j with
 | 0=>.int .i64 q.place | 1=>.int .i64 q.code | 2=>.int .i64 q.num | 3=>.string q.text | 4=>sv | _=>vv
def tdC (qs:List PTold) (sv vv:Nat → Value) (i j:Nat):Value:=tdF (elt qs i) (sv i) (vv i) j
def bk:Value → Option Nat
 | .slice (some a) (_ + 1) _=>some a.block
 | _=>none
def OwZ (w:World) (lo:Nat) (e:TypeId) (sz n:Nat) (C:Nat → Nat → Value) (v:Value):Prop :=
 (n=0 ∧ ∃ A c,v=.slice A 0 c) ∨ (0 < n ∧ OwR w lo e sz n C v)
section
variable {w w' : World} {lo lo' : Nat} {e : TypeId} {sz n : Nat} {C : Nat → Nat → Value} {v : Value}
theorem owr_z (h:OwR w lo e sz n C v):OwZ w lo e sz n C v:=by
 by_cases h0:n=0
 ·subst h0
  obtain ⟨A,c,rfl,-⟩:=h.cap
  exact .inl ⟨rfl,A,c,rfl⟩
 ·exact .inr ⟨by omega,h⟩
theorem OwZ.bk_lt (h:OwZ w lo e sz n C v):∀ b,bk v=some b → lo ≤ b ∧ b < w.heap.size:=by
 intro b hb
 rcases h with ⟨rfl,A,c,rfl⟩ | ⟨h0,h⟩
 ·cases A <;> simp [bk] at hb
 ·obtain ⟨A,c,rfl,-⟩:=h.cap
  obtain ⟨m,rfl⟩:∃ m,n=m + 1:=⟨n - 1,by omega⟩
  cases A with
  | none=>simp [bk] at hb
  | some a =>
   have:a.block=b:=by simpa [bk] using hb
   exact h.lt b (by rw [← this];rfl)
theorem OwZ.keep (h:OwZ w lo e sz n C v) (hk:∀ b N f,Blk w b e N f → bk v=some b → w'.heap[b]?=w.heap[b]?):OwZ w' lo e sz n C v:=by
 rcases h with h | ⟨h0,h⟩
 ·exact .inl h
 ·refine .inr ⟨h0,h.keep fun b N f hB hv=>hk b N f hB ?_⟩
  obtain ⟨A,c,rfl,-⟩:=h.cap
  obtain ⟨m,rfl⟩:∃ m,n=m + 1:=⟨n - 1,by omega⟩
  cases A with
  | none=>cases hv
  | some a=>exact hv
theorem OwZ.later (h:OwZ w lo e sz n C v) (hb:Below w.heap.size w w'):OwZ w' lo e sz n C v:=h.keep fun b _ _ hB _=>hb.block b hB.lt
theorem OwZ.lower (h:OwZ w lo e sz n C v) (hl:lo' ≤ lo):OwZ w lo' e sz n C v:=by
 rcases h with h | ⟨h0,h⟩
 ·exact .inl h
 ·exact .inr ⟨h0,h.lower hl⟩
theorem OwZ.mv {ts:List TypeId} {lo2:Nat} (h:OwZ w lo e sz n C v) (hm:Mv ts lo2 w w') (he:e ∉ ts):OwZ w' lo e sz n C v:=by
 rcases h with h | ⟨h0,h⟩
 ·exact .inl h
 ·exact .inr ⟨h0,h.mv hm he⟩
theorem OwZ.rd (h:OwZ w lo e sz n C v):RdSl w sz n C v:=by
 rcases h with ⟨rfl,A,c,rfl⟩ | ⟨h0,h⟩
 ·exact ⟨A,c,rfl,by omega,fun h=>absurd h (by omega)⟩
 ·exact h.rd
theorem OwZ.one (h:OwZ w lo e sz n C v):v.oneCell'=true:=by
 rcases h with ⟨rfl,A,c,rfl⟩ | ⟨h0,h⟩
 ·rfl
 ·exact owr_one h
theorem OwZ.shape (h:OwZ w lo e sz n C v):∃ A c,v=.slice A n c:=by
 rcases h with ⟨rfl,A,c,rfl⟩ | ⟨h0,h⟩
 ·exact ⟨A,c,rfl⟩
 ·obtain ⟨A,c,rfl,-⟩:=h.cap
  exact ⟨A,c,rfl⟩
end
def Dj (f:Nat → Option Nat) (n:Nat):Prop:=∀ i j,i < n → j < n → i ≠ j → ∀ b,f i=some b → f j ≠ some b
structure BTold (w:World) (lo:Nat) (v:Value) (qs:List PTold) (sv vv:Nat → Value):Prop where
 row:OwR w lo 38 6 qs.length (tdC qs sv vv) v
 fr:∀ i,i < qs.length → OwR w lo 42 3 (elt qs i).stack.length (frC (elt qs i).stack) (sv i)
 vr:∀ i,i < qs.length → OwZ w lo 40 2 (elt qs i).vars.length (varC (elt qs i).vars) (vv i)
 dfr:Dj (fun i=>(sv i).ownBlock) qs.length
 dvr:Dj (fun i=>bk (vv i)) qs.length
def RdTold (w:World) (v:Value) (qs:List PTold):Prop :=
 ∃ sv vv:Nat → Value,RdSl w 6 qs.length (tdC qs sv vv) v ∧ ∀ i,i < qs.length → RdFrs w (sv i) (elt qs i).stack ∧ RdVars w (vv i) (elt qs i).vars
section
variable {w w' : World} {lo lo' : Nat} {v : Value} {qs : List PTold} {sv vv : Nat → Value}
theorem BTold.nil:BTold w lo (.slice none 0 0) [] (fun _=>undef) (fun _=>undef):=⟨OwR.nil,fun i hi=>absurd hi (by simp),fun i hi=>absurd hi (by simp),fun i j hi=>absurd hi (by simp),fun i j hi=>absurd hi (by simp)⟩
theorem BTold.later (h:BTold w lo v qs sv vv) (hb:Below w.heap.size w w'):BTold w' lo v qs sv vv:=⟨h.row.later hb,fun i hi=>(h.fr i hi).later hb,fun i hi=>(h.vr i hi).later hb,h.dfr,h.dvr⟩
theorem BTold.rd (h:BTold w lo v qs sv vv):RdTold w v qs:=⟨sv,vv,h.row.rd,fun i hi=>⟨(h.fr i hi).rd,(h.vr i hi).rd⟩⟩
theorem RdTold.later (h:RdTold w v qs) (hb:Below w.heap.size w w'):RdTold w' v qs:=by
 obtain ⟨sv,vv,h1,h2⟩:=h
 exact ⟨sv,vv,RdSl.later h1 hb,fun i hi=>⟨(h2 i hi).1.later hb,(h2 i hi).2.later hb⟩⟩
end
def tdV (q:PTold) (a b:Value):List Value:=[.int .i64 q.place,.int .i64 q.code,.int .i64 q.num,.string q.text,a,b]
theorem tdV_at (q:PTold) (a b:Value) {j:Nat} (hj:j < 6):(tdV q a b)[j]?=some (tdF q a b j):=by
 match j,hj with
 | 0,_=>rfl
 | 1,_=>rfl
 | 2,_=>rfl
 | 3,_=>rfl
 | 4,_=>rfl
 | 5,_=>rfl
theorem tdC_old (qs:List PTold) (sv vv:Nat → Value) (q:PTold) (a b:Value) {i:Nat} (hi:i < qs.length) (j:Nat):tdC qs sv vv i j=tdC (qs ++ [q]) (snocV sv qs.length a) (snocV vv qs.length b) i j:=by
 unfold tdC snocV
 rw [elt_app _ _ hi,if_neg (by omega),if_neg (by omega)]
theorem tdC_new (qs:List PTold) (sv vv:Nat → Value) (q:PTold) (a b:Value) {j:Nat} (hj:j < 6):(tdV q a b)[j]?=some (tdC (qs ++ [q]) (snocV sv qs.length a) (snocV vv qs.length b) qs.length j):=by
 rw [tdV_at q a b hj]
 unfold tdC snocV
 rw [elt_last,if_pos rfl,if_pos rfl]
theorem Dj.snoc {f:Nat → Value} {g:Value → Option Nat} {n:Nat} {x:Value} (h:Dj (fun i=>g (f i)) n) {B:Nat} (hf:∀ i,i < n → ∀ b,g (f i)=some b → b < B) (hx:∀ b,g x=some b → B ≤ b):Dj (fun i=>g (snocV f n x i)) (n + 1):=by
 intro i j hi hj hij b hb
 unfold snocV at hb ⊢
 dsimp only at hb ⊢
 by_cases h1:i=n
 ·rw [if_pos h1] at hb
  rw [if_neg (by omega)]
  intro hh
  have:=hf j (by omega) b hh
  have:=hx b hb
  omega
 ·rw [if_neg h1] at hb
  by_cases h2:j=n
  ·rw [if_pos h2]
   intro hh
   have:=hf i (by omega) b hb
   have:=hx b hh
   omega
  ·rw [if_neg h2];exact h i j (by omega) (by omega) hij b hb
theorem BTold.snoc {w':World} {lo B:Nat} {v' a b:Value} {qs:List PTold} {q:PTold} {sv vv:Nat → Value} (h1:∀ i,i < qs.length → OwR w' lo 42 3 (elt qs i).stack.length (frC (elt qs i).stack) (sv i)) (h2:∀ i,i < qs.length → OwZ w' lo 40 2 (elt qs i).vars.length (varC (elt qs i).vars) (vv i))
  (h3:Dj (fun i=>(sv i).ownBlock) qs.length) (h4:Dj (fun i=>bk (vv i)) qs.length)
  (hO:OwR w' lo 38 6 (qs ++ [q]).length (tdC (qs ++ [q]) (snocV sv qs.length a) (snocV vv qs.length b)) v') (ha:OwR w' B 42 3 q.stack.length (frC q.stack) a) (hb:OwZ w' B 40 2 q.vars.length (varC q.vars) b) (hB:lo ≤ B)
  (hs:∀ i,i < qs.length → ∀ c,(sv i).ownBlock=some c → c < B) (hv:∀ i,i < qs.length → ∀ c,bk (vv i)=some c → c < B):BTold w' lo v' (qs ++ [q]) (snocV sv qs.length a) (snocV vv qs.length b):=by
 have hl:(qs ++ [q]).length=qs.length + 1:=by simp
 refine ⟨hO,fun i hi=>?_,fun i hi=>?_,?_,?_⟩
 ·unfold snocV
  by_cases e:i=qs.length
  ·subst e;rw [if_pos rfl,elt_last];exact ha.lower hB
  ·rw [if_neg e,elt_app _ _ (by omega)];exact h1 i (by omega)
 ·unfold snocV
  by_cases e:i=qs.length
  ·subst e;rw [if_pos rfl,elt_last];exact hb.lower hB
  ·rw [if_neg e,elt_app _ _ (by omega)];exact h2 i (by omega)
 ·rw [hl];exact Dj.snoc (g:=Value.ownBlock) h3 hs fun b hb=>(ha.lt b hb).1
 ·rw [hl];exact Dj.snoc (g:=bk) h4 hv fun b hc=>(hb.bk_lt b hc).1
theorem i_told:(Tryz.prog.info? 38).map (fun i=>(i.zero,i.size,i.bytes))=some (some (.agg #[.int .i64 0,.int .i64 0,.int .i64 0,.string ⟨#[]⟩,.slice none 0 0,.slice none 0 0]),6,88):=by kernel_rfl
theorem tdV_one (q:PTold) {a b:Value} (ha:a.oneCell'=true) (hb:b.oneCell'=true):∀ u ∈ tdV q a b,u.oneCell'=true:=by
 intro u hu
 simp only [tdV,List.mem_cons,List.not_mem_nil,or_false] at hu
 rcases hu with rfl | rfl | rfl | rfl | rfl | rfl
 ·rfl
 ·rfl
 ·rfl
 ·rfl
 ·exact ha
 ·exact hb
theorem wp_appendT {o:Oper} {a:Act} {K:Act → World → Prop} {Q:Exit → Act → World → Prop} (w:World) (s x:Operand)
  (ho:o.op=.call { callee:=.builtin .append,args:=#[s,x],argTypes:=#[30,30] }) (lo B:Nat) (v:Value) (qs:List PTold) (q:PTold) (sv vv:Nat → Value) (sx vx:Value) (hs:a.eval s=v)
  (hM:BTold w lo v qs sv vv) (hsx:OwR w B 42 3 q.stack.length (frC q.stack) sx) (hvx:OwZ w B 40 2 q.vars.length (varC q.vars) vx) (hB:lo ≤ B) (hsv:∀ i,i < qs.length → ∀ c,(sv i).ownBlock=some c → c < B) (hvv:∀ i,i < qs.length → ∀ c,bk (vv i)=some c → c < B)
  (bx cx:Nat) (hnews:∀ j u,(tdV q sx vx)[j]?=some u → w.cell? ⟨bx,0 + j,none⟩=some u) (hx:a.eval x=.slice (some ⟨bx,0,none⟩) 1 cx) (hlo:lo ≤ w.heap.size) (hn:qs.length ≤ 1048576)
  (h:∀ g cap w',BTold w' lo (.slice (some ⟨g,0,none⟩) (qs ++ [q]).length cap) (qs ++ [q]) (snocV sv qs.length sx) (snocV vv qs.length vx) → w.grownBy w' v.ownBlock → w.heap.size ≤ w'.heap.size →
   K (a.put o.dst (.slice (some ⟨g,0,none⟩) (qs ++ [q]).length cap)) w'):o.wp Tryz.prog a w K Q:=by
 have hl1:(qs ++ [q]).length=qs.length + 1:=by simp
 have hO:=hM.row
 refine wp_appendG w s x 30 ho lo 38 _ 6 88 1 Tryz.underlying30 i_told rfl (by omega) v qs.length (tdC qs sv vv) (tdC (qs ++ [q]) (snocV sv qs.length sx) (snocV vv qs.length vx)) hs hO (tdV q sx vx) rfl (by omega) ?_ bx 0 cx hx hnews
  (fun i hi j _=>tdC_old qs sv vv q sx vx hi j) (fun i hi j hj=>?_) hlo (by omega) (by omega) ?_
 ·exact tdV_one q (owr_one hsx) hvx.one
 ·obtain rfl:i=0:=by omega
  rw [Nat.zero_mul,Nat.zero_add,Nat.add_zero];exact tdC_new qs sv vv q sx vx hj
 ·intro g cap w' h1 h2 h3 h4
  have hmv:Mv [38] lo w w':=(Mv.refl _ _ _).grown hlo h2 (fun b hb=>by obtain ⟨N,F,hB⟩:=hO.block hb;exact ⟨(hO.lt b hb).1,_,N,F,hB,by simp⟩)
  rw [← hl1] at h1 ⊢
  exact h g cap w' (BTold.snoc (fun i hi=>(hM.fr i hi).mv hmv (by decide)) (fun i hi=>(hM.vr i hi).mv hmv (by decide)) hM.dfr hM.dvr h1 (hsx.mv hmv (by decide)) (hvx.mv hmv (by decide)) hB hsv hvv) h2 h2.size
end Go.Proofs.YtcklnjjbhngbcaaGreatDoor
