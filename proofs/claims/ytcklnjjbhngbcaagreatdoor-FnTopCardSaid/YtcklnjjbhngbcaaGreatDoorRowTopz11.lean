/- Lemmas and contracts of functions that the theorem of this claim leans on (texts L19). -/
import Derived.Test.YtcklnjjbhngbcaaGreatDoorRowTopz00
import Derived.Test.YtcklnjjbhngbcaaGreatDoorRowTopz08
namespace Go.Proofs.YtcklnjjbhngbcaaGreatDoor
open Go.RowKit Go.Proofs.Lens
structure GotS (lo:Nat) (v:Value) (n:Nat) (ns nv:Nat → Nat) (sv vv:Nat → Value) (w:World):Prop where
 row:∃ C,OwR w lo 38 6 n C v ∧ ∀ i,i < n → C i 4=sv i ∧ C i 5=vv i
 fr:∀ i,i < n → ∃ C,OwR w lo 42 3 (ns i) C (sv i)
 vr:∀ i,i < n → ∃ C,OwZ w lo 40 2 (nv i) C (vv i)
 dfr:Dj (fun i=>(sv i).ownBlock) n
 dvr:Dj (fun i=>bk (vv i)) n
section
variable {w w' : World} {lo n : Nat} {v : Value} {ns nv : Nat → Nat} {sv vv : Nat → Value}
theorem BTold.got {qs:List PTold} (h:BTold w lo v qs sv vv) (hn:qs.length=n):GotS lo v n (fun i=>(elt qs i).stack.length) (fun i=>(elt qs i).vars.length) sv vv w:=by
 subst hn
 exact ⟨⟨_,h.row,fun i hi=>⟨rfl,rfl⟩⟩,fun i hi=>⟨_,h.fr i hi⟩,fun i hi=>⟨_,h.vr i hi⟩,h.dfr,h.dvr⟩
theorem GotS.later (h:GotS lo v n ns nv sv vv w) (hb:Below w.heap.size w w'):GotS lo v n ns nv sv vv w':=by
 obtain ⟨⟨C,h1,h2⟩,h3,h4,h5,h6⟩:=h
 exact ⟨⟨C,h1.later hb,h2⟩,fun i hi=>by obtain ⟨C,a⟩:=h3 i hi;exact ⟨C,a.later hb⟩,fun i hi=>by obtain ⟨C,a⟩:=h4 i hi;exact ⟨C,a.later hb⟩,h5,h6⟩
theorem upd_own {sz m b cap k j:Nat} {e:TypeId} {C:Nat → Nat → Value} (h:OwR w lo e sz m C (.slice (some ⟨b,0,none⟩) m cap)) (hk:k < m) (hj:j < sz) (u:Value) :
  OwR (w.setCell ⟨b,k * sz + j,none⟩ u) lo e sz m (fun i l=>if i=k ∧ l=j then u else C i l) (.slice (some ⟨b,0,none⟩) m cap) :=
 h.set hk hj (fun i l _ _ hne=>by rw [if_neg (by omega)]) (by rw [if_pos ⟨rfl,rfl⟩])
theorem GotS.setV (h:GotS lo v n ns nv sv vv w) {q b cap k j:Nat} (hq:q < n) (hv:vv q=.slice (some ⟨b,0,none⟩) (nv q) cap) (hk:k < nv q) (hj:j < 2) (u:Value):GotS lo v n ns nv sv vv (w.setCell ⟨b,k * 2 + j,none⟩ u) ∧ lo ≤ b:=by
 obtain ⟨C,hC⟩:=h.vr q hq
 rcases hC with ⟨h0,-⟩ | ⟨h0,hO⟩
 ·omega
 rw [hv] at hO
 obtain ⟨N,F,hB⟩:=hO.block (b:=b) rfl
 have hbk:bk (vv q)=some b:=by
  rw [hv]
  obtain ⟨m,hm⟩:∃ m,nv q=m + 1:=⟨nv q - 1,by omega⟩
  rw [hm];rfl
 obtain ⟨⟨C1,r1,r2⟩,h3,h4,h5,h6⟩:=h
 refine ⟨⟨⟨C1,r1.other hB (by decide) _ u,r2⟩,fun i hi=>?_,fun i hi=>?_,h5,h6⟩,(hO.lt b rfl).1⟩
 ·obtain ⟨C',a⟩:=h3 i hi
  exact ⟨C',a.other hB (by decide) _ u⟩
 ·by_cases e:i=q
  ·subst e
   rw [hv]
   exact ⟨_,.inr ⟨h0,upd_own hO hk hj u⟩⟩
  ·obtain ⟨C',a⟩:=h4 i hi
   exact ⟨C',a.keep fun b' _ _ _ hb'=>Below.heap_setCell _ _ _ _ (fun hh=>h6 i q hi hq e b' hb' (by rw [hh];exact hbk))⟩
theorem GotS.setF (h:GotS lo v n ns nv sv vv w) {q b cap k j:Nat} (hq:q < n) (hv:sv q=.slice (some ⟨b,0,none⟩) (ns q) cap) (hk:k < ns q) (hj:j < 3) (u:Value):GotS lo v n ns nv sv vv (w.setCell ⟨b,k * 3 + j,none⟩ u) ∧ lo ≤ b:=by
 obtain ⟨C,hO⟩:=h.fr q hq
 rw [hv] at hO
 obtain ⟨N,F,hB⟩:=hO.block (b:=b) rfl
 have hbk:(sv q).ownBlock=some b:=by rw [hv];rfl
 obtain ⟨⟨C1,r1,r2⟩,h3,h4,h5,h6⟩:=h
 refine ⟨⟨⟨C1,r1.other hB (by decide) _ u,r2⟩,fun i hi=>?_,fun i hi=>?_,h5,h6⟩,(hO.lt b rfl).1⟩
 ·by_cases e:i=q
  ·subst e
   rw [hv]
   exact ⟨_,upd_own hO hk hj u⟩
  ·obtain ⟨C',a⟩:=h3 i hi
   exact ⟨C',a.keep fun b' _ _ _ hb'=>Below.heap_setCell _ _ _ _ (fun hh=>h5 i q hi hq e b' hb' (by show (sv q).ownBlock=some b';rw [hh];exact hbk))⟩
 ·obtain ⟨C',a⟩:=h4 i hi
  rcases a with a | ⟨a0,a⟩
  ·exact ⟨C',.inl a⟩
  ·exact ⟨C',.inr ⟨a0,a.other hB (by decide) _ u⟩⟩
theorem GotS.cells {b cap:Nat} (h:GotS lo (.slice (some ⟨b,0,none⟩) n cap) n ns nv sv vv w) {q:Nat} (hq:q < n):w.cell? ⟨b,q * 6 + 4,none⟩=some (sv q) ∧ w.cell? ⟨b,q * 6 + 5,none⟩=some (vv q):=by
 obtain ⟨⟨C,h1,h2⟩,-⟩:=h
 obtain ⟨A',c',hv,hop⟩:=h1.open'
 obtain ⟨b',hbb,-,-,hc,-⟩:=hop (by omega)
 obtain rfl:b=b':=by simp at hv;rw [← hv.1] at hbb;simpa using hbb
 rw [← (h2 q hq).1,← (h2 q hq).2]
 exact ⟨hc q hq 4 (by omega),hc q hq 5 (by omega)⟩
theorem GotS.vars (h:GotS lo v n ns nv sv vv w) {q:Nat} (hq:q < n) (h0:0 < nv q):∃ b cap,vv q=.slice (some ⟨b,0,none⟩) (nv q) cap ∧ b < w.heap.size ∧ (∀ k,k < nv q → ∀ j,j < 2 → ∃ u,w.cell? ⟨b,k * 2 + j,none⟩=some u) ∧ ∀ j,w.frozen? ⟨b,j,none⟩=false:=by
 obtain ⟨C,hC⟩:=h.vr q hq
 rcases hC with ⟨h1,-⟩ | ⟨-,hO⟩
 ·omega
 obtain ⟨A',c',hv,hop⟩:=hO.open'
 obtain ⟨b,rfl,-,hlt,hc,hf⟩:=hop h0
 exact ⟨b,c',hv,hlt,fun k hk j hj=>⟨_,hc k hk j hj⟩,hf⟩
theorem GotS.frames (h:GotS lo v n ns nv sv vv w) {q:Nat} (hq:q < n) (h0:0 < ns q):∃ b cap,sv q=.slice (some ⟨b,0,none⟩) (ns q) cap ∧ b < w.heap.size ∧ (∀ k,k < ns q → ∀ j,j < 3 → ∃ u,w.cell? ⟨b,k * 3 + j,none⟩=some u) ∧ ∀ j,w.frozen? ⟨b,j,none⟩=false:=by
 obtain ⟨C,hO⟩:=h.fr q hq
 obtain ⟨A',c',hv,hop⟩:=hO.open'
 obtain ⟨b,rfl,-,hlt,hc,hf⟩:=hop h0
 exact ⟨b,c',hv,hlt,fun k hk j hj=>⟨_,hc k hk j hj⟩,hf⟩
theorem GotS.shapes (h:GotS lo v n ns nv sv vv w) {q:Nat} (hq:q < n):(∃ A c,sv q=.slice A (ns q) c) ∧ ∃ A c,vv q=.slice A (nv q) c:=by
 obtain ⟨C,hO⟩:=h.fr q hq
 obtain ⟨A,c,e,-⟩:=hO.cap
 obtain ⟨C',hZ⟩:=h.vr q hq
 exact ⟨⟨A,c,e⟩,hZ.shape⟩
theorem GotS.small (h:GotS lo v n ns nv sv vv w) {q:Nat} (hq:q < n):ns q ≤ 9223372036854775807 ∧ nv q ≤ 9223372036854775807:=by
 obtain ⟨C,hO⟩:=h.fr q hq
 obtain ⟨A,c,-,h1,h2⟩:=hO.cap
 refine ⟨Nat.le_trans h1 h2,?_⟩
 obtain ⟨C',hZ⟩:=h.vr q hq
 rcases hZ with ⟨h0,-⟩ | ⟨-,hO'⟩
 ·omega
 ·obtain ⟨A',c',-,h3,h4⟩:=hO'.cap
  exact Nat.le_trans h3 h4
theorem GotS.cap (h:GotS lo v n ns nv sv vv w):(n=0 ∧ v=.slice none 0 0) ∨ ∃ b cap,v=.slice (some ⟨b,0,none⟩) n cap:=by
 obtain ⟨⟨C,h1,-⟩,-⟩:=h
 rcases h1 with ⟨h0,e⟩ | ⟨b,cap,f,e,-⟩
 ·exact .inl ⟨e,h0⟩
 ·exact .inr ⟨b,cap,e⟩
end
end Go.Proofs.YtcklnjjbhngbcaaGreatDoor
