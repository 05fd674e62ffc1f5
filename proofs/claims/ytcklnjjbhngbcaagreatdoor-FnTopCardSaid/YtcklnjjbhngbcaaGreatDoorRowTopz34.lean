/- Lemmas and contracts of functions that the theorem of this claim leans on (texts RM1). -/
import Derived.Test.YtcklnjjbhngbcaaGreatDoorRowTopz00
import Derived.Test.YtcklnjjbhngbcaaGreatDoorRowTopzB
import Derived.Shelf.SlSortCmp.WholeK
import Derived.Shelf.SlSortCmp.NoneTotal
import Derived.Maps.Range
import Derived.WideKeyEntry
import Derived.Deep.DeepCutAuto
import Derived.Laws.BytesArg
import Derived.Lib.ItoaLen
import Derived.Lib.AppendStr
import Derived.Lib.OthersKept
import Derived.Shelf.Strings.BuilderK
import Derived.Shelf.Strconv.Itoa3
import Derived.Lib.Builder
import Derived.Lib.OwnKind
import Derived.Lib.AppendIntMem
import Derived.Test.YtcklnjjbhngbcaaGreatDoorRowUnz02
import Derived.Test.YtcklnjjbhngbcaaGreatDoorRowTopz15
import Derived.Test.YtcklnjjbhngbcaaGreatDoorRowTopz13
import Derived.Test.YtcklnjjbhngbcaaGreatDoorRowUnz01
import Derived.Test.YtcklnjjbhngbcaaGreatDoorRowTopz33
import Derived.Test.YtcklnjjbhngbcaaGreatDoorRowUnz05
import Derived.Test.YtcklnjjbhngbcaaGreatDoorRowUnz06
namespace Go.Proofs.Lens
open Go.Proofs.YtcklnjjbhngbcaaGreatDoor
structure PLc where
 fn:Int
 line:Int
 cnt:Int
instance:Inhabited PLc:=⟨⟨0,0,0⟩⟩
def lcC (xs:List PLc) (i j:Nat):Value:=match j with | 0=>.int .i64 (elt xs i).fn | 1=>.int .i64 (elt xs i).line | _=>.int .i64 (elt xs i).cnt
def lcLt (a b:PLc):Bool:=decide (a.fn < b.fn) || (decide (a.fn=b.fn) && decide (a.line < b.line))
theorem lcLt_iff {a b:PLc}:lcLt a b=true ↔ a.fn < b.fn ∨ (a.fn=b.fn ∧ a.line < b.line):=by simp [lcLt]
theorem lcLt_not {a b:PLc}:lcLt a b=false ↔ ¬ (a.fn < b.fn ∨ (a.fn=b.fn ∧ a.line < b.line)):=by rw [← Bool.not_eq_true,lcLt_iff]
theorem lcLt_trans {a b c:PLc} (h1:lcLt a b=true) (h2:lcLt b c=true):lcLt a c=true:=by rw [lcLt_iff] at *;omega
def lcIs (fn line:Int) (x:PLc):Bool:=decide (x.fn=fn) && decide (x.line=line)
theorem lcIs_iff {fn line:Int} {x:PLc}:lcIs fn line x=true ↔ x.fn=fn ∧ x.line=line:=by simp [lcIs]
def lcUp1 (fn line:Int) (x:PLc):PLc:=if lcIs fn line x=true then ⟨x.fn,x.line,x.cnt + 1⟩ else x
def lcUp (l:List PLc) (fn line:Int):List PLc:=l.map (lcUp1 fn line)
def lcMet (l:List PLc) (fn line:Int):Bool:=l.any (lcIs fn line)
def lcIns (x:PLc):List PLc → List PLc
 | []=>[x]
 | a :: r=>if lcLt a x=true then a :: lcIns x r else x :: a :: r
def lcStep (l:List PLc) (m:PMom):List PLc :=
 if m.kind ≠ 1 then l else if lcMet l m.fn m.line=true then lcUp l m.fn m.line else lcIns ⟨m.fn,m.line,1⟩ l
def lcN (ms:List PMom):Nat → List PLc
 | 0=>[]
 | n + 1=>lcStep (lcN ms n) (elt ms n)
def lcP (t:PTr):List PLc:=if soundP t=true then lcN t.moms t.moms.length else []
def LcSorted (l:List PLc):Prop:=l.Pairwise fun a b=>lcLt a b=true
theorem lcUp1_fn (fn line:Int) (x:PLc):(lcUp1 fn line x).fn=x.fn:=by unfold lcUp1;split <;> rfl
theorem lcUp1_line (fn line:Int) (x:PLc):(lcUp1 fn line x).line=x.line:=by unfold lcUp1;split <;> rfl
theorem lcUp1_lt (fn line:Int) (a b:PLc):lcLt (lcUp1 fn line a) (lcUp1 fn line b)=lcLt a b:=by
 unfold lcLt;rw [lcUp1_fn,lcUp1_fn,lcUp1_line,lcUp1_line]
theorem lcUp_sorted {l:List PLc} (h:LcSorted l) (fn line:Int):LcSorted (lcUp l fn line):=by
 unfold LcSorted lcUp
 rw [List.pairwise_map]
 exact h.imp fun hab=>by rw [lcUp1_lt];exact hab
theorem lcIns_mem {x y:PLc}:∀ {l:List PLc},y ∈ lcIns x l ↔ y=x ∨ y ∈ l
 | []=>by simp [lcIns]
 | a :: r=>by
  unfold lcIns
  split
  ·rw [List.mem_cons,lcIns_mem,List.mem_cons]
   constructor
   ·rintro (h | h | h)
    ·exact .inr (.inl h)
    ·exact .inl h
    ·exact .inr (.inr h)
   ·rintro (h | h | h)
    ·exact .inr (.inl h)
    ·exact .inl h
    ·exact .inr (.inr h)
  ·simp [List.mem_cons]
theorem lcIns_len (x:PLc):∀ l:List PLc,(lcIns x l).length=l.length + 1
 | []=>rfl
 | a :: r=>by unfold lcIns;split <;> simp [lcIns_len x r]
theorem lcIns_sorted {x:PLc}:∀ {l:List PLc},LcSorted l → (∀ y ∈ l,¬ (y.fn=x.fn ∧ y.line=x.line)) → LcSorted (lcIns x l)
 | [],_,_=>by simp [lcIns,LcSorted]
 | a :: r,h,hn=>by
  obtain ⟨h1,h2⟩:=List.pairwise_cons.1 h
  unfold lcIns
  split
  ·rename_i hax
   refine List.pairwise_cons.2 ⟨fun y hy=>?_,lcIns_sorted h2 fun y hy=>hn y (List.mem_cons_of_mem _ hy)⟩
   rcases lcIns_mem.1 hy with rfl | hy
   ·exact hax
   ·exact h1 y hy
  ·rename_i hax
   have hxa:lcLt x a=true:=by
    have:=hn a (List.mem_cons_self ..)
    rw [lcLt_iff] at hax ⊢
    omega
   refine List.pairwise_cons.2 ⟨fun y hy=>?_,h⟩
   rcases List.mem_cons.1 hy with rfl | hy
   ·exact hxa
   ·exact lcLt_trans hxa (h1 y hy)
theorem lcMet_false {l:List PLc} {fn line:Int} (h:lcMet l fn line=false):∀ y ∈ l,¬ (y.fn=fn ∧ y.line=line):=by
 intro y hy hh
 unfold lcMet at h
 rw [List.any_eq_false] at h
 exact h y hy (lcIs_iff.2 hh)
theorem lcStep_sorted {l:List PLc} (h:LcSorted l) (m:PMom):LcSorted (lcStep l m):=by
 unfold lcStep
 split
 ·exact h
 ·split
  ·exact lcUp_sorted h _ _
  ·rename_i hm
   exact lcIns_sorted h (lcMet_false (by simpa using hm))
theorem lcN_sorted (ms:List PMom):∀ n,LcSorted (lcN ms n)
 | 0=>List.Pairwise.nil
 | n + 1=>lcStep_sorted (lcN_sorted ms n) _
theorem lcN_len (ms:List PMom):∀ n,(lcN ms n).length ≤ n
 | 0=>by simp [lcN]
 | n + 1=>by
  have ih:=lcN_len ms n
  show (lcStep (lcN ms n) (elt ms n)).length ≤ n + 1
  unfold lcStep
  split
  ·omega
  ·split
   ·unfold lcUp;rw [List.length_map];omega
   ·rw [lcIns_len];omega
def lcK (ms:List PMom) (fn line:Int):Nat → Int
 | 0=>0
 | n + 1=>if (elt ms n).kind=1 ∧ (elt ms n).fn=fn ∧ (elt ms n).line=line then lcK ms fn line n + 1 else lcK ms fn line n
theorem lcK_bd (ms:List PMom) (fn line:Int):∀ n,0 ≤ lcK ms fn line n ∧ lcK ms fn line n ≤ n
 | 0=>by simp [lcK]
 | n + 1=>by have:=lcK_bd ms fn line n;unfold lcK;split <;> omega
theorem lcN_mem (ms:List PMom):∀ n x,x ∈ lcN ms n ↔ (x.cnt=lcK ms x.fn x.line n ∧ 0 < x.cnt)
 | 0,x=>by
  simp only [lcN,lcK,List.not_mem_nil,false_iff]
  omega
 | n + 1,x=>by
  have ih:=lcN_mem ms n
  have hk:=lcK_bd ms x.fn x.line n
  show x ∈ lcStep (lcN ms n) (elt ms n) ↔ _
  generalize hm:elt ms n=m
  unfold lcStep
  simp only [lcK]
  rw [hm]
  by_cases k1:m.kind ≠ 1
  ·rw [if_pos k1,if_neg (fun hh=>k1 hh.1)];exact ih x
  have k1:m.kind=1:=Decidable.not_not.1 k1
  rw [if_neg (by rw [k1];simp)]
  by_cases hmet:lcMet (lcN ms n) m.fn m.line=true
  ·rw [if_pos hmet]
   unfold lcUp
   rw [List.mem_map]
   by_cases hx:m.fn=x.fn ∧ m.line=x.line
   ·rw [if_pos ⟨k1,hx⟩]
    constructor
    ·rintro ⟨y,hy,rfl⟩
     rw [lcUp1_fn,lcUp1_line] at hx
     have hy':=(ih y).1 hy
     rw [lcUp1_fn,lcUp1_line]
     unfold lcUp1
     rw [if_pos (lcIs_iff.2 ⟨hx.1.symm,hx.2.symm⟩)]
     dsimp only
     omega
    ·rintro ⟨e1,e2⟩
     refine ⟨⟨x.fn,x.line,x.cnt - 1⟩,(ih _).2 ⟨by dsimp only;omega,?_⟩,?_⟩
     ·dsimp only
      obtain ⟨y,hy,hy2⟩:=List.any_eq_true.1 hmet
      have h3:=(ih y).1 hy
      have h4:=lcIs_iff.1 hy2
      rw [show y.fn=x.fn by omega,show y.line=x.line by omega] at h3
      omega
     ·have hi:lcIs m.fn m.line ⟨x.fn,x.line,x.cnt - 1⟩=true:=lcIs_iff.2 ⟨hx.1.symm,hx.2.symm⟩
      unfold lcUp1
      rw [if_pos hi]
      obtain ⟨a,b,c⟩:=x
      dsimp only
      congr 1
      omega
   ·rw [if_neg (fun hh=>hx hh.2)]
    constructor
    ·rintro ⟨y,hy,rfl⟩
     rw [lcUp1_fn,lcUp1_line] at hx
     have:lcUp1 m.fn m.line y=y:=by
      unfold lcUp1
      rw [if_neg (fun hh=>hx ⟨(lcIs_iff.1 hh).1.symm,(lcIs_iff.1 hh).2.symm⟩)]
     rw [this]
     exact (ih y).1 hy
    ·intro hh
     refine ⟨x,(ih x).2 hh,?_⟩
     unfold lcUp1
     rw [if_neg (fun hh=>hx ⟨(lcIs_iff.1 hh).1.symm,(lcIs_iff.1 hh).2.symm⟩)]
  ·rw [if_neg hmet,lcIns_mem]
   have hno:=lcMet_false (by simpa using hmet:lcMet (lcN ms n) m.fn m.line=false)
   have h0:lcK ms m.fn m.line n=0:=by
    by_cases hz:lcK ms m.fn m.line n=0
    ·exact hz
    ·exfalso
     have hb:=lcK_bd ms m.fn m.line n
     exact hno _ ((ih ⟨m.fn,m.line,lcK ms m.fn m.line n⟩).2 ⟨rfl,by dsimp only;omega⟩) ⟨rfl,rfl⟩
   by_cases hx:m.fn=x.fn ∧ m.line=x.line
   ·rw [if_pos ⟨k1,hx⟩]
    constructor
    ·rintro (rfl | hh)
     ·dsimp only;omega
     ·exact absurd ⟨hx.1.symm,hx.2.symm⟩ (hno x hh)
    ·rintro ⟨e1,e2⟩
     left
     rw [hx.1,hx.2] at h0
     obtain ⟨a,b,c⟩:=x
     dsimp only at e1 hx h0 ⊢
     rw [hx.1,hx.2]
     congr 1
     omega
   ·rw [if_neg (fun hh=>hx hh.2),← ih x]
    constructor
    ·rintro (rfl | hh)
     ·exact absurd ⟨rfl,rfl⟩ hx
     ·exact hh
    ·exact .inr
theorem lcSorted_one:∀ {l r:List PLc},LcSorted l → LcSorted r → (∀ x,x ∈ l ↔ x ∈ r) → l=r
 | [],[],_,_,_=>rfl
 | [],b :: r,_,_,h=>absurd ((h b).2 (List.mem_cons_self ..)) (by simp)
 | a :: l,[],_,_,h=>absurd ((h a).1 (List.mem_cons_self ..)) (by simp)
 | a :: l,b :: r,h1,h2,h=>by
  obtain ⟨a1,a2⟩:=List.pairwise_cons.1 h1
  obtain ⟨b1,b2⟩:=List.pairwise_cons.1 h2
  have hirr:∀ x y:PLc,lcLt x y=true → lcLt y x=true → False:=fun x y p q=>by rw [lcLt_iff] at p q;omega
  have hab:a=b:=by
   rcases List.mem_cons.1 ((h a).1 (List.mem_cons_self ..)) with e | ha
   ·exact e
   ·rcases List.mem_cons.1 ((h b).2 (List.mem_cons_self ..)) with e | hb
    ·exact e.symm
    ·exact (hirr _ _ (a1 b hb) (b1 a ha)).elim
  subst hab
  have hne:∀ {q:List PLc},(∀ y ∈ q,lcLt a y=true) → a ∉ q:=fun hq hh=>hirr a a (hq a hh) (hq a hh)
  congr 1
  refine lcSorted_one a2 b2 fun x=>?_
  constructor
  ·intro hx
   rcases List.mem_cons.1 ((h x).1 (List.mem_cons_of_mem _ hx)) with rfl | hh
   ·exact absurd hx (hne a1)
   ·exact hh
  ·intro hx
   rcases List.mem_cons.1 ((h x).2 (List.mem_cons_of_mem _ hx)) with rfl | hh
   ·exact absurd hx (hne b1)
   ·exact hh
theorem lcIns_at {x:PLc}:∀ {l:List PLc} {k:Nat},k ≤ l.length → (∀ y ∈ l.take k,lcLt y x=true) → (∀ y ∈ (l.drop k).head?,lcLt y x=false) → lcIns x l=l.take k ++ x :: l.drop k
 | [],k,h,_,_=>by simp [lcIns]
 | a :: r,0,_,_,h2=>by
  have:=h2 a (by simp)
  unfold lcIns
  rw [if_neg (by rw [this];simp)];simp
 | a :: r,k + 1,h,h1,h2=>by
  unfold lcIns
  rw [if_pos (h1 a (by simp))]
  rw [lcIns_at (l:=r) (k:=k) (by simpa using h) (fun y hy=>h1 y (by simp [hy])) (by simpa using h2)]
  simp
theorem lcUp_none {l:List PLc} {fn line:Int} (h:∀ y ∈ l,¬ (y.fn=fn ∧ y.line=line)):lcUp l fn line=l:=by
 unfold lcUp
 refine (List.map_congr_left fun y hy=>?_).trans (List.map_id l)
 unfold lcUp1
 rw [if_neg (fun hh=>h y hy (lcIs_iff.1 hh))];rfl
theorem mom_fn' {nf:Nat} {m:PMom} (h:momOk nf m=true):0 ≤ m.fn ∧ m.fn ≤ (nf:Int) - 1:=by
 simp only [momOk,momHd,Bool.and_eq_true] at h
 exact inB_true.1 h.1.1.1.1.1.2
end Go.Proofs.Lens
namespace Go.Proofs.Lens
open Go.Proofs.YtcklnjjbhngbcaaGreatDoor
open Go.RowKit Go.Sort Go.Proofs.YtcklnjjbhngbcaaGreatDoor
def LcOk (x:PLc):Prop:=0 ≤ x.fn ∧ x.fn ≤ 1000000 ∧ 0 ≤ x.line ∧ x.line ≤ 1000000
abbrev LcS:={x:PLc // LcOk x}
instance:Inhabited LcS:=⟨⟨⟨0,0,0⟩,by unfold LcOk;decide⟩⟩
def lcEnc (x:LcS):List Value:=[.int .i64 x.1.fn,.int .i64 x.1.line,.int .i64 x.1.cnt]
def lcCf (a b:LcS):Int:=if a.1.fn - b.1.fn ≠ 0 then a.1.fn - b.1.fn else a.1.line - b.1.line
theorem lcCf_lt (a b:LcS):ltOf lcCf a b=lcLt a.1 b.1:=by
 unfold ltOf lcCf
 rw [Bool.eq_iff_iff,lcLt_iff,decide_eq_true_eq]
 split <;> omega
theorem lcSwo:SWO (ltOf lcCf) where
 irrefl x:=by rw [lcCf_lt,lcLt_not];omega
 trans x y z h1 h2:=by rw [lcCf_lt] at *;exact lcLt_trans h1 h2
 ntrans x y z h1 h2:=by rw [lcCf_lt,lcLt_not] at *;omega
def lcOut (d:Array LcS):List PLc:=d.toList.map (·.1)
theorem lcOut_len (d:Array LcS):(lcOut d).length=d.size:=by simp [lcOut]
theorem lcOut_elt (d:Array LcS) {i:Nat} (h:i < d.size):elt (lcOut d) i=d[i]!.1:=by
 rw [elt_eq (by rw [lcOut_len];exact h),getElem!_pos d i h]
 simp [lcOut]
def lcArr (l:List PLc) (h:∀ x ∈ l,LcOk x):Array LcS:=(l.attachWith LcOk h).toArray
theorem lcArr_size (l:List PLc) (h:∀ x ∈ l,LcOk x):(lcArr l h).size=l.length:=by simp [lcArr]
theorem lcArr_out (l:List PLc) (h:∀ x ∈ l,LcOk x):lcOut (lcArr l h)=l:=by simp [lcOut,lcArr]
def LcApart (l:List PLc):Prop:=l.Pairwise fun a b=>¬ (a.fn=b.fn ∧ a.line=b.line)
theorem lc_ordered {d d':Array LcS} {r:List PLc} (hp:PermIn 0 d.size d d') (hs:SortedIn (ltOf lcCf) 0 d.size d') (ha:LcApart (lcOut d)) (hr:LcSorted r) (hm:∀ x,x ∈ lcOut d ↔ x ∈ r):lcOut d'=r:=by
 obtain ⟨h1,-,h3⟩:=hp
 have e1:d'.extract 0 d.size=d':=by rw [← h1];simp
 have e2:d.extract 0 d.size=d:=by simp
 rw [e1,e2] at h3
 have hperm:(lcOut d').Perm (lcOut d):=h3.map _
 have hap:LcApart (lcOut d'):=(hperm.pairwise_iff (fun {a b} h hh=>h ⟨hh.1.symm,hh.2.symm⟩)).2 ha
 refine lcSorted_one ?_ hr fun x=>(hperm.mem_iff).trans (hm x)
 unfold LcSorted
 unfold LcApart at hap
 rw [List.pairwise_iff_getElem] at hap ⊢
 intro i j hi hj hij
 have h4:=hap i j hi hj hij
 rw [lcOut_len] at hi hj
 have h5:=hs i j (Nat.zero_le _) hij (by omega)
 rw [lcCf_lt,← lcOut_elt d' (by omega),← lcOut_elt d' (by omega),elt_eq (by rw [lcOut_len];omega),elt_eq (by rw [lcOut_len];omega),lcLt_not] at h5
 rw [lcLt_iff]
 omega
theorem lc_holds {w:World} {lo:Nat} {e:TypeId} {b cap:Nat} {d:Array LcS} (h:OwR w lo e 3 d.size (lcC (lcOut d)) (.slice (some ⟨b,0,none⟩) d.size cap)):HoldsK lcEnc 3 w b 0 d:=by
 intro j hj
 rw [size_flatK] at hj
 obtain ⟨A,c,he,hop⟩:=h.open'
 cases he
 have hpos:0 < d.size:=by omega
 obtain ⟨b',hb,-,-,hcell,hfr⟩:=hop hpos
 cases hb
 refine ⟨?_,by rw [Nat.zero_add];exact hfr j⟩
 have h1:j / 3 < d.size:=by omega
 have h2:j % 3 < 3:=by omega
 have h3:=hcell (j / 3) h1 (j % 3) h2
 rw [Nat.zero_add,get_flatK _ _ _ _ hj]
 have e1:j / 3 * 3 + j % 3=j:=by omega
 rw [e1] at h3
 rw [h3]
 unfold lcC lcEnc
 rw [lcOut_elt d h1]
 rcases (show j % 3=0 ∨ j % 3=1 ∨ j % 3=2 by omega) with hh | hh | hh <;> rw [hh] <;> rfl
theorem lc_sorted_row {w:World} {lo:Nat} {e:TypeId} {b cap n m:Nat} {C:Nat → Nat → Value} {d':Array LcS} {os:Array Obj} (h:OwR w lo e 3 n C (.slice (some ⟨b,0,none⟩) n cap)) (hn:d'.size=n) :
  OwR (sortWorldK lcEnc 3 w b 0 m d' os) lo e 3 n (lcC (lcOut d')) (.slice (some ⟨b,0,none⟩) n cap):=by
 rcases h with ⟨h,_⟩ | ⟨b',cap',f,h1,h2,h3,h4,h5,h6⟩
 ·cases h
 ·cases h1
  obtain ⟨cur,c1,c2,c3⟩:=h5
  have hlt:b < w.heap.size:=(Array.getElem?_eq_some_iff.1 c1).1
  have hg:(sortWorldK lcEnc 3 w b 0 m d' os).heap[b]?=some (onCells (putCells id 0 (flatK lcEnc 3 d')) (w.heap[b]'hlt)):=by
   unfold sortWorldK
   rw [heap_grow_old _ _ (by show b < (Array.modify _ _ _).size;simpa using hlt)]
   show (w.heap.modify b _)[b]?=_
   rw [Array.getElem?_modify,if_pos rfl,Array.getElem?_eq_getElem hlt]
   rfl
  have c1':w.heap[b]'hlt=_:=Option.some.inj ((Array.getElem?_eq_getElem hlt).symm.trans c1)
  rw [c1'] at hg
  refine .inr ⟨b,cap,fun p=>if p < n * 3 then (flatK lcEnc 3 d')[p]! else f p,rfl,h2,h3,h4,⟨_,hg,by simp [putCells,c2],fun p hp=>?_⟩,fun i hi j hj=>?_⟩
  ·have:=c3 p hp
   simp only [putCells,Array.getElem?_mapIdx,this,Option.map_some,size_flatK,hn,Nat.zero_le,true_and,Nat.zero_add,Nat.sub_zero,id]
  ·have hlt2:=mul_lt hi hj
   dsimp only
   rw [if_pos hlt2,get_flatK _ _ _ _ (by omega)]
   have e1:(i * 3 + j) / 3=i:=by omega
   have e2:(i * 3 + j) % 3=j:=by omega
   rw [e1,e2]
   unfold lcC lcEnc
   rw [lcOut_elt d' (by omega)]
   match j,hj with
   | 0,_=>rfl
   | 1,_=>rfl
   | 2,_=>rfl
theorem lc_sorted_below {w:World} {b m lo:Nat} {d':Array LcS} {os:Array Obj} (hl:lo ≤ b) (hb:b < w.heap.size):Below lo w (sortWorldK lcEnc 3 w b 0 m d' os):=by
 refine ⟨rfl,rfl,rfl,?_,fun i hi=>?_⟩
 ·unfold sortWorldK
  rw [size_grow]
  show w.heap.size ≤ (Array.modify _ _ _).size + _
  simp
 ·unfold sortWorldK
  rw [heap_grow_old _ _ (by show i < (Array.modify _ _ _).size;simp;omega)]
  show (w.heap.modify b _)[i]?=_
  rw [Array.getElem?_modify,if_neg (by omega)]
def lcM (ms:List PMom) (n:Nat) (x:Int × Int):Option Int:=if 0 < lcK ms x.1 x.2 n then some (lcK ms x.1 x.2 n) else none
theorem lcM_getD (ms:List PMom) (n:Nat) (x:Int × Int):(lcM ms n x).getD 0=lcK ms x.1 x.2 n:=by
 have:=lcK_bd ms x.1 x.2 n
 unfold lcM
 split
 ·rfl
 ·show (0:Int)=_;omega
theorem lcM_zero (ms:List PMom) (x:Int × Int):lcM ms 0 x=none:=by simp [lcM,lcK]
theorem lcM_skip {ms:List PMom} {n:Nat} (h:(elt ms n).kind ≠ 1):lcM ms (n + 1)=lcM ms n:=by
 funext x
 have e:lcK ms x.1 x.2 (n + 1)=lcK ms x.1 x.2 n:=by rw [lcK,if_neg (fun hh=>h hh.1)]
 unfold lcM
 rw [e]
theorem lcM_step {ms:List PMom} {n:Nat} (h:(elt ms n).kind=1) (x:Int × Int):setM (lcM ms n) ((elt ms n).fn,(elt ms n).line) (lcK ms (elt ms n).fn (elt ms n).line n + 1) x=lcM ms (n + 1) x:=by
 have hb:=lcK_bd ms (elt ms n).fn (elt ms n).line n
 obtain ⟨a,b⟩:=x
 unfold setM lcM
 dsimp only
 by_cases he:(a,b)=((elt ms n).fn,(elt ms n).line)
 ·rw [if_pos he]
  simp only [Prod.mk.injEq] at he
  obtain ⟨rfl,rfl⟩:=he
  have e:lcK ms (elt ms n).fn (elt ms n).line (n + 1)=lcK ms (elt ms n).fn (elt ms n).line n + 1:=by rw [lcK,if_pos ⟨h,rfl,rfl⟩]
  rw [e,if_pos (by omega)]
 ·have e:lcK ms a b (n + 1)=lcK ms a b n:=by rw [lcK,if_neg (fun hh=>he (by rw [hh.2.1,hh.2.2]))]
  rw [if_neg he,e]
theorem lcK_pos {ms:List PMom} {fn line:Int}:∀ {n},0 < lcK ms fn line n → ∃ i,i < n ∧ (elt ms i).kind=1 ∧ (elt ms i).fn=fn ∧ (elt ms i).line=line
 | 0,h=>by simp [lcK] at h
 | n + 1,h=>by
  rw [lcK] at h
  by_cases hc:(elt ms n).kind=1 ∧ (elt ms n).fn=fn ∧ (elt ms n).line=line
  ·exact ⟨n,by omega,hc⟩
  ·rw [if_neg hc] at h
   obtain ⟨i,hi,hh⟩:=lcK_pos h
   exact ⟨i,by omega,hh⟩
theorem mom_line {nf:Nat} {m:PMom} (h:momOk nf m=true):0 ≤ m.line ∧ m.line ≤ 100000:=by
 simp only [momOk,momHd,Bool.and_eq_true] at h
 exact inB_true.1 h.1.1.1.1.2
theorem lcK_ok {t:PTr} (h:Sound t) {n:Nat} (hn:n ≤ t.moms.length) {fn line:Int} (hk:0 < lcK t.moms fn line n):0 ≤ fn ∧ fn ≤ 300 ∧ 0 ≤ line ∧ line ≤ 100000:=by
 obtain ⟨i,hi,-,rfl,rfl⟩:=lcK_pos hk
 have h1:=mom_fn' (h.moms i (by omega))
 have h2:=mom_line (h.moms i (by omega))
 have h3:=sound_fns h
 omega
structure LcSo (ms:List PMom) (N:Nat) (l:List PLc) (left:Int × Int → Bool) (cnt:Nat):Prop where
 mem:∀ x,x ∈ l ↔ (x.cnt=lcK ms x.fn x.line N ∧ 0 < x.cnt ∧ left (x.fn,x.line)=false)
 apart:LcApart l
 len:l.length + cnt ≤ N
theorem lcSo0 (ms:List PMom) (N:Nat) {cnt:Nat} (h:cnt ≤ N):LcSo ms N [] (fun x=>(lcM ms N x).isSome) cnt where
 mem x:=by
  simp only [List.not_mem_nil,false_iff]
  rintro ⟨h1,h2,h3⟩
  unfold lcM at h3
  rw [if_pos (by dsimp only;omega)] at h3
  cases h3
 apart:=List.Pairwise.nil
 len:=by simpa using h
theorem LcSo.push {ms:List PMom} {N:Nat} {l:List PLc} {left:Int × Int → Bool} {cnt cnt':Nat} (h:LcSo ms N l left cnt) {x:Int × Int} {y:Int} (hl:left x=true) (hM:lcM ms N x=some y) (hc:cnt' < cnt) :
  LcSo ms N (l ++ [⟨x.1,x.2,y⟩]) (fun i=>left i && !decide (i=x)) cnt':=by
 have hy:y=lcK ms x.1 x.2 N ∧ 0 < y:=by
  unfold lcM at hM
  split at hM
  ·cases hM;exact ⟨rfl,by assumption⟩
  ·cases hM
 have hnew:∀ z ∈ l,¬ (z.fn=x.1 ∧ z.line=x.2):=fun z hz hh=>by
  have h1:=((h.mem z).1 hz).2.2
  rw [show (z.fn,z.line)=x from Prod.ext hh.1 hh.2,hl] at h1
  cases h1
 refine ⟨fun z=>?_,?_,by have:=h.len;simp;omega⟩
 ·rw [List.mem_append,List.mem_singleton]
  constructor
  ·rintro (hz | rfl)
   ·obtain ⟨h1,h2,h3⟩:=(h.mem z).1 hz
    exact ⟨h1,h2,by rw [h3];rfl⟩
   ·exact ⟨hy.1,hy.2,by simp⟩
  ·rintro ⟨h1,h2,h3⟩
   by_cases he:(z.fn,z.line)=x
   ·right
    subst he
    obtain ⟨a,b,c⟩:=z
    dsimp only at hy h1 ⊢
    rw [h1,hy.1]
   ·left
    rw [decide_eq_false he] at h3
    exact (h.mem z).2 ⟨h1,h2,by simpa using h3⟩
 ·unfold LcApart
  rw [List.pairwise_append]
  refine ⟨h.apart,List.pairwise_singleton ..,fun a ha b hb=>?_⟩
  rw [List.mem_singleton] at hb
  subst hb
  exact hnew a ha
theorem LcSo.done {t:PTr} (hs:Sound t) {l:List PLc} {left:Int × Int → Bool} {cnt:Nat} (h:LcSo t.moms t.moms.length l left cnt) (hl:∀ x:Int × Int,ok64 x.1 ∧ ok64 x.2 → left x=false) :
  (∀ x,x ∈ l ↔ x ∈ lcN t.moms t.moms.length) ∧ ∀ x ∈ l,LcOk x:=by
 refine ⟨fun x=>?_,fun x hx=>?_⟩
 ·rw [h.mem,lcN_mem]
  constructor
  ·rintro ⟨h1,h2,-⟩;exact ⟨h1,h2⟩
  ·rintro ⟨h1,h2⟩
   have:=lcK_ok hs (Nat.le_refl _) (fn:=x.fn) (line:=x.line) (by omega)
   exact ⟨h1,h2,hl _ ⟨by unfold ok64;dsimp only;omega,by unfold ok64;dsimp only;omega⟩⟩
 ·obtain ⟨h1,h2,-⟩:=(h.mem x).1 hx
  have:=lcK_ok hs (Nat.le_refl _) (fn:=x.fn) (line:=x.line) (by omega)
  unfold LcOk
  omega
end Go.Proofs.Lens
namespace Go.Proofs.YtcklnjjbhngbcaaGreatDoor
open Go.Shelf
def lcSort_ren:Go.Shelf.Ren:=⟨fun | 6=>121 | 15=>161 | 14=>160 | 28=>178 | 29=>179 | 20=>170 | 21=>171 | 22=>172 | 23=>173 | 24=>174 | 25=>175 | 26=>176 | 27=>177 | 46=>187 | 47=>188 | 48=>189 | 49=>190 | 50=>191 | 57=>196 | n=>n,fun | 22=>103 | 24=>111 | 25=>196 | 3=>3 | 39=>208 | 0=>0 | 53=>256 | 55=>70 | 4=>4 | 46=>250 | 45=>249 | 50=>154 | 5=>5 | 9=>9 | 66=>266 | 70=>270 | 76=>276 | 77=>277 | n=>n,fun | n=>n⟩
theorem lcSort:Go.Proofs.SlLaysF0.n6 Tryz.prog lcSort_ren:={
 mixed:=by kernel_rfl
 f6:=⟨Tryz.f121.name,by decide,Tryz.func121.trans (congrArg some (by kernel_rfl))⟩
 f14:=⟨Tryz.f160.name,by decide,Tryz.func160.trans (congrArg some (by kernel_rfl))⟩
 f15:=Tryz.func161.trans (congrArg some (by kernel_rfl))
 f20:=⟨Tryz.f170.name,by decide,Tryz.func170.trans (congrArg some (by kernel_rfl))⟩
 f21:=⟨Tryz.f171.name,by decide,Tryz.func171.trans (congrArg some (by kernel_rfl))⟩
 f22:=⟨Tryz.f172.name,by decide,Tryz.func172.trans (congrArg some (by kernel_rfl))⟩
 f23:=⟨Tryz.f173.name,by decide,Tryz.func173.trans (congrArg some (by kernel_rfl))⟩
 f24:=⟨Tryz.f174.name,by decide,Tryz.func174.trans (congrArg some (by kernel_rfl))⟩
 f25:=⟨Tryz.f175.name,by decide,Tryz.func175.trans (congrArg some (by kernel_rfl))⟩
 f26:=⟨Tryz.f176.name,by decide,Tryz.func176.trans (congrArg some (by kernel_rfl))⟩
 f27:=⟨Tryz.f177.name,by decide,Tryz.func177.trans (congrArg some (by kernel_rfl))⟩
 f28:=Tryz.func178.trans (congrArg some (by kernel_rfl))
 f29:=Tryz.func179.trans (congrArg some (by kernel_rfl))
 f46:=⟨Tryz.f187.name,by decide,Tryz.func187.trans (congrArg some (by kernel_rfl))⟩
 f47:=Tryz.func188.trans (congrArg some (by kernel_rfl))
 f48:=Tryz.func189.trans (congrArg some (by kernel_rfl))
 f49:=⟨Tryz.f190.name,by decide,Tryz.func190.trans (congrArg some (by kernel_rfl))⟩
 f50:=⟨Tryz.f191.name,by decide,Tryz.func191.trans (congrArg some (by kernel_rfl))⟩
 f57:=⟨Tryz.f196.name,by decide,Tryz.func196.trans (congrArg some (by kernel_rfl))⟩
 t0:=Tryz.underlying0
 a0:=Tryz.isAgg0
 z0:=Tryz.sizeOf0
 v0:=Tryz.zeroValue0
 t3:=Tryz.underlying3
 a3:=Tryz.isAgg3
 z3:=Tryz.sizeOf3
 v3:=Tryz.zeroValue3
 t4:=Tryz.underlying4
 a4:=Tryz.isAgg4
 z4:=Tryz.sizeOf4
 v4:=Tryz.zeroValue4
 t5:=Tryz.underlying5
 a5:=Tryz.isAgg5
 z5:=Tryz.sizeOf5
 v5:=Tryz.zeroValue5
 t9:=Tryz.underlying9
 a9:=Tryz.isAgg9
 z9:=Tryz.sizeOf9
 v9:=Tryz.zeroValue9
 t22:=Tryz.underlying103
 a22:=Tryz.isAgg103
 z22:=Tryz.sizeOf103
 v22:=Tryz.zeroValue103
 t25:=Tryz.underlying196
 a25:=Tryz.isAgg196
 z25:=Tryz.sizeOf196
 v25:=Tryz.zeroValue196
 t39:=Tryz.underlying208
 a39:=Tryz.isAgg208
 z39:=Tryz.sizeOf208
 v39:=Tryz.zeroValue208
 t45:=Tryz.underlying249
 a45:=Tryz.isAgg249
 z45:=Tryz.sizeOf249
 v45:=Tryz.zeroValue249
 t46:=Tryz.underlying250
 a46:=Tryz.isAgg250
 z46:=Tryz.sizeOf250
 v46:=Tryz.zeroValue250
 t50:=Tryz.underlying154
 a50:=Tryz.isAgg154
 z50:=Tryz.sizeOf154
 v50:=Tryz.zeroValue154
 t53:=Tryz.underlying256
 a53:=Tryz.isAgg256
 z53:=Tryz.sizeOf256
 v53:=Tryz.zeroValue256
 t55:=Tryz.underlying70
 a55:=Tryz.isAgg70
 z55:=Tryz.sizeOf70
 v55:=Tryz.zeroValue70
 t66:=Tryz.underlying266
 a66:=Tryz.isAgg266
 z66:=Tryz.sizeOf266
 v66:=Tryz.zeroValue266
 t70:=Tryz.underlying270
 a70:=Tryz.isAgg270
 z70:=Tryz.sizeOf270
 v70:=Tryz.zeroValue270
 t76:=Tryz.underlying276
 a76:=Tryz.isAgg276
 z76:=Tryz.sizeOf276
 v76:=Tryz.zeroValue276
 t77:=Tryz.underlying277
 a77:=Tryz.isAgg277
 z77:=Tryz.sizeOf277
 v77:=Tryz.zeroValue277 }
end Go.Proofs.YtcklnjjbhngbcaaGreatDoor
namespace Go.Proofs.Lens
open Go.Proofs.YtcklnjjbhngbcaaGreatDoor
open Go.RowKit
def OwRg {α β:Type} (P:Program) (kt et:TypeId) (kV:α → Value) (okK:α → Prop) (eL:β → Lit) (w:World) (b r n:Nat) (M:α → Option β) (left:α → Bool) (cnt:Nat):Prop :=
 ∃ (D:DataW Unit) (lf:Lit → Bool),w.ranges P kt (plainElem P et) b r n D lf cnt ∧ (∀ x,okK x → ∀ l,keyOf P kt (kV x)=some l → ∀ zd,D.atKey l zd=match M x with | none=>zd | some y=>.lit (eL y)) ∧ ∀ x,okK x → ∀ l,keyOf P kt (kV x)=some l → lf l=left x
section
variable {α β : Type} {P : Program} {t kt et : TypeId} {kV : α → Value} {okK : α → Prop} {eV : β → Value} {eL : β → Lit} {okE : β → Prop} {z : β}
theorem OwM.range (T:MTy P t kt et kV okK eV eL okE z) {w:World} {b n:Nat} {M:α → Option β} (h:OwM P kt et kV okK eL w b n M) :
  ∃ w' cnt,(Instr.range t (.map (some b))).run P w=.ok (.pointer (some ⟨w.heap.size,0,none⟩)) w' ∧ OwRg P kt et kV okK eL w' b w.heap.size n M (fun x=>(M x).isSome) cnt ∧ cnt ≤ n ∧ w.grownBy w' none ∧ w'.heap.size=w.heap.size + 1:=by
 obtain ⟨D,h1,h2⟩:=h
 obtain ⟨w',hrun,hr,hg,hs⟩:=h1.range T.keyed T.und
 refine ⟨w',_,hrun,⟨D,_,hr,h2,fun x hx l hl=>?_⟩,h1.size_le,hg,hs⟩
 have hat:=h2 x hx l hl
 cases hM:M x with
 | none=>rw [hM] at hat;rw [Go.Maps.has_false_of_atKey hat];show _=(M x).isSome;rw [hM];rfl
 | some y=>rw [hM] at hat;rw [Go.Maps.has_true_of_atKey hat];show _=(M x).isSome;rw [hM];rfl
theorem OwRg.kept {w w':World} {b r n:Nat} {M:α → Option β} {left:α → Bool} {cnt:Nat} {row:Option Nat} (h:OwRg P kt et kV okK eL w b r n M left cnt) (hg:w.grownBy w' row) (h1:some b ≠ row) (h2:some r ≠ row):OwRg P kt et kV okK eL w' b r n M left cnt:=by
 obtain ⟨D,lf,hr,hd⟩:=h
 exact ⟨D,lf,hr.kept hg h1 h2,hd⟩
theorem OwRg.later {w w':World} {b r n:Nat} {M:α → Option β} {left:α → Bool} {cnt:Nat} (h:OwRg P kt et kV okK eL w b r n M left cnt) (hb:Below w.heap.size w w'):OwRg P kt et kV okK eL w' b r n M left cnt :=
 h.kept (row:=none) ⟨hb.os,hb.tape,hb.output,hb.size,fun i hi _=>hb.block i hi⟩ (by simp) (by simp)
theorem OwRg.left_eq {w:World} {b r n:Nat} {M:α → Option β} {left:α → Bool} {cnt:Nat} (h:OwRg P kt et kV okK eL w b r n M left cnt):w.rangeLeft b r=cnt:=by
 obtain ⟨D,lf,hr,-⟩:=h
 exact hr.left_eq
theorem OwRg.lt {w:World} {b r n:Nat} {M:α → Option β} {left:α → Bool} {cnt:Nat} (h:OwRg P kt et kV okK eL w b r n M left cnt):r < w.heap.size:=by
 obtain ⟨D,lf,hr,-⟩:=h
 exact hr.lt
theorem OwRg.ne {w:World} {b r n g N:Nat} {M:α → Option β} {left:α → Bool} {cnt:Nat} {e:TypeId} {f:Nat → Value} (h:OwRg P kt et kV okK eL w b r n M left cnt) (hB:Blk w g e N f):g ≠ b ∧ g ≠ r:=by
 obtain ⟨D,lf,⟨es,clock,since,seen,c0,h1,h2,h3,h4,h5,h6⟩,-⟩:=h
 obtain ⟨cur,h7,-⟩:=hB
 constructor
 ·rintro rfl
  rw [h1] at h7
  cases h7
 ·rintro rfl
  rw [h5] at h7
  cases h7
theorem OwRg.next [DecidableEq α] (T:MTy P t kt et kV okK eV eL okE z) (hinv:∀ v l,keyOf P kt v=some l → ∃ x,okK x ∧ v=kV x) {w:World} {b r n:Nat} {M:α → Option β} {left:α → Bool} {cnt:Nat} (h:OwRg P kt et kV okK eL w b r n M left cnt) (ty:TypeId) :
  ((∀ x,okK x → left x=false) ∧ (Instr.next (.pointer (some ⟨r,0,none⟩)) false ty).run P w=.ok (.tuple #[.bool false]) w) ∨
  ∃ x y w' cnt',okK x ∧ left x=true ∧ M x=some y ∧ (Instr.next (.pointer (some ⟨r,0,none⟩)) false ty).run P w=.ok (.tuple #[.bool true,kV x,eV y]) w' ∧
   OwRg P kt et kV okK eL w' b r n M (fun i=>left i && !decide (i=x)) cnt' ∧ cnt' < cnt ∧ w.grownBy w' (some r) ∧ w'.heap.size=w.heap.size ∧ (Instr.entry (.pointer (some ⟨r,0,none⟩))).run P w'=.ok (.tuple #[kV x,eV y]) w':=by
 obtain ⟨D,lf,hr,hd,hl⟩:=h
 rcases hr.next T.keyed ty with ⟨h0,hf,hrun⟩ | ⟨key,v,kl,y,w',cnt',hk,hlf,hv,hat,hrun,hr',hlt,hg,hs,hent⟩
 ·exact .inl ⟨fun x hx=>by obtain ⟨l,hkl⟩:=T.key x hx;rw [← hl x hx l hkl];exact hf l,hrun⟩
 ·obtain ⟨x,hx,rfl⟩:=hinv key kl hk
  have h2:=hd x hx kl hk
  cases hM:M x with
  | none =>
   rw [hM] at h2
   have e1:=(hat (.lit (.bool true))).symm.trans (h2 _)
   have e2:=(hat (.lit (.bool false))).symm.trans (h2 _)
   rw [e1] at e2
   cases e2
  | some yy =>
   rw [hM] at h2
   have e1:y.1=.lit (eL yy):=(hat .nil).symm.trans (h2 _)
   obtain rfl:=T.back v yy y.2 (by rw [hv,← e1])
   refine .inr ⟨x,yy,w',cnt',hx,by rw [← hl x hx kl hk];exact hlf,hM,hrun,⟨D,_,hr',hd,fun i hi l hil=>?_⟩,hlt,hg,hs,hent⟩
   show (lf l && !l.sameKey kl)=(left i && !decide (i=x))
   rw [hl i hi l hil]
   by_cases he:i=x
   ·subst he
    rw [hk] at hil
    cases hil
    rw [WideAt.sameKey_self (T.keyed.key hk),decide_eq_true rfl]
   ·rw [Go.Maps.sameKey_ne (fun e:l=kl=>he (T.inj _ _ (T.keyed.inj hil (by rw [e];exact hk)))),decide_eq_false he]
end
end Go.Proofs.Lens
namespace Go.Proofs.YtcklnjjbhngbcaaGreatDoor
open Go.RowKit Go.Proofs.Lens
set_option maxRecDepth 100000 in
theorem lit_inv {d:Nat} {v:Value} {ls:List Lit} (h:Tryz.prog.keyLits (d + 1) 3 [v]=some ls):∃ a:Int,ok64 a ∧ v=.int .i64 a:=by
 unfold Program.keyLits at h
 rw [Tryz.underlying3] at h
 cases v with
 | int q a =>
  dsimp only at h
  split at h
  ·rename_i hc
   obtain ⟨rfl,hw⟩:=hc
   have h1:IntKind.min .i64=-9223372036854775808:=by decide
   have h2:IntKind.max .i64=9223372036854775807:=by decide
   simp only [Lit.wf,Bool.and_eq_true,decide_eq_true_eq] at hw
   exact ⟨a,by unfold ok64;omega,rfl⟩
  ·cases h
 | _=>simp at h
set_option maxRecDepth 100000 in
theorem keyOf2_inv {k:TypeId} {f0 f1:Field} (hu:Tryz.prog.underlying k=some (.struct #[f0,f1])) (hc:Tryz.prog.cellsOf k=2)
  (t0:f0.type=3) (t1:f1.type=3) (o0:f0.offset=0) (o1:f1.offset=1) {v:Value} {l:Lit} (h:keyOf Tryz.prog k v=some l):∃ p,okP p ∧ v=pairV p:=by
 obtain ⟨d,hd⟩:∃ d,Tryz.prog.types.size + 1=d + 2:=⟨Tryz.prog.types.size - 1,by
  have:0 < Tryz.prog.types.size:=of_decide_eq_true (by kernel_rfl)
  omega⟩
 unfold keyOf at h
 rw [hu] at h
 dsimp only at h
 rw [hd] at h
 split at h
 ·rename_i hf
  simp only [Bool.and_eq_true] at hf
  obtain ⟨-,hf⟩:=hf
  cases v with
  | agg cs =>
   simp only [Value.formed,hu,hc,beq_iff_eq] at hf
   obtain ⟨ls⟩:=cs
   match ls,hf with
   | [a,b],_ =>
    obtain ⟨ks,hks,-⟩:=Option.map_eq_some_iff.1 h
    rw [show d + 2=(d + 1) + 1 from rfl] at hks
    unfold Program.keyLits at hks
    rw [hu] at hks
    dsimp only at hks
    split at hks
    ·obtain ⟨kk,hkk,-⟩:=Option.map_eq_some_iff.1 hks
     simp only [List.mapM_cons,List.mapM_nil,t0,t1,o0,o1,c_int] at hkk
     obtain ⟨x0,e0,hkk⟩:=Option.bind_eq_some_iff.1 hkk
     obtain ⟨x1,e1,-⟩:=Option.bind_eq_some_iff.1 hkk
     obtain ⟨x1,e1,-⟩:=Option.bind_eq_some_iff.1 e1
     obtain ⟨p,hp,rfl⟩:=lit_inv (d:=d) (v:=a) e0
     obtain ⟨q,hq,rfl⟩:=lit_inv (d:=d) (v:=b) e1
     exact ⟨(p,q),⟨hp,hq⟩,rfl⟩
    ·cases hks
  | _=>simp [Value.formed,hu] at hf
 ·cases h
set_option maxRecDepth 100000 in
theorem m_spot:MTy Tryz.prog 191 193 3 pairV okP (fun y:Int=>.int .i64 y) (fun y=>.int .i64 y) ok64 0 where
 keyed:=Go.Maps.Keyed.of_law (deep_law_laid S0.laid (m:=2) (by omega) (of_decide_eq_true (by kernel_rfl)) (by kernel_rfl) (by kernel_rfl))
 und:=Tryz.underlying191
 key x hx:=keyOf2 Tryz.underlying193 (by kernel_rfl) (by decide) (by decide) rfl rfl rfl rfl (by kernel_rfl) hx.1 hx.2
 inj x y h:=by
  simp only [pairV,Value.agg.injEq,Array.mk.injEq,List.cons.injEq,Value.int.injEq,true_and,and_true] at h
  exact Prod.ext h.1 h.2
 elem y hy:=m_int.elem y hy
 back v y ps h:=m_int.back v y ps h
 zero w:=m_int.zero w
 zok:=m_int.zok
theorem spot_inv (v:Value) (l:Lit) (h:keyOf Tryz.prog 193 v=some l):∃ x,okP x ∧ v=pairV x:=keyOf2_inv Tryz.underlying193 (by kernel_rfl) rfl rfl rfl rfl h
abbrev OwMz (w:World) (b n:Nat) (M:Int × Int → Option Int):Prop:=OwM Tryz.prog 193 3 pairV okP (fun y=>.int .i64 y) w b n M
abbrev OwRs (w:World) (b r n:Nat) (M:Int × Int → Option Int) (left:Int × Int → Bool) (cnt:Nat):Prop:=OwRg Tryz.prog 193 3 pairV okP (fun y=>.int .i64 y) w b r n M left cnt
end Go.Proofs.YtcklnjjbhngbcaaGreatDoor
namespace Go.Proofs.Lens
open Go.Proofs.YtcklnjjbhngbcaaGreatDoor
open Go Go.RowKit Go.MapKept Go.ChangeMaps
open Go.WideElems (Fit rd rg pl)
section
variable {α β : Type} {P : Program} {t kt et : TypeId} {kV : α → Value} {okK : α → Prop} {eV : β → Value} {eL : β → Lit} {okE : β → Prop} {z : β}
theorem OwM.at_block {w w':World} {b n:Nat} {M:α → Option β} (h:OwM P kt et kV okK eL w b n M) (he:w'.heap[b]?=w.heap[b]?):OwM P kt et kV okK eL w' b n M:=by
 obtain ⟨D,⟨es,c,h1,h2⟩,h3⟩:=h
 exact ⟨D,⟨es,c,he.trans h1,h2⟩,h3⟩
theorem entry_is_update (K:WideMaps.KeyLaw P kt) (ht:P.underlying t=some (.map kt et)) {z0:Value} (hz:∀ u:World,(zeroValue et).run P u=.ok z0 u) {w:World} {b clock:Nat} {es:Array MapEntry} (hb:w.heap[b]?=some (.map es clock))
  (hks:∀ e ∈ es.toList,∃ l,keyOf P kt e.key=some l) {key:Value} {kl:Lit} (hkey:keyOf P kt key=some kl) :
  ∃ v0 st w1,(Instr.mapEntry t (.map (some b)) key).run P w=.ok (.tuple #[v0,goInt st]) w1 ∧ (Instr.mapUpdate t (.map (some b)) key v0).run P w=.ok () w1 ∧ (Instr.lookup t (.map (some b)) key false).run P w=.ok v0 w:=by
 rcases K.find w hkey es.toList hks with ⟨h1,h2⟩ | ⟨j,e0,h1,h2,h3⟩
 ·refine ⟨z0,clock,setBlock w b (.map (es.push ⟨key,z0,clock⟩) (clock + 1)),?_,?_,?_⟩
  ·simp [Instr.mapEntry,run_underlying ht,MapKept.run_getObj_map hb,K.check w false hkey,h1,hz,MapKept.run_setObj_map _ hb,Result.andThen,setBlock]
  ·simp [Instr.mapUpdate,run_underlying ht,MapKept.run_getObj_map hb,K.check w false hkey,h1,MapKept.run_setObj_map _ hb,Result.andThen,setBlock]
  ·simp [Instr.lookup,run_underlying ht,MapKept.run_getObj_map hb,K.check w _ hkey,h1,hz,Result.andThen]
 ·have hj:es[j]?=some e0:=by simpa using h2
  refine ⟨e0.val,e0.born,setBlock w b (.map (es.modify j (fun e'=>{ e' with key:=key,val:=e0.val })) clock),?_,?_,?_⟩
  ·have hm:es.modify j (fun e=>{ e with key:=key })=es.modify j (fun e'=>{ e' with key:=key,val:=e0.val }):=by
    apply Array.ext'
    rw [Array.toList_modify,Array.toList_modify,modify_eq_set _ _ _ _ h2,modify_eq_set _ _ _ _ h2]
   simp [Instr.mapEntry,run_underlying ht,MapKept.run_getObj_map hb,K.check w false hkey,h1,hj,h3,K.stays w hkey,hm,MapKept.run_setObj_map _ hb,Result.andThen,setBlock]
  ·simp [Instr.mapUpdate,run_underlying ht,MapKept.run_getObj_map hb,K.check w false hkey,h1,hj,h3,K.stays w hkey,MapKept.run_setObj_map _ hb,Result.andThen,setBlock]
  ·simp [Instr.lookup,run_underlying ht,MapKept.run_getObj_map hb,K.check w _ hkey,h1,Result.andThen]
theorem OwM.entry (T:MTy P t kt et kV okK eV eL okE z) (K:WideMaps.KeyLaw P kt) {w:World} {b n:Nat} {M:α → Option β} (h:OwM P kt et kV okK eL w b n M) {x:α} (hx:okK x) (hok:okE ((M x).getD z)) (hn:n + 1 < maxLen) :
  ∃ v0 st w1,(Instr.mapEntry t (.map (some b)) (kV x)).run P w=.ok (.tuple #[v0,goInt st]) w1 ∧ w.grownBy w1 (some b) ∧ (Instr.lookup t (.map (some b)) (kV x) false).run P w1=.ok (eV ((M x).getD z)) w1 ∧ b < w1.heap.size ∧
   ∀ w2 y,okE y → w2.heap[b]?=w1.heap[b]? → ∃ w3,(Instr.entryStore t (.map (some b)) (goInt st) (eV y)).run P w2=.ok () w3 ∧ OwM P kt et kV okK eL w3 b (n + 1) (setM M x y) ∧ w2.grownBy w3 (some b):=by
 have H:=h
 obtain ⟨l,hl⟩:=T.key x hx
 have hlk:=OwM.look T h hx
 obtain ⟨D,⟨es,clock,hb,F,hs,rfl⟩,h2⟩:=h
 obtain ⟨v0,st,es1,clock1,hrun,-,hst⟩:=WideElems.entry_then_store K T.und T.zero hb F hl
 obtain ⟨v0',st',w1,hrun',hup,hlk'⟩:=entry_is_update K T.und T.zero hb F.keys hl
 rw [hrun] at hrun'
 simp only [Result.ok.injEq,Value.tuple.injEq,Array.mk.injEq,List.cons.injEq,and_true] at hrun'
 obtain ⟨⟨rfl,-⟩,hw⟩:=hrun'
 rw [hlk] at hlk'
 have hv:eV ((M x).getD z)=v0:=by
  simp only [Result.ok.injEq,and_true] at hlk'
  exact hlk'
 subst hv
 obtain ⟨w1',hup',hO1,hg1⟩:=OwM.update T H hx hok (Nat.lt_of_succ_lt hn)
 rw [hup'] at hup
 simp only [Result.ok.injEq,true_and] at hup
 subst hup
 have hl1:=OwM.look T hO1 hx
 have hm:(setM M x ((M x).getD z) x).getD z=(M x).getD z:=by simp [setM]
 rw [hm] at hl1
 have hblk:w1'.heap[b]?=some (.map es1 clock1):=by rw [← hw];exact heap_setBlock_same hb _
 refine ⟨_,st,w1',by rw [hrun,hw],hg1,hl1,hO1.lt,fun w2 y hy hw2=>?_⟩
 obtain ⟨es',clock',hs1,hs2⟩:=hst w2 (eV y) (hw2.trans hblk)
 obtain ⟨w3',hup3,hO3,-⟩:=OwM.update T H hx hy (Nat.lt_of_succ_lt hn)
 rw [hup3] at hs2
 simp only [Result.ok.injEq,true_and] at hs2
 have hw2b:=hw2.trans hblk
 refine ⟨_,hs1,hO3.at_block ?_,⟨rfl,rfl,rfl,by simp [setBlock],fun i _ hi=>heap_setBlock_other hw2b _ (fun e=>hi (by rw [e]))⟩⟩
 rw [hs2,heap_setBlock_same hw2b,heap_setBlock_same hb]
end
end Go.Proofs.Lens
namespace Go.Proofs.YtcklnjjbhngbcaaGreatDoor
open Go.RowKit Go.Proofs.Lens
theorem k_spot:WideMaps.KeyLaw Tryz.prog 193:=deep_law_laid S0.laid (m:=2) (by omega) (of_decide_eq_true (by kernel_rfl)) (by kernel_rfl) (by kernel_rfl)
end Go.Proofs.YtcklnjjbhngbcaaGreatDoor
namespace Go.Proofs.YtcklnjjbhngbcaaGreatDoor
open Go.Shelf Go.RowKit Go.Proofs.Lens Go.Sort
set_option maxRecDepth 100000 in
set_option maxHeartbeats 1000000 in
theorem cmpOr_calls (b:Nat) (x y:Int) (w:World) (h0:w.cell? ⟨b,0,none⟩=some (.int .i64 x)) (h1:w.cell? ⟨b,1,none⟩=some (.int .i64 y)) :
  Calls Tryz.prog 123 #[.slice (some ⟨b,0,none⟩) 2 2] w fun e w'=>e=.returned (.int .i64 (if x ≠ 0 then x else y)) ∧ w'=w:=by
 obtain ⟨r,hr⟩:∃ r,(if x ≠ 0 then x else y)=r:=⟨_,rfl⟩
 rw [hr]
 have HR:=qhq hr
 clear hr
 go_enter Tryz.func123,Tryz.ntmps123
 go_wp2
 go_loopw [8] (fun i wr=>∃ q:Nat,q ≤ 2 ∧ i=.int .i64 q ∧ wr=w ∧ (1 ≤ q → x=0) ∧ (2 ≤ q → y=0)) (fun i _=>2 - (intOf i).toNat)
 case atStart=>exact ⟨0,by omega,rfl,rfl,fun h=>absurd h (by omega),fun h=>absurd h (by omega)⟩
 case round =>
  obtain ⟨q,hq,rfl,rfl,hx,hy⟩:=hrel
  match q,hq with
  | 0,_ =>
   by_cases hz:x=0
   ·have hb:(x != 0)=false:=by simp [hz]
    go_wp2
    go_roundw
    case rel=>exact ⟨1,by omega,by first | trivial | rfl,by first | trivial | rfl,fun _=>hz,fun h=>absurd h (by omega)⟩
    case measure=>simp [intOf]
   ·have hb:(x != 0)=true:=by simp [hz]
    have HE:Hid (r=x):=qhq (by rw [← HR.out,if_pos hz])
    go_wp2
    go_ret
    rw [HE.out]
    exact ⟨rfl,rfl⟩
  | 1,_ =>
   have HX:=qhq (hx (by omega))
   by_cases hz:y=0
   ·have hb:(y != 0)=false:=by simp [hz]
    go_wp2
    go_roundw
    case rel=>exact ⟨2,by omega,by first | trivial | rfl,by first | trivial | rfl,fun _=>HX.out,fun _=>hz⟩
    case measure=>simp [intOf]
   ·have hb:(y != 0)=true:=by simp [hz]
    have HE:Hid (r=y):=qhq (by rw [← HR.out,HX.out];rfl)
    go_wp2
    go_ret
    rw [HE.out]
    exact ⟨rfl,rfl⟩
  | 2,_ =>
   have HE:Hid (r=0):=qhq (by rw [← HR.out,hx (by omega),hy (by omega)];rfl)
   clear hx hy
   go_wp2
   go_ret
   rw [HE.out]
   exact ⟨rfl,rfl⟩
set_option maxRecDepth 100000 in
set_option maxHeartbeats 1000000 in
theorem lcCmp_calls (x y:LcS) (W:World):Calls Tryz.prog 122 #[.agg (lcEnc x).toArray,.agg (lcEnc y).toArray] W fun e w'=>e=.returned (.int .i64 (lcCf x y)) ∧ ∃ q os',w'=grow (W.drewN q) os':=by
 obtain ⟨⟨a0,a1,a2⟩,ha⟩:=x
 obtain ⟨⟨b0,b1,b2⟩,hb⟩:=y
 unfold LcOk at ha hb
 dsimp only at ha hb
 show Calls _ _ #[.agg #[.int .i64 a0,.int .i64 a1,.int .i64 a2],.agg #[.int .i64 b0,.int .i64 b1,.int .i64 b2]] _ _
 obtain ⟨r,hr⟩:∃ r,(if a0 - b0 ≠ 0 then a0 - b0 else a1 - b1)=r:=⟨_,rfl⟩
 show Calls _ _ _ _ (fun e w'=>e=.returned (.int .i64 (if a0 - b0 ≠ 0 then a0 - b0 else a1 - b1)) ∧ ∃ q os',w'=grow (W.drewN q) os')
 rw [hr]
 have HO:=qhq (fun (w:World) (b:Nat) (h0:w.cell? ⟨b,0,none⟩=some (.int .i64 (a0 - b0))) (h1:w.cell? ⟨b,1,none⟩=some (.int .i64 (a1 - b1)))=>by
  have:=cmpOr_calls b (a0 - b0) (a1 - b1) w h0 h1
  rw [hr] at this
  exact this)
 clear hr
 go_enter Tryz.func122,Tryz.ntmps122
 go_wp2_with fail
 refine Calls.mono (HO.out _ _ ?h0 ?h1) ?_
 case h0=>go_simp
 case h1=>go_simp
 rintro e w' ⟨rfl,rfl⟩
 go_wp2
 go_ret
 exact ⟨rfl,0,_,by rw [alloc_eq_grow,alloc_eq_grow,alloc_eq_grow,grow_grow,grow_grow];rfl⟩
theorem lcSort_calls (lo:Nat) (v:Value) (l r:List PLc) (W:World) (hO:OwR W lo 111 3 l.length (lcC l) v) (ha:LcApart l) (hok:∀ x ∈ l,LcOk x) (hr:LcSorted r) (hm:∀ x,x ∈ l ↔ x ∈ r) (hlen:l.length ≤ 1048576) :
  Calls Tryz.prog 121 #[v,.func (.func 122) #[] #[]] W fun e w'=>e=.returned (.tuple #[]) ∧ OwR w' lo 111 3 r.length (lcC r) v ∧ Below lo W w':=by
 have hnil:l=[] → r=[]:=fun h=>by
  subst h
  cases r with
  | nil=>rfl
  | cons a r=>exact absurd ((hm a).2 (List.mem_cons_self ..)) (by simp)
 rcases hO with ⟨rfl,h0⟩ | ⟨b,cap,f,rfl,h1⟩
 ·have hl:=List.eq_nil_of_length_eq_zero h0
  have hr0:=hnil hl
  subst hl
  subst hr0
  exact (AnyF.slices_SortFunc_none (P:=Tryz.prog) (ρ:=lcSort_ren) { lcSort with } none 0 _ W).mono fun e w' ⟨he,hw⟩=>by
   subst hw
   exact ⟨he,OwR.nil,qrq _ _⟩
 ·have hO:OwR W lo 111 3 l.length (lcC l) (.slice (some ⟨b,0,none⟩) l.length cap):=.inr ⟨b,cap,f,rfl,h1⟩
  obtain ⟨hlo,hcap,hmax,hB,-⟩:=h1
  have hd:=lcArr_size l hok
  have ho:=lcArr_out l hok
  generalize lcArr l hok=d at hd ho
  subst ho
  rw [lcOut_len] at hO hlen ⊢
  clear hd
  have eg:∀ args w,(callFunc 122 args).run Tryz.prog w=.ok (.enter 122 args) w:=enters_of Tryz.func122 (by kernel_rfl) rfl
  have hS:=AnyQ.slices_SortFunc lcSort 3 Tryz.isAgg111 Tryz.sizeOf111 lcEnc (fun _=>rfl) (fun x v hv=>by
   simp only [lcEnc,List.mem_cons,List.not_mem_nil,or_false] at hv
   rcases hv with rfl | rfl | rfl <;> rfl) lcCf lcSwo 122 #[] b 0 cap d W eg (fun m os dk _ x y=>lcCmp_calls x y _) (lc_holds hO) hB.lt (by omega)
  refine Calls.mono hS fun e w' hh=>?_
  obtain ⟨he,d',n,os,hp,hs,rfl⟩:=hh
  have hsz:d'.size=d.size:=hp.1
  have hout:=lc_ordered hp hs ha hr hm
  have hrow:=lc_sorted_row (m:=n) (os:=os) hO hsz
  rw [hout] at hrow
  have hrl:r.length=d.size:=by rw [← hout,lcOut_len,hsz]
  rw [hrl]
  exact ⟨he,hrow,lc_sorted_below hlo hB.lt⟩
end Go.Proofs.YtcklnjjbhngbcaaGreatDoor
namespace Go.Proofs.YtcklnjjbhngbcaaGreatDoor
open Go.RowKit Go.Proofs.Lens
theorem bl_grown0 {w w':World} (h:w.grownBy w' none):Below w.heap.size w w':=⟨h.os,h.tape,h.output,h.size,fun k hk=>h.block k hk (by simp)⟩
theorem wrap_succ {c:Int} (h0:0 ≤ c) (h1:c ≤ 1048576):IntKind.i64.wrap (c + 1)=c + 1:=by
 simp [IntKind.wrap,IntKind.bits,IntKind.signed]
 omega
theorem bl_trans9' {lo lo2:Nat} {a b c:World} (h:Below lo a b) (k:Below lo2 b c) (hl:lo ≤ lo2):Below lo a c:=⟨k.os.trans h.os,k.tape.trans h.tape,k.output.trans h.output,Nat.le_trans h.size k.size,fun j hj=>(k.block j (Nat.lt_of_lt_of_le hj hl)).trans (h.block j hj)⟩
theorem lcC_old (l:List PLc) (x:PLc) {i:Nat} (h:i < l.length) (j:Nat):lcC (l ++ [x]) i j=lcC l i j:=by
 unfold lcC
 rw [elt_eq (xs:=l ++ [x]) (by simp;omega),elt_eq h,List.getElem_append_left h]
theorem lcC_last (l:List PLc) (x:PLc) (j:Nat):lcC (l ++ [x]) l.length j=lcC [x] 0 j:=by
 unfold lcC
 rw [elt_eq (xs:=l ++ [x]) (by simp),elt_eq (xs:=[x]) (by simp)]
 simp
theorem i_lc1:(Tryz.prog.info? 111).map (fun i=>(i.zero,i.size,i.bytes))=some (some (.agg #[.int .i64 0,.int .i64 0,.int .i64 0]),3,24):=by kernel_rfl
set_option maxRecDepth 100000 in
set_option maxHeartbeats 2000000 in
theorem impl_LineCounts_bad (v1 v2:Value) (t:PTr) (w:World) (h:RdTr w v1 v2 t) (hsm:smTr t) (hs:soundP t=false) :
  Calls Tryz.prog 44 #[.agg #[v1,v2]] w (OwRet w 111 3 (lcP t).length (lcC (lcP t))):=by
 have HT:=qhq h
 have HS:=qhq hsm
 obtain ⟨⟨A1,c1,rfl,hn1,-⟩,⟨vv,⟨A2,c2,rfl,hn2,-⟩,-⟩⟩:=h
 have HR:Hid (lcP t=[]):=qhq (by unfold lcP;rw [hs];rfl)
 have HQ:=qhq hs
 clear hs hsm
 go_enter Tryz.func44,Tryz.ntmps44
 go_wp2_with fail
 refine (sound_is _ _ t _ (HT.out.later (by repeat (with_reducible first | exact qrq _ _ | exact HL.out | refine qnq ?_ _ | refine bl_drew ?_ | refine qaq ?_ _ | refine bl_set ?_ (by dsimp only;omega) _))) HS.out HQ.out).mono ?_;rintro e w1 ⟨rfl,hb⟩
 have HB:=qhq (qtq (qaq (qrq _ w) _) hb)
 clear hb
 go_wp2
 go_ret
 rw [HR.out]
 exact ⟨_,rfl,OwR.nil,HB.out⟩
set_option maxRecDepth 100000 in
set_option maxHeartbeats 8000000 in
theorem impl_LineCounts_good (v1 v2:Value) (t:PTr) (w:World) (h:RdTr w v1 v2 t) (hsm:smTr t) (hs:soundP t=true) :
  Calls Tryz.prog 44 #[.agg #[v1,v2]] w (OwRet w 111 3 (lcP t).length (lcC (lcP t))):=by
 have HT:=qhq h
 have HS:=qhq hsm
 obtain ⟨⟨A1,c1,rfl,hn1,-⟩,⟨vv,⟨A2,c2,rfl,hn2,-⟩,-⟩⟩:=h
 have HR:Hid (lcP t=lcN t.moms t.moms.length):=qhq (by unfold lcP;rw [hs];rfl)
 have HQ:=qhq hs
 have hso:=sound_iff hs
 obtain ⟨nf0,nf1,nm1⟩:=sound_fns hso
 have SO:=qhq hso
 have hmm:=@run_makeMap Tryz.prog
 clear hs hsm hso
 go_enter Tryz.func44,Tryz.ntmps44
 go_wp2_with fail
 refine (sound_is _ _ t _ (HT.out.later (by repeat (with_reducible first | exact qrq _ _ | exact HL.out | refine qnq ?_ _ | refine bl_drew ?_ | refine qaq ?_ _ | refine bl_set ?_ (by dsimp only;omega) _))) HS.out HQ.out).mono ?_;rintro e w1 ⟨rfl,hb⟩
 have HX:=qhq ((Blk.made w #[.slice A1 t.fns.length c1,.slice A2 t.moms.length c2] 26).later hb)
 have HB:=qhq (qtq (qaq (qrq _ w) _) hb)
 have hw1:w.heap.size < w1.heap.size:=HX.out.lt
 clear hb
 go_upto_region 4 with fail
 have HM0:Hid (OwMz (w1.alloc (.map #[] 0)) w1.heap.size 0 (fun _=>none)):=qhq (OwM.made w1)
 have hbl:Below w1.heap.size w1 (w1.alloc (.map #[] 0)):=qaq (qrq _ _) _
 generalize hW:World.alloc w1 _=W at HM0 hbl ⊢
 clear hW
 replace HB:=qhq (qtq HB.out hbl);replace HX:=qhq (HX.out.later hbl);clear hbl
 generalize w1.heap.size=gk at *
 have x1:W.cell? ⟨w.heap.size,1,none⟩=some (.slice A2 t.moms.length c2):=HX.out.cell (j:=1) (by simp)
 go_wp2_with fail
 clear x1 hmm
 go_loopw [16] (fun i wr=>∃ (n kn:Nat),n ≤ t.moms.length ∧ i=.int .i64 n ∧ OwMz wr gk kn (lcM t.moms n) ∧ kn ≤ n ∧ Below w.heap.size w wr) (fun i _=>t.moms.length - (intOf i).toNat)
 case atStart=>exact ⟨0,0,Nat.zero_le _,rfl,HM0.out.congr fun x _=>(lcM_zero _ x).symm,Nat.le_refl _,HB.out⟩
 case round =>
  clear HM0 HB HX
  obtain ⟨n,kn,hn,rfl,hM,hkn,hB⟩:=hrel
  have hgw:gk < wr.heap.size:=hM.lt
  have HM:=qhq hM
  have HB:=qhq hB
  clear hM hB
  by_cases hlt:n < t.moms.length
  ·obtain ⟨b,o,vk,hA,d0,d1,d2,d3,d4,d5,hvk⟩:=rd_moment (HT.out.2.later HB.out) hlt
   obtain ⟨Av,cv,rfl,-⟩:=hvk
   subst hA
   go_upto_region 7 with fail
   generalize hW2:World.alloc wr _=W2
   have hbl:Below wr.heap.size wr W2:=by rw [← hW2];exact qaq (qrq _ _) _
   have y0:W2.cell? ⟨wr.heap.size,0,none⟩=some (.int .i64 (elt t.moms n).kind):=by rw [← hW2];clear hW2;go_simp
   have y1:W2.cell? ⟨wr.heap.size,1,none⟩=some (.int .i64 (elt t.moms n).task):=by rw [← hW2];clear hW2;go_simp
   have y2:W2.cell? ⟨wr.heap.size,2,none⟩=some (.int .i64 (elt t.moms n).fn):=by rw [← hW2];clear hW2;go_simp
   have y3:W2.cell? ⟨wr.heap.size,3,none⟩=some (.int .i64 (elt t.moms n).line):=by rw [← hW2];clear hW2;go_simp
   have y4:W2.cell? ⟨wr.heap.size,4,none⟩=some (.string (elt t.moms n).text):=by rw [← hW2];clear hW2;go_simp
   have y5:W2.cell? ⟨wr.heap.size,5,none⟩=some (.slice Av (elt t.moms n).vars.length cv):=by rw [← hW2];clear hW2;go_simp
   clear hW2
   have hsz:w.heap.size ≤ wr.heap.size:=HB.out.size
   replace HM:=qhq (HM.out.later hbl)
   replace HB:=qhq (qtq HB.out hbl);clear hbl
   clear d0 d1 d2 d3 d4 d5
   have hfn:=mom_fn' (SO.out.moms n hlt)
   have hln:=mom_line (SO.out.moms n hlt)
   by_cases k1:(elt t.moms n).kind=1
   ·have hd1:((elt t.moms n).kind == 1)=true:=by simp [k1]
    have HK1:=qhq k1
    clear k1
    go_upto_region 8 with fail
    obtain ⟨fn,hfnn⟩:∃ f,(elt t.moms n).fn=f:=⟨_,rfl⟩
    obtain ⟨ln,hlnn⟩:∃ f,(elt t.moms n).line=f:=⟨_,rfl⟩
    have HFN:=qhq hfnn
    have HLN:=qhq hlnn
    have hbk:=lcK_bd t.moms fn ln n
    obtain ⟨c,hc⟩:∃ c,lcK t.moms fn ln n=c:=⟨_,rfl⟩
    rw [hc] at hbk
    have hgd:=lcM_getD t.moms n (fn,ln)
    rw [show lcK t.moms (fn,ln).1 (fn,ln).2 n=c from hc] at hgd
    have HC:=qhq hc
    rw [hfnn] at hfn y2
    rw [hlnn] at hln y3
    have okx:okP (fn,ln):=⟨by unfold ok64;dsimp only;omega,by unfold ok64;dsimp only;omega⟩
    have HD:Hid (OwMz W2.drew gk kn (lcM t.moms n)):=qhq (HM.out.later (bl_drew (qrq _ _)))
    have hlk:=HD.out.look m_spot okx
    rw [hgd] at hlk
    replace hlk:(Instr.lookup 191 (.map (some gk)) (.agg #[.int .i64 fn,.int .i64 ln]) false).run Tryz.prog W2.drew=.ok (.int .i64 c) W2.drew:=hlk
    obtain ⟨v0,st,wE,he1,he2,he3,he4,he5⟩:=HD.out.entry m_spot k_spot okx (by rw [hgd];unfold ok64;omega) (by simp only [maxLen];omega)
    rw [hgd] at he3
    replace he3:(Instr.lookup 191 (.map (some gk)) (.agg #[.int .i64 fn,.int .i64 ln]) false).run Tryz.prog wE=.ok (.int .i64 c) wE:=he3
    replace he1:(Instr.mapEntry 191 (.map (some gk)) (.agg #[.int .i64 fn,.int .i64 ln])).run Tryz.prog W2.drew=.ok (.tuple #[v0,goInt st]) wE:=he1
    obtain ⟨wF,hf1,hf2,hf3⟩:=he5 wE (c + 1) (by unfold ok64;omega) rfl
    have hwc:=wrap_succ hbk.1 (show c ≤ 1048576 by omega)
    replace hf1:(Instr.entryStore 191 (.map (some gk)) (.int .i64 st) (.int .i64 (IntKind.i64.wrap (c + 1)))).run Tryz.prog wE=.ok () wF:=by rw [hwc];exact hf1
    clear hwc
    have hwr:wr.heap.size < W2.heap.size:=World.block_lt_of_cell? _ _ y2
    have hne:wr.heap.size ≠ gk:=by omega
    have zE2:wE.cell? ⟨wr.heap.size,2,none⟩=some (.int .i64 fn):=by rw [World.cell?_of_block (w:=W2) (w':=wE) (he2.block _ hwr (fun e=>hne (Option.some.inj e)))];exact y2
    have zE3:wE.cell? ⟨wr.heap.size,3,none⟩=some (.int .i64 ln):=by rw [World.cell?_of_block (w:=W2) (w':=wE) (he2.block _ hwr (fun e=>hne (Option.some.inj e)))];exact y3
    have HS0:Hid (W2.drew.cell? ⟨wr.heap.size,2,none⟩=some (.int .i64 fn) ∧ W2.drew.cell? ⟨wr.heap.size,3,none⟩=some (.int .i64 ln) ∧ (Instr.lookup 191 (.map (some gk)) (.agg #[.int .i64 fn,.int .i64 ln]) false).run Tryz.prog W2.drew=.ok (.int .i64 c) W2.drew):=qhq ⟨y2,y3,hlk⟩
    have HS1:Hid (wE.cell? ⟨wr.heap.size,2,none⟩=some (.int .i64 fn) ∧ wE.cell? ⟨wr.heap.size,3,none⟩=some (.int .i64 ln) ∧ (Instr.lookup 191 (.map (some gk)) (.agg #[.int .i64 fn,.int .i64 ln]) false).run Tryz.prog wE=.ok (.int .i64 c) wE):=qhq ⟨zE2,zE3,he3⟩
    have HB9:Hid (Below w.heap.size w wF):=qhq (bl_grown (bl_grown (bl_drew HB.out) he2 (by omega)) hf3 (by omega))
    have HM9:Hid (OwMz wF gk (kn + 1) (lcM t.moms (n + 1))):=qhq (hf2.congr fun x _=>by
     have:=lcM_step HK1.out x
     rw [HFN.out,HLN.out,HC.out] at this
     exact this)
    have HE1:=qhq he1
    have HF1:=qhq hf1
    clear y0 y1 y2 y3 y4 y5 hlk he1 he2 he3 he4 he5 hf1 hf2 hf3 zE2 zE3 hc hgd hfnn hlnn hd1 HM HB HD hne okx
    refine wp_region_F 10 (fun w':World=>w'.cell? ⟨wr.heap.size,2,none⟩=some (.int .i64 fn) ∧ w'.cell? ⟨wr.heap.size,3,none⟩=some (.int .i64 ln) ∧ (Instr.lookup 191 (.map (some gk)) (.agg #[.int .i64 fn,.int .i64 ln]) false).run Tryz.prog w'=.ok (.int .i64 c) w') (by kernel_rfl) ?_
    refine wpAnyF_take 0 (v:=?v0) (by rfl) (by kernel_rfl) (by intro _ _ _ h;exact h) HS0.out (by rfl) ?hy0 ?rest0
    case hy0 =>
     intro w' hSw
     obtain ⟨s0,s1,s2⟩:=hSw
     go_simp
     try with_reducible rfl
    simp only [Act.put,q1q]
    refine wpAnyF_take 1 (v:=?v1) (by rfl) (by kernel_rfl) (by intro _ _ _ h;exact h) HS0.out (by rfl) ?hy1 ?rest1
    case hy1 =>
     intro w' hSw
     obtain ⟨s0,s1,s2⟩:=hSw
     go_simp
     try with_reducible rfl
    simp only [Act.put]
    refine wpAnyF_take 2 (v:=?v2) (by rfl) (by kernel_rfl) (by intro _ _ _ h;exact h) HS0.out (by rfl) ?hy2 ?rest2
    case hy2 =>
     intro w' hSw
     obtain ⟨s0,s1,s2⟩:=hSw
     go_simp
     try with_reducible rfl
    simp only [Act.put]
    refine wpAnyF_take 3 (v:=?v3) (by rfl) (by kernel_rfl) (by intro _ _ _ h;exact h) HS0.out (by rfl) ?hy3 ?rest3
    case hy3 =>
     intro w' hSw
     obtain ⟨s0,s1,s2⟩:=hSw
     go_simp
     try with_reducible rfl
    simp only [Act.put]
    refine wpAnyF_take 4 (v:=?v4) (by rfl) (by kernel_rfl) (by intro _ _ _ h;exact h) HS0.out (by rfl) ?hy4 ?rest4
    case hy4 =>
     intro w' hSw
     obtain ⟨s0,s1,s2⟩:=hSw
     go_simp
     try with_reducible rfl
    simp only [Act.put]
    refine wpAnyF_take 5 (v:=?v5) (by rfl) (by kernel_rfl) (by intro _ _ _ h;exact h) HS0.out (by rfl) ?hy5 ?rest5
    case hy5 =>
     intro w' hSw
     obtain ⟨s0,s1,s2⟩:=hSw
     go_simp
     try with_reducible rfl
    simp only [Act.put]
    refine wpAnyF_take 6 (v:=?v6) (by rfl) (by kernel_rfl) (by intro _ _ _ h;exact h) HS0.out (by rfl) ?hy6 ?rest6
    case hy6 =>
     intro w' hSw
     obtain ⟨s0,s1,s2⟩:=hSw
     go_simp
     try with_reducible rfl
    simp only [Act.put]
    refine wpAnyF_take 7 (v:=?v7) (by rfl) (by kernel_rfl) (by intro _ _ _ h;exact h) HS0.out (by rfl) ?hy7 ?rest7
    case hy7 =>
     intro w' hSw
     obtain ⟨s0,s1,s2⟩:=hSw
     go_simp
     try with_reducible rfl
    simp only [Act.put]
    refine wpAnyF_one 8 (by rfl) (by kernel_rfl) rfl ?_
    intro K hK
    have he1:=HE1.out
    go_simp
    refine hK.out _ _ (fun _=>HS1.out) ?_
    clear hK K he1
    refine wpAnyF_take 9 (v:=?v9) (by rfl) (by kernel_rfl) (by intro _ _ _ h;exact h) HS1.out (by rfl) ?hy9 ?rest9
    case hy9 =>
     intro w' hSw
     obtain ⟨s0,s1,s2⟩:=hSw
     go_simp
     try with_reducible rfl
    simp only [Act.put,q1q]
    refine wpAnyF_one 10 (by rfl) (by kernel_rfl) rfl ?_
    intro K hK
    have hf1:=HF1.out
    go_simp
    refine hK.out _ _ (fun h=>absurd rfl h) ?_
    clear hK K hf1
    refine wpAnyF_done (by kernel_rfl) ?_ _
    go_wp2
    go_roundw
    case rel=>exact ⟨n + 1,kn + 1,by omega,by go_num,HM9.out,by omega,HB9.out⟩
    case measure=>simp [intOf];omega
   ·have hd1:((elt t.moms n).kind == 1)=false:=by simp [k1]
    have HK1:=qhq k1
    clear k1
    go_wp2
    go_roundw
    case rel=>exact ⟨n + 1,kn,by omega,by go_num,by rw [lcM_skip HK1.out];exact HM.out,by omega,HB.out⟩
    case measure=>simp [intOf];omega
  ·obtain rfl:n=t.moms.length:=by omega
   obtain ⟨wG,cnt,hrg,hRg,hcnt,hgG,-⟩:=OwM.range m_spot HM.out
   have HRG:=qhq hRg
   have HBG:=qhq (qtq HB.out (bl_grown0 hgG))
   have HSO:Hid (LcSo t.moms t.moms.length [] (fun x=>(lcM t.moms t.moms.length x).isSome) cnt):=qhq (lcSo0 _ _ (by omega))
   replace hrg:(Instr.range 191 (.map (some gk))).run Tryz.prog wr=.ok (.pointer (some ⟨wr.heap.size,0,none⟩)) wG:=hrg
   have hgr:gk < wr.heap.size:=hgw
   clear hRg hcnt hgG HM HB hkn hlt hn hgw
   generalize wr.heap.size=gr at *
   go_wp2_with fail
   clear hrg
   go_loopw [6] (fun ov wx=>∃ (l:List PLc) (left:Int × Int → Bool) (cnt:Nat),OwR wx gk 111 3 l.length (lcC l) ov ∧ OwRs wx gk gr kn (lcM t.moms t.moms.length) left cnt ∧ LcSo t.moms t.moms.length l left cnt ∧ Below w.heap.size w wx) (fun _ wx=>wx.rangeLeft gk gr)
   case atStart=>exact ⟨[],_,cnt,OwR.nil,HRG.out,HSO.out,HBG.out⟩
   case round =>
    clear HRG HSO HBG
    obtain ⟨l,left,cnt,hO,hR,hL,hB⟩:=hrel
    have HO:=qhq hO
    have HL:=qhq hL
    have HB:=qhq hB
    have hsz:=hB.size
    have hgr2:gr < wr.heap.size:=hR.lt
    have hle:cnt=wr.rangeLeft gk gr:=hR.left_eq.symm
    have hll:=hL.len
    rcases OwRg.next m_spot spot_inv hR 0 with ⟨hz,hrun⟩ | ⟨x,y,w2,cnt',hx,hlf,hMx,hrun,hR2,hlt2,hg2,hs2,hent⟩
    ·obtain ⟨hm,hok⟩:=HL.out.done SO.out (fun x hx=>hz x hx)
     have HM:=qhq hm
     have HK:=qhq hok
     have HA:=qhq hL.apart
     clear hm hok hz hR hL hO hB HL hle
     go_wp2_with fail
     clear hrun
     refine (lcSort_calls gk _ l (lcN t.moms t.moms.length) _ HO.out HA.out HK.out (lcN_sorted _ _) HM.out (by omega)).mono ?_;rintro e w5 ⟨rfl,hO5,hb5⟩
     have HO5:=qhq (hO5.lower (lo':=w.heap.size) (by omega))
     have HB5:=qhq (bl_trans9' HB.out hb5 (by omega))
     clear hO5 hb5
     go_wp2
     go_ret
     rw [HR.out]
     exact ⟨_,rfl,HO5.out,HB5.out⟩
    ·obtain ⟨x1,x2⟩:=x
     obtain ⟨A6,c6,rfl,-⟩:=hO.cap
     replace hrun:(Instr.next (.pointer (some ⟨gr,0,none⟩)) false 0).run Tryz.prog wr=.ok (.tuple #[.bool true,.agg #[.int .i64 x1,.int .i64 x2],.int .i64 y]) w2:=hrun
     replace hent:(Instr.entry (.pointer (some ⟨gr,0,none⟩))).run Tryz.prog w2=.ok (.tuple #[.agg #[.int .i64 x1,.int .i64 x2],.int .i64 y]) w2:=hent
     have HN:=qhq (HL.out.push hlf hMx hlt2)
     have hb2:Below gr wr w2:=⟨hg2.os,hg2.tape,hg2.output,hg2.size,fun k hk=>hg2.block k (by omega) (fun e=>by cases e;omega)⟩
     have HO2:=qhq (hO.grown hg2 (fun b hb hh=>by obtain ⟨N,F,hBk⟩:=hO.block hb;exact (hR.ne hBk).2 (Option.some.inj hh).symm))
     have HB2:=qhq (bl_trans9' hB hb2 (by omega))
     have HR2:=qhq hR2
     have HLE:=qhq hle
     have HLT:=qhq hlt2
     have hs3:gr < w2.heap.size:=by omega
     obtain ⟨nl,hnl⟩:∃ nl,l.length=nl:=⟨_,rfl⟩
     have HNL:=qhq hnl
     clear hR hO hB hb2 hg2 hR2 hlf hMx HO HB HL hle hlt2 hx hL
     rw [hnl] at hll HO2 ⊢
     clear hnl
     go_upto_region 14 with fail
     clear hrun hent
     have s0:(w2.alloc (.cells #[.int .i64 x1,.int .i64 x2] 193)).cell? ⟨w2.heap.size,0,none⟩=some (.int .i64 x1):=by go_simp
     have s1:(w2.alloc (.cells #[.int .i64 x1,.int .i64 x2] 193)).cell? ⟨w2.heap.size,1,none⟩=some (.int .i64 x2):=by go_simp
     have hbl:Below w2.heap.size w2 (w2.alloc (.cells #[.int .i64 x1,.int .i64 x2] 193)):=qaq (qrq _ _) _
     generalize World.alloc w2 _=W3 at s0 s1 hbl ⊢
     rw [hs2] at s0 s1
     replace HO2:=qhq (HO2.out.later hbl);replace HB2:=qhq (qtq HB2.out hbl);replace HR2:=qhq (HR2.out.later hbl);clear hbl
     have hs4:gr < W3.heap.size:=HR2.out.lt
     have hs5:w.heap.size ≤ W3.heap.size:=HB2.out.size
     go_wp2_with (at_builtin;refine stopped ?_)
     unfold Stopped
     refine wpList_append1 _ (by rfl) _ _ 103 (by rfl) gk 111 _ 3 24 Tryz.underlying103 i_lc1 rfl (by omega) _ nl _ (lcC (l ++ [⟨x1,x2,y⟩])) (by rfl) HO2.out [.int .i64 x1,.int .i64 x2,.int .i64 y] rfl (by simp [Value.oneCell']) (by rfl) (fun i hi j _=>(lcC_old l _ (by rw [HNL.out];exact hi) j).symm) ?hN (by omega) (by omega) (by omega) ?_
     case hN =>
      intro j hj
      have h:=fun j=>lcC_last l ⟨x1,x2,y⟩ j
      rw [HNL.out] at h
      rw [h]
      match j,hj with
      | 0,_=>rfl
      | 1,_=>rfl
      | 2,_=>rfl
     intro ga cap w5 hO5 hG5 _ _
     have HO5:=qhq hO5
     have HR5:=qhq (HR2.out.kept hG5 (fun hh=>by obtain ⟨N,F,hBk⟩:=HO2.out.block hh.symm;exact (HR2.out.ne hBk).1 rfl) (fun hh=>by obtain ⟨N,F,hBk⟩:=HO2.out.block hh.symm;exact (HR2.out.ne hBk).2 rfl))
     have HB5:=qhq (bl_own HB2.out hs5 (HO2.out.lower (lo':=w.heap.size) (by omega)) hG5)
     have HME:Hid (w5.rangeLeft gk gr < wr.rangeLeft gk gr):=qhq (by rw [HR5.out.left_eq,← HLE.out];exact HLT.out)
     clear hO5 hG5 s0 s1
     go_wp2
     go_roundw
     case rel=>exact ⟨l ++ [⟨x1,x2,y⟩],_,cnt',by rw [List.length_append,HNL.out];exact HO5.out,HR5.out,HN.out,HB5.out⟩
     case measure=>exact HME.out
theorem impl_LineCounts_calls (v1 v2:Value) (t:PTr) (w:World) (h:RdTr w v1 v2 t) (hsm:smTr t) :
  Calls Tryz.prog 44 #[.agg #[v1,v2]] w (OwRet w 111 3 (lcP t).length (lcC (lcP t))):=by
 cases hs:soundP t with
 | false=>exact impl_LineCounts_bad v1 v2 t w h hsm hs
 | true=>exact impl_LineCounts_good v1 v2 t w h hsm hs
end Go.Proofs.YtcklnjjbhngbcaaGreatDoor
namespace Go.Proofs.YtcklnjjbhngbcaaGreatDoor
open Go.RowKit Go.Proofs.Lens
theorem dec_step (m:Nat):Lib.decDigits m=(if m / 10=0 then [] else Lib.decDigits (m / 10)) ++ [UInt8.ofNat (48 + m % 10)]:=by
 rw [Lib.decDigits]
 by_cases h:m < 10
 ·rw [dif_pos h,if_pos (by omega),Nat.mod_eq_of_lt h];rfl
 ·rw [dif_neg h,if_neg (by omega)]
theorem strOfNums_one (r:Nat):strOfNums [48 + (r:Int)]=⟨[UInt8.ofNat (48 + r)].toArray⟩:=by
 unfold strOfNums
 have:(48 + (r:Int)).toNat=48 + r:=by omega
 simp [this]
theorem cat_lists (a b:List UInt8):(⟨a.toArray⟩:ByteArray) ++ ⟨b.toArray⟩=⟨(a ++ b).toArray⟩:=by
 apply ByteArray.ext
 rw [ByteArray.data_append]
 simp
theorem dec_len (n:Nat) (h:n ≤ 1048576):(Lib.decDigits n).length ≤ 21:=by
 have:=Lib.itoa_length_le (n:Int) (by omega) (by omega)
 unfold Lib.itoa at this
 rw [if_neg (by omega)] at this
 simpa using this
set_option maxRecDepth 100000 in
set_option maxHeartbeats 2000000 in
theorem l5decimal_calls (n:Nat) (w:World) (hn:n ≤ 1048576) :
  Calls Tryz.prog 49 #[.int .i64 n] w fun e w'=>e=.returned (.string ⟨(Lib.decDigits n).toArray⟩) ∧ Below w.heap.size w w':=by
 have hcv:∀ (y:Int) (W:World),(convert 22 9 (.slice (some ⟨W.heap.size,0,none⟩) 1 1)).run Tryz.prog (W.alloc (.cells #[.int .u8 y] 5))=.ok (.string (strOfNums [y])) (W.alloc (.cells #[.int .u8 y] 5)):=fun y W =>
  run_convert_bytes_arg _ 22 5 Tryz.underlying22 Tryz.underlying5 _ 0 1 1 [y] rfl (fun i hi=>by
   obtain rfl:i=0:=by omega
   exact (Blk.made W #[.int .u8 y] 5).cell (j:=0) (by simp)) 9 Tryz.underlying9
 have HCV:=qhq hcv
 have hn0:¬ (n:Int) < 0:=by omega
 clear hcv
 go_enter Tryz.func49,Tryz.ntmps49
 go_wp2_with fail
 go_loopw [0,3] (fun a s wr=>∃ (m:Nat) (l:List UInt8),m ≤ n ∧ a=.int .i64 m ∧ s=.string ⟨l.toArray⟩ ∧ Lib.decDigits n=Lib.decDigits m ++ l ∧ Below w.heap.size w wr) (fun a _ _=>(intOf a).toNat)
 case atStart=>exact ⟨n,[],Nat.le_refl _,rfl,rfl,by simp,qrq _ _⟩
 case round =>
  obtain ⟨m,l,hm,rfl,rfl,hd,hb⟩:=hrel
  have hll:l.length ≤ 21:=by have:=dec_len n hn;rw [hd,List.length_append] at this;omega
  have HD:=qhq hd
  have HB:=qhq hb
  clear hd hb
  have em:(m:Int) % 10=((m % 10:Nat):Int):=by omega
  have eq:(m:Int) / 10=((m / 10:Nat):Int):=by omega
  have hr:m % 10 ≤ 9:=by omega
  have hq:m / 10 ≤ m:=by omega
  have HS:=qhq (dec_step m)
  have HQ:Hid (m / 10 ≠ 0 → m / 10 < m):=qhq (by omega)
  generalize m % 10=r at em hr HS
  generalize m / 10=k at eq hq HS HQ
  have hov:¬ 9223372036854775807 < (strOfNums [48 + (r:Int)]).size + l.length:=by rw [strOfNums_one];show ¬ _ < 1 + l.length;omega
  have HC:Hid (strOfNums [48 + (r:Int)] ++ (⟨l.toArray⟩:ByteArray)=⟨(UInt8.ofNat (48 + r) :: l).toArray⟩):=qhq (by rw [strOfNums_one,cat_lists];rfl)
  by_cases hk:k=0
  ·subst hk
   have hcv:=HCV.out
   go_wp2_with fail
   go_ret
   rw [HC.out]
   refine ⟨?_,qaq HB.out _⟩
   have h:=HS.out
   simp only [if_true,List.nil_append] at h
   rw [HD.out,h]
   rfl
  ·have hkb:((k:Int) == 0)=false:=by simp;omega
   have hcv:=HCV.out
   go_wp2_with fail
   go_roundw
   case rel =>
    refine ⟨k,UInt8.ofNat (48 + r) :: l,by omega,rfl,by rw [HC.out],?_,qaq HB.out _⟩
    rw [HD.out,HS.out,if_neg hk,List.append_assoc]
    rfl
   case measure =>
    have:=HQ.out hk
    simp [intOf]
    omega
end Go.Proofs.YtcklnjjbhngbcaaGreatDoor
namespace Go.Proofs.Lens
open Go.Proofs.YtcklnjjbhngbcaaGreatDoor
open Go.RowKit Go.Proofs.YtcklnjjbhngbcaaGreatDoor
def digs (n:Int):List UInt8:=Lib.decDigits n.toNat
theorem digs_len {n:Int} (h:n ≤ 1048576):(digs n).length ≤ 21:=dec_len _ (by omega)
def sCalls:List UInt8:=[32,99,97,108,108,115,32]
def sSelf:List UInt8:=[32,115,101,108,102,32]
def sTotal:List UInt8:=[32,116,111,116,97,108,32]
def rowL (nm:ByteArray) (c:PFc):List UInt8:=digs c.fn ++ [32] ++ nm.data.toList ++ sCalls ++ digs c.cal ++ sSelf ++ digs c.slf ++ sTotal ++ digs c.tot ++ [10]
def lineL (x:PLc):List UInt8:=[9] ++ digs x.line ++ [32] ++ digs x.cnt ++ [10]
def linesL (fn:Int) (L:List PLc):Nat → List UInt8
 | 0=>[]
 | k + 1=>if (elt L k).fn=fn then linesL fn L k ++ lineL (elt L k) else linesL fn L k
def repL (fns:List ByteArray) (F:List PFc) (L:List PLc):Nat → List UInt8
 | 0=>[]
 | k + 1=>if (elt F k).cal=0 then repL fns F L k else repL fns F L k ++ rowL (elt fns (elt F k).fn.toNat) (elt F k) ++ linesL (elt F k).fn L L.length
def repP (t:PTr):List UInt8:=repL t.fns (fcP t) (lcP t) (fcP t).length
theorem ba_app (a b:ByteArray):(a ++ b).data.toList=a.data.toList ++ b.data.toList:=by rw [ByteArray.data_append];simp
theorem ba_size (s:ByteArray):s.size=s.data.toList.length:=by rw [Array.length_toList];rfl
theorem ba_lit (l:List UInt8):(⟨l.toArray⟩:ByteArray).data.toList=l:=by simp
structure RepOk (fns:List ByteArray) (F:List PFc) (L:List PLc):Prop where
 names:0 < F.length → ∀ i,(elt fns i).size ≤ 40
 nf:F.length ≤ 300 ∧ F.length ≤ fns.length
 fc:∀ i,i < F.length → (elt F i).fn=i ∧ 0 ≤ (elt F i).cal ∧ (elt F i).cal ≤ 3001 ∧ 0 ≤ (elt F i).slf ∧ (elt F i).slf ≤ 3001 ∧ 0 ≤ (elt F i).tot ∧ (elt F i).tot ≤ 3001
 nl:L.length ≤ 3000
 lc:∀ i,i < L.length → 0 ≤ (elt L i).cnt ∧ (elt L i).cnt ≤ 3000 ∧ 0 ≤ (elt L i).fn ∧ (elt L i).fn ≤ 300 ∧ 0 ≤ (elt L i).line ∧ (elt L i).line ≤ 100000
theorem row_len {nm:ByteArray} {c:PFc} (hn:nm.size ≤ 40) (h1:c.fn ≤ 1048576) (h2:c.cal ≤ 1048576) (h3:c.slf ≤ 1048576) (h4:c.tot ≤ 1048576):(rowL nm c).length ≤ 200:=by
 have a1:=digs_len h1
 have a2:=digs_len h2
 have a3:=digs_len h3
 have a4:=digs_len h4
 rw [ba_size] at hn
 simp only [rowL,sCalls,sSelf,sTotal,List.length_append,List.length_cons,List.length_nil]
 omega
theorem line_len {x:PLc} (h1:x.line ≤ 1048576) (h2:x.cnt ≤ 1048576):(lineL x).length ≤ 64:=by
 have a1:=digs_len h1
 have a2:=digs_len h2
 simp only [lineL,List.length_append,List.length_cons,List.length_nil]
 omega
theorem lines_len {fns:List ByteArray} {F:List PFc} {L:List PLc} (h:RepOk fns F L) (fn:Int):∀ k,k ≤ L.length → (linesL fn L k).length ≤ 64 * k
 | 0,_=>by simp [linesL]
 | k + 1,hk=>by
  have ih:=lines_len h fn k (by omega)
  have h1:=h.lc k (by omega)
  have h2:=line_len (x:=elt L k) (by omega) (by omega)
  unfold linesL
  split
  ·rw [List.length_append];omega
  ·omega
theorem rep_len {fns:List ByteArray} {F:List PFc} {L:List PLc} (h:RepOk fns F L):∀ k,k ≤ F.length → (repL fns F L k).length ≤ 200000 * k
 | 0,_=>by simp [repL]
 | k + 1,hk=>by
  have ih:=rep_len h k (by omega)
  have h1:=h.fc k (by omega)
  have h0:=h.nf
  have h2:=row_len (h.names (by omega) (elt F k).fn.toNat) (c:=elt F k) (by omega) (by omega) (by omega) (by omega)
  have h3:=lines_len h (elt F k).fn L.length (Nat.le_refl _)
  have h4:=h.nl
  unfold repL
  split
  ·omega
  ·rw [List.length_append,List.length_append];omega
theorem names_ok {t:PTr} (h:Sound t) (i:Nat):(elt t.fns i).size ≤ 40:=by
 have:=h.sizes
 simp only [sizesOk,Bool.and_eq_true,decide_eq_true_eq] at this
 have hf:=this.2
 by_cases hi:i < t.fns.length
 ·rw [elt_eq hi]
  have:=List.all_eq_true.1 hf _ (List.getElem_mem hi)
  simpa using this
 ·have e:elt t.fns i=default:=by unfold elt;simp [List.getD_eq_getElem?_getD,List.getElem?_eq_none (Nat.le_of_not_lt hi)]
  rw [e]
  show (0:Nat) ≤ 40
  omega
theorem rep_ok (t:PTr):RepOk t.fns (fcP t) (lcP t):=by
 unfold fcP lcP
 by_cases hs:soundP t=true
 ·rw [if_pos hs,if_pos hs]
  have h:=sound_iff hs
  have hf:=sound_fns h
  have hl:=lcN_len t.moms t.moms.length
  refine ⟨fun _=>names_ok h,⟨by rw [fcList_len];omega,by rw [fcList_len];exact Nat.le_refl _⟩,fun i hi=>?_,by omega,fun i hi=>?_⟩
  ·rw [fcList_len] at hi
   rw [fcList_elt _ hi]
   have h1:=fcN_bd t.moms t.moms.length i
   dsimp only
   omega
  ·have hm:elt (lcN t.moms t.moms.length) i ∈ lcN t.moms t.moms.length:=by rw [elt_eq hi];exact List.getElem_mem hi
   obtain ⟨h1,h2⟩:=(lcN_mem _ _ _).1 hm
   have h3:=lcK_bd t.moms (elt (lcN t.moms t.moms.length) i).fn (elt (lcN t.moms t.moms.length) i).line t.moms.length
   have h4:=lcK_ok h (Nat.le_refl _) (fn:=(elt (lcN t.moms t.moms.length) i).fn) (line:=(elt (lcN t.moms t.moms.length) i).line) (by omega)
   omega
 ·rw [if_neg hs,if_neg hs]
  exact ⟨fun h=>absurd h (by simp),⟨by simp,by simp⟩,fun i hi=>absurd hi (by simp),by simp,fun i hi=>absurd hi (by simp)⟩
theorem row_text (nm s1 s2 s3 s4:ByteArray) (c:PFc) (h1:s1.data.toList=digs c.fn) (h2:s2.data.toList=digs c.cal) (h3:s3.data.toList=digs c.slf) (h4:s4.data.toList=digs c.tot) :
  (s1 ++ ⟨#[32]⟩ ++ nm ++ ⟨#[32,99,97,108,108,115,32]⟩ ++ s2 ++ ⟨#[32,115,101,108,102,32]⟩ ++ s3 ++ ⟨#[32,116,111,116,97,108,32]⟩ ++ s4 ++ ⟨#[10]⟩:ByteArray).data.toList=rowL nm c:=by
 simp only [ba_app,h1,h2,h3,h4]
 rfl
theorem line_text (s1 s2:ByteArray) (x:PLc) (h1:s1.data.toList=digs x.line) (h2:s2.data.toList=digs x.cnt) :
  ((⟨#[9]⟩:ByteArray) ++ s1 ++ ⟨#[32]⟩ ++ s2 ++ ⟨#[10]⟩).data.toList=lineL x:=by
 simp only [ba_app,h1,h2]
 rfl
end Go.Proofs.Lens
namespace Go.Proofs.Lens
open Go.Proofs.YtcklnjjbhngbcaaGreatDoor
open Go.RowKit
def byC (l:List UInt8) (i _j:Nat):Value:=.int .u8 ((l.getD i 0).toNat:Int)
theorem byC_row (l:List UInt8):cellsR 1 (byC l) l.length=l.map fun b=>Value.int .u8 (b.toNat:Int):=by
 unfold cellsR
 refine List.ext_getElem (by simp) fun i h1 h2=>?_
 simp only [List.length_map,List.length_range,Nat.mul_one] at h1
 simp [byC,h1,List.getD_eq_getElem?_getD]
section
variable {w w' : World} {lo n sz : Nat} {e : TypeId} {C : Nat → Nat → Value} {v : Value}
theorem Blk.gO {b N:Nat} {e':TypeId} {f:Nat → Value} (h:Blk w b e' N f) (hO:OwR w lo e sz n C v) (he:e' ≠ e) (hG:w.grownBy w' v.ownBlock):Blk w' b e' N f :=
 h.keep (hG.block b h.lt fun hh=>by obtain ⟨N',f',hB⟩:=hO.block hh.symm;exact (hB.ne h he.symm) rfl)
theorem OwR.gO {lo' n' sz':Nat} {e':TypeId} {C':Nat → Nat → Value} {v':Value} (h:OwR w lo' e' sz' n' C' v') (hO:OwR w lo e sz n C v) (he:e' ≠ e) (hG:w.grownBy w' v.ownBlock):OwR w' lo' e' sz' n' C' v' :=
 h.grown hG fun b hb hh=>by
  obtain ⟨N',f',hB⟩:=h.block hb
  obtain ⟨N2,f2,hB2⟩:=hO.block hh
  exact hB2.ne hB he.symm rfl
theorem Blk.kb {b g N:Nat} {e':TypeId} {f:Nat → Value} (h:Blk w g e' N f) (hk:Lib.OthersKept e (some b) w w') (he:e' ≠ e) (hb:g ≠ b):Blk w' g e' N f:=by
 obtain ⟨cur,h1,h2⟩:=h
 exact ⟨cur,hk g _ h1 (fun hh=>hb (Option.some.inj hh)) (fun c fz hh=>by cases hh;exact he rfl),h2⟩
end
section
variable {P : Program} {ops : Array Oper} {rest : List Oper} {o : Oper} {a : Act} {Q : Exit → Act → World → Prop}
theorem wpList_appendS (w:World) (hgd:o.guard=none) (sl x:Operand) (t u:TypeId)
  (ho:o.op=.call { callee:=.builtin .append,args:=#[sl,x],argTypes:=#[t,u] }) (lo:Nat) (e:TypeId) (ht:P.underlying t=some (.slice e)) (hu:P.underlying u=some .string)
  (hinfo:(P.info? e).map (fun i=>(i.zero,i.size,i.bytes))=some (some (.int .u8 0),1,1)) (v:Value) (l:List UInt8) (hs:a.eval sl=v) (hO:OwR w lo e 1 l.length (byC l) v) (s:ByteArray) (hx:a.eval x=.string s)
  (hlen:l.length + s.data.toList.length ≤ 140737488355328) (hlo:lo ≤ w.heap.size)
  (h:∀ v' w',OwR w' lo e 1 (l ++ s.data.toList).length (byC (l ++ s.data.toList)) v' → w.grownBy w' v.ownBlock → wpList P ops Q rest (a.put o.dst v') w'):wpList P ops Q (o :: rest) a w:=by
 cases hi:P.info? e with
 | none=>rw [hi] at hinfo;cases hinfo
 | some i =>
  rw [hi] at hinfo
  simp only [Option.map_some,Option.some.injEq,Prod.mk.injEq] at hinfo
  obtain ⟨hz,hs1,hb1⟩:=hinfo
  have hsz:s.size=s.data.toList.length:=by rw [Array.length_toList];rfl
  refine Lib.wpList_append_own_string w hgd sl x t u ho lo e i ht hu hi hz hs1 hb1 v l.length (cellsR 1 (byC l) l.length) hs hO.row s hx (by rw [hsz];simp only [maxLen];omega) (by rw [hsz];exact hlen) hlo (fun v' w' h2 h3 _=>?_)
  refine h v' w' ?_ h3
  rw [List.length_append]
  rw [hsz] at h2
  refine OwR.of_row h2 fun i hi j hj=>?_
  obtain rfl:j=0:=by omega
  have e1:cellsR 1 (byC l) l.length ++ Lib.strCells s=(l ++ s.data.toList).map fun b=>Value.int .u8 (b.toNat:Int):=by
   rw [byC_row,List.map_append];rfl
  rw [e1,Nat.mul_one,Nat.add_zero]
  have hi':i < (l ++ s.data.toList).length:=by rw [List.length_append];exact hi
  rw [List.getElem?_map,List.getElem?_eq_getElem hi']
  simp only [Option.map_some,byC,List.getD_eq_getElem?_getD,List.getElem?_eq_getElem hi',Option.getD_some]
end
end Go.Proofs.Lens
namespace Go.Proofs.YtcklnjjbhngbcaaGreatDoor
open Go.RowKit Go.Proofs.Lens
set_option maxRecDepth 100000 in
theorem conv_bytes {w:World} {lo:Nat} {l:List UInt8} {v:Value} (h:OwR w lo 5 1 l.length (byC l) v):(convert 22 9 v).run Tryz.prog w=.ok (.string ⟨l.toArray⟩) w:=by
 obtain ⟨A,c,rfl,hop⟩:=h.open'
 by_cases h0:l.length=0
 ·have hl:=List.eq_nil_of_length_eq_zero h0
  subst hl
  cases A with
  | none=>exact run_convert_bytes_nil w 22 5 Tryz.underlying22 Tryz.underlying5 _ c 9 Tryz.underlying9
  | some a =>
   have ha:∃ b,a=⟨b,0,none⟩:=by
    rcases h with ⟨hv,-⟩ | ⟨b,cap,f,hv,-⟩
    ·simp at hv
    ·simp only [Value.slice.injEq,Option.some.injEq] at hv
     exact ⟨b,hv.1⟩
   obtain ⟨b,rfl⟩:=ha
   exact run_convert_bytes_arg w 22 5 Tryz.underlying22 Tryz.underlying5 b 0 0 c [] rfl (fun i hi=>absurd hi (by omega)) 9 Tryz.underlying9
 ·obtain ⟨b,rfl,-,-,hcell,-⟩:=hop (by omega)
  have hr:=run_convert_bytes_arg (P:=Tryz.prog) w 22 5 Tryz.underlying22 Tryz.underlying5 b 0 l.length c (l.map fun x=>(x.toNat:Int)) (by simp) (fun i hi=>by
   have:=hcell i hi 0 (by omega)
   rw [Nat.mul_one,Nat.add_zero] at this
   rw [Nat.zero_add,this]
   simp [byC,List.getD_eq_getElem?_getD,hi]) 9 Tryz.underlying9
  rw [hr]
  have e:strOfNums (l.map fun x=>(x.toNat:Int))=⟨l.toArray⟩:=by
   unfold strOfNums
   congr 2
   rw [List.map_map]
   refine (List.map_congr_left fun x _=>?_).trans (List.map_id l)
   simp
  rw [e]
end Go.Proofs.YtcklnjjbhngbcaaGreatDoor
namespace Go.Proofs.YtcklnjjbhngbcaaGreatDoor
open Go.Shelf
def layItoa_ren:Go.Shelf.Ren:=⟨fun | 171=>46 | 243=>125 | 246=>163 | 283=>180 | 284=>181 | 285=>182 | 286=>183 | 129=>179 | 317=>192 | 318=>193 | 319=>194 | 320=>195 | 337=>197 | 338=>198 | n=>n,fun | 3=>3 | 9=>9 | 2=>2 | 4=>4 | 171=>258 | 0=>0 | 53=>70 | 37=>22 | 5=>5 | 173=>260 | 212=>273 | 51=>256 | 20=>20 | 213=>274 | 46=>208 | 232=>279 | 233=>280 | n=>n,fun | 17=>1 | 18=>2 | 19=>3 | n=>n⟩
theorem layItoa:Go.Proofs.LaysM.n171 Tryz.prog layItoa_ren:={
 mixed:=by kernel_rfl
 f129:=Tryz.func179.trans (congrArg some (by kernel_rfl))
 f171:=Tryz.func46.trans (congrArg some (by kernel_rfl))
 f243:=Tryz.func125.trans (congrArg some (by kernel_rfl))
 f246:=Tryz.func163.trans (congrArg some (by kernel_rfl))
 f283:=Tryz.func180.trans (congrArg some (by kernel_rfl))
 f284:=Tryz.func181.trans (congrArg some (by kernel_rfl))
 f285:=Tryz.func182.trans (congrArg some (by kernel_rfl))
 f286:=Tryz.func183.trans (congrArg some (by kernel_rfl))
 f317:=Tryz.func192.trans (congrArg some (by kernel_rfl))
 f318:=Tryz.func193.trans (congrArg some (by kernel_rfl))
 f319:=Tryz.func194.trans (congrArg some (by kernel_rfl))
 f320:=Tryz.func195.trans (congrArg some (by kernel_rfl))
 f337:=Tryz.func197.trans (congrArg some (by kernel_rfl))
 f338:=Tryz.func198.trans (congrArg some (by kernel_rfl))
 t0:=Tryz.underlying0
 a0:=Tryz.isAgg0
 z0:=Tryz.sizeOf0
 v0:=Tryz.zeroValue0
 t2:=Tryz.underlying2
 a2:=Tryz.isAgg2
 z2:=Tryz.sizeOf2
 v2:=Tryz.zeroValue2
 t3:=Tryz.underlying3
 a3:=Tryz.isAgg3
 z3:=Tryz.sizeOf3
 v3:=Tryz.zeroValue3
 t4:=Tryz.underlying4
 a4:=Tryz.isAgg4
 z4:=Tryz.sizeOf4
 v4:=Tryz.zeroValue4
 t5:=Tryz.underlying5
 a5:=Tryz.isAgg5
 z5:=Tryz.sizeOf5
 v5:=Tryz.zeroValue5
 t9:=Tryz.underlying9
 a9:=Tryz.isAgg9
 z9:=Tryz.sizeOf9
 v9:=Tryz.zeroValue9
 t20:=Tryz.underlying20
 a20:=Tryz.isAgg20
 z20:=Tryz.sizeOf20
 v20:=Tryz.zeroValue20
 t37:=Tryz.underlying22
 a37:=Tryz.isAgg22
 z37:=Tryz.sizeOf22
 v37:=Tryz.zeroValue22
 t46:=Tryz.underlying208
 a46:=Tryz.isAgg208
 z46:=Tryz.sizeOf208
 v46:=Tryz.zeroValue208
 t51:=Tryz.underlying256
 a51:=Tryz.isAgg256
 z51:=Tryz.sizeOf256
 v51:=Tryz.zeroValue256
 t53:=Tryz.underlying70
 a53:=Tryz.isAgg70
 z53:=Tryz.sizeOf70
 v53:=Tryz.zeroValue70
 t171:=Tryz.underlying258
 a171:=Tryz.isAgg258
 z171:=Tryz.sizeOf258
 v171:=Tryz.zeroValue258
 t173:=Tryz.underlying260
 a173:=Tryz.isAgg260
 z173:=Tryz.sizeOf260
 v173:=Tryz.zeroValue260
 t212:=Tryz.underlying273
 a212:=Tryz.isAgg273
 z212:=Tryz.sizeOf273
 v212:=Tryz.zeroValue273
 t213:=Tryz.underlying274
 a213:=Tryz.isAgg274
 z213:=Tryz.sizeOf274
 t232:=Tryz.underlying279
 a232:=Tryz.isAgg279
 z232:=Tryz.sizeOf279
 v232:=Tryz.zeroValue279
 t233:=Tryz.underlying280
 a233:=Tryz.isAgg280
 z233:=Tryz.sizeOf280
 v233:=Tryz.zeroValue280
 g17:=by kernel_rfl
 g18:=by kernel_rfl
 g19:=by kernel_rfl
 i0:=by kernel_rfl
 i2:=by kernel_rfl
 i3:=by kernel_rfl
 i4:=by kernel_rfl
 i5:=by kernel_rfl
 i9:=by kernel_rfl
 i20:=by kernel_rfl
 i37:=by kernel_rfl
 i46:=by kernel_rfl
 i51:=by kernel_rfl
 i53:=by kernel_rfl
 i171:=by kernel_rfl
 i173:=by kernel_rfl
 i212:=by kernel_rfl
 i232:=by kernel_rfl
 i233:=by kernel_rfl
 m17:=by kernel_rfl
 m18:=by kernel_rfl
 m19:=by kernel_rfl }
def layString_ren:Go.Shelf.Ren:=⟨fun | 169=>47 | n=>n,fun | 70=>100 | 9=>9 | 0=>0 | 72=>102 | 37=>22 | 127=>197 | 3=>3 | 5=>5 | n=>n,fun | n=>n⟩
theorem layString:Go.Proofs.Lays.n169 Tryz.prog layString_ren:={
 mixed:=by kernel_rfl
 f169:=Tryz.func47.trans (congrArg some (by kernel_rfl))
 t0:=Tryz.underlying0
 a0:=Tryz.isAgg0
 z0:=Tryz.sizeOf0
 v0:=Tryz.zeroValue0
 t3:=Tryz.underlying3
 a3:=Tryz.isAgg3
 z3:=Tryz.sizeOf3
 v3:=Tryz.zeroValue3
 t9:=Tryz.underlying9
 a9:=Tryz.isAgg9
 z9:=Tryz.sizeOf9
 v9:=Tryz.zeroValue9
 t37:=Tryz.underlying22
 a37:=Tryz.isAgg22
 z37:=Tryz.sizeOf22
 v37:=Tryz.zeroValue22
 t70:=Tryz.underlying100
 a70:=Tryz.isAgg100
 z70:=Tryz.sizeOf100
 v70:=Tryz.zeroValue100
 t72:=Tryz.underlying102
 a72:=Tryz.isAgg102
 z72:=Tryz.sizeOf102
 v72:=Tryz.zeroValue102
 t127:=Tryz.underlying197
 a127:=Tryz.isAgg197
 z127:=Tryz.sizeOf197
 v127:=Tryz.zeroValue197 }
end Go.Proofs.YtcklnjjbhngbcaaGreatDoor
namespace Go.Proofs.YtcklnjjbhngbcaaGreatDoor
open Go.RowKit
theorem sizeB:(Tryz.prog.info? 102).map (·.size)=some 2:=by kernel_rfl
theorem liesB:liesAt Tryz.prog Tryz.prog.depth 102 (2 / Tryz.prog.cellsOf 102) 0 102 1=true:=by kernel_rfl
theorem infoB:(Tryz.prog.info? 5).map (fun i=>(i.zero,i.size,i.bytes))=some (some (.int .u8 0),1,1):=by kernel_rfl
set_option maxHeartbeats 1000000 in
set_option maxRecDepth 100000 in
theorem copyCheck_used (b:Nat) (w:World) (h0:w.cell? ⟨b,0,none⟩=some (.pointer (some ⟨b,0,none⟩))) :
  Calls Tryz.prog 124 #[.pointer (some ⟨b,0,none⟩)] w fun e w'=>e=.returned (.tuple #[]) ∧ w'=w:=by
 obtain ⟨j,hj,-⟩:=Option.map_eq_some_iff.1 sizeB
 go_enter Tryz.func124,Tryz.ntmps124
 go_wp2
 rw [Lib.run_neq_ptr_same w _ Tryz.underlying100 hj]
 go_wp2
 go_end0
 exact ⟨rfl,rfl⟩
set_option maxHeartbeats 1000000 in
set_option maxRecDepth 100000 in
theorem copyCheck_fresh (b:Nat) (w:World) (h0:w.cell? ⟨b,0,none⟩=some (.pointer none)) (hsh:w.shape? b=some (102,2)) (hfz:w.frozen? ⟨b,0,none⟩=false) :
  Calls Tryz.prog 124 #[.pointer (some ⟨b,0,none⟩)] w fun e w'=>e=.returned (.tuple #[]) ∧ w'=w.setCell ⟨b,0,none⟩ (.pointer (some ⟨b,0,none⟩)):=by
 obtain ⟨j,hj,hjs⟩:=Option.map_eq_some_iff.1 sizeB
 go_enter Tryz.func124,Tryz.ntmps124
 go_wp2
 rw [Lib.run_to_unsafe w ⟨b,0,none⟩ Tryz.underlying100 Tryz.underlying178 hj (by rw [hjs];decide) hsh (Nat.zero_lt_succ 1)]
 simp only [Result.andThen]
 rw [Oper.upon_value]
 go_wp2
 rw [run_callFunc_extern Tryz.func162 (by kernel_rfl) (by kernel_rfl) (by kernel_rfl) (e:=Extern.AbiNoEscape.same) (by kernel_rfl)]
 rw [Lib.run_noEscape]
 simp only [Result.andThen]
 rw [Oper.upon_value]
 go_wp2
 rw [Lib.run_from_unsafe w ⟨b,0,none⟩ Tryz.underlying178 Tryz.underlying100 hj hsh liesB]
 simp only [Result.andThen]
 rw [Oper.upon_value]
 go_wp2
 go_end0
 exact ⟨rfl,rfl⟩
abbrev IsBd (B b:Nat) (bs:List Value) (w:World):Prop:=Lib.IsBuilder 102 5 B b bs w
abbrev KeptBd (b:Nat) (w w':World):Prop:=Lib.OthersKept 5 (some b) w w'
theorem copyCheck_calls (B b:Nat) (bs:List Value) (w:World) (h:IsBd B b bs w) :
  Calls Tryz.prog 124 #[.pointer (some ⟨b,0,none⟩)] w fun e w'=>e=.returned (.tuple #[]) ∧ Lib.BuilderAt 102 5 B b (.pointer (some ⟨b,0,none⟩)) bs w' ∧ Below B w w' ∧ KeptBd b w w':=by
 rcases h with h | h
 ·refine (copyCheck_fresh b w h.cell0 h.shape h.frozen0).mono ?_
  rintro e w' ⟨rfl,rfl⟩
  exact ⟨rfl,h.used _,(qrq B w).setCell (p:=⟨b,0,none⟩) h.1 _,(Lib.OthersKept.refl _ _ _).setCell ⟨b,0,none⟩ rfl _⟩
 ·refine (copyCheck_used b w h.cell0).mono ?_
  rintro e w' ⟨rfl,rfl⟩
  exact ⟨rfl,h,qrq B _,Lib.OthersKept.refl _ _ _⟩
set_option maxHeartbeats 2000000 in
set_option maxRecDepth 100000 in
theorem writeString_calls (B b:Nat) (bs:List Value) (s:ByteArray) (w:World) (h:IsBd B b bs w) (hlen:bs.length + s.size ≤ 140737488355328) (hBw:B ≤ w.heap.size) :
  Calls Tryz.prog 45 #[.pointer (some ⟨b,0,none⟩),.string s] w fun e w'=>e=.returned (.tuple #[.int .i64 s.size,.nilIface]) ∧ IsBd B b (bs ++ Lib.strCells s) w' ∧ Below B w w' ∧ KeptBd b w w':=by
 have HC:=copyCheck_calls B b bs w h
 obtain ⟨i0,hi,hz⟩:=Option.map_eq_some_iff.1 infoB
 simp only [Prod.mk.injEq] at hz
 obtain ⟨hz0,hz1,hz2⟩:=hz
 go_enter Tryz.func45,Tryz.ntmps45
 go_wp2_with fail
 refine HC.mono ?_
 rintro e w1 ⟨rfl,h1,hb1,hk1⟩
 obtain ⟨hB,v,hbk,hown,hne⟩:=h1
 have c0:w1.cell? ⟨b,0,none⟩=some (.pointer (some ⟨b,0,none⟩)):=by rw [Lib.cell_of_heap hbk];rfl
 have c1:w1.cell? ⟨b,1,none⟩=some v:=by rw [Lib.cell_of_heap hbk];rfl
 go_wp2_with (at_builtin;refine Lib.wpList_append_own_string _ rfl _ _ 22 9 rfl B 5 i0 Tryz.underlying22 Tryz.underlying9 hi hz0 hz1 hz2 _ _ _ rfl hown s rfl ?c3 ?c4 ?c5 ?_)
 case c3=>unfold maxLen;omega
 case c4=>omega
 case c5=>have:=hb1.size;omega
 intro v' w2 hown' hgrow _
 have hlt:b < w1.heap.size:=(Array.getElem?_eq_some_iff.1 hbk).1
 have hb2:w2.heap[b]?=some (.cells #[.pointer (some ⟨b,0,none⟩),v] 102 (0,0)):=by
  rw [hgrow.block b hlt (fun e=>hne e.symm)]
  exact hbk
 have d0:w2.cell? ⟨b,0,none⟩=some (.pointer (some ⟨b,0,none⟩)):=by rw [Lib.cell_of_heap hb2];rfl
 have d1:w2.cell? ⟨b,1,none⟩=some v:=by rw [Lib.cell_of_heap hb2];rfl
 have f1:w2.frozen? ⟨b,1,none⟩=false:=Lib.frozen_of_heap hb2 1
 obtain ⟨ao,n',cap,rfl⟩:∃ ao n' cap,v'=.slice ao n' cap:=by
  rcases hown'.2 with ⟨hv,_⟩ | ⟨g,cap,cur,hv,_⟩
  ·exact ⟨_,_,_,hv⟩
  ·exact ⟨_,_,_,hv⟩
 go_wp2
 go_ret2
 refine ⟨rfl,.inr ?_,?_,(hk1.grown hgrow (Lib.ownsRow_kind hown)).setCell ⟨b,1,none⟩ rfl _⟩
 ·exact Lib.BuilderAt.put (T:=102) (e:=5) hB hb2 (bs':=bs ++ Lib.strCells s) (by simpa [Lib.strCells_length] using hown') (by decide)
 ·exact (hb1.grown hgrow (by have:=hb1.size;omega) (fun k hk=>(hown.lt k hk).1)).setCell (p:=⟨b,1,none⟩) hB _
end Go.Proofs.YtcklnjjbhngbcaaGreatDoor
namespace Go.Proofs.Lens
open Go.Proofs.YtcklnjjbhngbcaaGreatDoor
open Go.RowKit
theorem OwR.kb2 {w w':World} {lo n sz b:Nat} {e e2:TypeId} {C:Nat → Nat → Value} {v:Value} (h:OwR w lo e sz n C v) (hk:Lib.OthersKept e2 (some b) w w') (he:e ≠ e2) (hb:b < lo):OwR w' lo e sz n C v :=
 h.keep fun g _ _ hG hv=>by
  obtain ⟨cur,h2,-⟩:=hG
  have hl:=(h.lt g hv).1
  rw [h2]
  exact hk g _ h2 (fun hh=>by have:=Option.some.inj hh;omega) (fun c fz hh=>by cases hh;exact he rfl)
end Go.Proofs.Lens
namespace Go.Proofs.YtcklnjjbhngbcaaGreatDoor
open Go.RowKit Go.Proofs.Lens Go.Shelf
theorem itoa_calls (n : Nat) (w : World) (hn : n ≤ 1048576) (ht : Lib.TabIs Tryz.prog w "internal/strconv.uint64pow10" .u64 Lib.pow10Tab) :
  Calls Tryz.prog 46 #[.int .i64 n] w fun e w'=>e=.returned (.string ⟨(Lib.decDigits n).toArray⟩) ∧ Below w.heap.size w w':=by
 refine (Any.strconv_Itoa layItoa (n:Int) (by omega) (by omega) w ht).mono fun e w' hh=>?_
 obtain ⟨he,k,os,rfl⟩:=hh
 refine ⟨?_,⟨rfl,rfl,rfl,by rw [Sort.size_grow];exact Nat.le_add_right _ _,fun i hi=>Sort.heap_grow_old _ os hi⟩⟩
 rw [he]
 unfold Lib.itoa
 rw [if_neg (by omega)]
 rfl
theorem bd_later {B b:Nat} {bs:List Value} {w w':World} (h:IsBd B b bs w) (hb:Below w.heap.size w w'):IsBd B b bs w':=by
 have key:∀ p,Lib.BuilderAt 102 5 B b p bs w → Lib.BuilderAt 102 5 B b p bs w':=fun p hp=>by
  have hlt:=hp.lt
  obtain ⟨hB,v,hbk,hown,hne⟩:=hp
  exact ⟨hB,v,(hb.block b hlt).trans hbk,hown.kept (row:=none) ⟨hb.os,hb.tape,hb.output,hb.size,fun i hi _=>hb.block i hi⟩ (Classical.em _),hne⟩
 exact h.elim (fun h=>.inl (key _ h)) (fun h=>.inr (key _ h))
theorem bd_lt {B b:Nat} {bs:List Value} {w:World} (h:IsBd B b bs w):b < w.heap.size:=h.elim (fun h=>h.lt) (fun h=>h.lt)
set_option maxRecDepth 100000 in
theorem extraS:Builder.Extra Tryz.prog layString_ren where
 sizeBuilder:=sizeB
 liesBuilder:=liesB
 t5:=Tryz.underlying5
 a5:=Tryz.isAgg5
 z5:=Tryz.sizeOf5
 v5:=Tryz.zeroValue5
 infoByte:=infoB
 cellsByte:=by kernel_rfl
 sizeByte:=by kernel_rfl
 neB5:=by decide
theorem bdString_calls (b:Nat) (l:List UInt8) (w:World) (h:IsBd b b (Lib.byteCells l) w) (hBw:b ≤ w.heap.size) :
  Calls Tryz.prog 47 #[.pointer (some ⟨b,0,none⟩)] w fun e w'=>e=.returned (.string ⟨l.toArray⟩) ∧ Below b w w' :=
 Any.Builder_String_any layString extraS b b l w h hBw
end Go.Proofs.YtcklnjjbhngbcaaGreatDoor
