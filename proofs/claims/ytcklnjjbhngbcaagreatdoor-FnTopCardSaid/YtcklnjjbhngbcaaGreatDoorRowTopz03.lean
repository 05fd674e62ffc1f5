/- Lemmas and contracts of functions that the theorem of this claim leans on (texts G6, U1). -/
import Derived.Test.YtcklnjjbhngbcaaGreatDoorRowTopz00
import Derived.Deep.CutBlock
import Derived.Test.YtcklnjjbhngbcaaGreatDoorRowUnz25
import Derived.Test.YtcklnjjbhngbcaaGreatDoorRowUnz05
import Derived.Test.YtcklnjjbhngbcaaGreatDoorRowTopz02
import Derived.Test.YtcklnjjbhngbcaaGreatDoorRowTopz01
namespace Go.Proofs.YtcklnjjbhngbcaaGreatDoor
open Go.RowKit Go.Proofs.Lens
set_option maxRecDepth 100000 in
set_option maxHeartbeats 1000000 in
theorem pickE_calls (w0:World) (g:Nat) (cv:Value) (code:List Nat) (c:Cu) (n:Nat) (w:World) (hr:RdBytes w0 cv code) (hg:w0.heap.size ≤ g) (hb0:Below w0.heap.size w0 w) (h:CuAt w g cv c) (hp:c.pos ≤ 1000000000000000000) (hn:n ≤ 60000) :
  Calls Tryz.prog 33 #[.pointer (some ⟨g,0,none⟩),.int .i64 n] w fun e w'=>∃ (r:Nat) (c':Cu),e=.returned (.int .i64 (r:Nat)) ∧ (r < n ∨ r=0) ∧ CuAt w' g cv c' ∧ c'.pos ≤ c.pos + 2 ∧ Mv [72] g w w':=by
 have hr':=hr.later hb0
 by_cases h200:n ≤ 200
 ·refine (pick_calls g cv code c n w hr' h (by omega) h200).mono ?_
  rintro e w1 ⟨rfl,hC,hm⟩
  obtain ⟨k,hk,ha⟩:=pick_adv' code n c
  refine ⟨_,_,rfl,?_,hC,by rw [ha.1];omega,hm⟩
  by_cases h0:n=0
  ·subst h0;right;rw [pickP_one (by omega)]
  ·left;exact pickP_lt code c (by omega)
 ·have HC:=qhq h
  have HR:=qhq hr'
  have HR0:=qhq hr
  have HB0:=qhq hb0
  have hd:decide ((n:Int) ≤ 1)=false:=by simp;omega
  have hd2:decide ((n:Int) > 200)=true:=by simp;omega
  have hn0:0 < n:=by omega
  have hvv:∀ d:Cu,drwV code d < 256:=fun d=>by
   unfold drwV
   split
   ·exact hr'.2 _
   ·unfold outS;exact Nat.mod_lt _ (by omega)
  have hv:=hvv c
  have hy:=hvv (drwC code c)
  have hp2:(drwC code c).pos=c.pos + 1:=rfl
  generalize hx:drwV code c=x at hv ⊢
  generalize hx2:drwV code (drwC code c)=y at hy ⊢
  have HX:Hid (drwV code c=x ∧ drwV code (drwC code c)=y):=qhq ⟨hx,hx2⟩
  clear h hr hr' h200 hb0 hvv hx hx2
  go_enter Tryz.func33,Tryz.ntmps33
  go_wp2_with fail
  refine (next_calls g cv code c _ HR.out HC.out (by omega)).mono ?_;rintro e w1 ⟨rfl,hC,hm⟩
  have HC1:=qhq hC
  have HM:=qhq hm
  have HR1:=qhq (HR0.out.later (bl_trans9 HB0.out (bl_low9 hm.bl hg)))
  clear hC hm
  rw [HX.out.1]
  go_wp2_with fail
  refine (next_calls g cv code _ _ HR1.out HC1.out (by omega)).mono ?_;rintro e w2 ⟨rfl,hC,hm⟩
  have HC2:=qhq hC
  have HM2:=qhq (HM.out.trans hm)
  clear hC hm
  rw [HX.out.2]
  go_wp2
  go_ret
  refine ⟨(x * 256 + y) % n,drwC code (drwC code c),ret_int ?_,.inl (Nat.mod_lt _ hn0),HC2.out,?_,HM2.out⟩
  ·rw [Int.natCast_emod];simp
  ·show (drwC code c).pos + 1 ≤ _;omega
section
variable {w w' : World} {lo lo' : Nat} {v1 v2 : Value} {fns : List ByteArray} {ms : List PMom}
end
def StE (g:Nat) (cv:Value) (c:Cu) (k:Nat) (w:World) (e:Ending) (w':World):Prop :=
 ∃ (p:PStop) (c':Cu),e=.returned (stopV p) ∧ p.nm.size ≤ 1 ∧ CuAt w' g cv c' ∧ c'.pos ≤ c.pos + k ∧ Mv [72] g w w'
set_option maxRecDepth 100000 in
set_option maxHeartbeats 4000000 in
theorem stopE_calls (w0:World) (g:Nat) (cv:Value) (code:List Nat) (c:Cu) (w:World) (hr:RdBytes w0 cv code) (hg:w0.heap.size ≤ g) (hb0:Below w0.heap.size w0 w) (h:CuAt w g cv c) (hp:c.pos ≤ 500000000000000000) :
  Calls Tryz.prog 85 #[.pointer (some ⟨g,0,none⟩)] w (StE g cv c 6 w):=by
 have HR:=qhq hr
 have HC:=qhq h
 have HB0:=qhq hb0
 have hgw:g < w.heap.size:=h.blk.lt
 clear h hr hb0
 go_enter Tryz.func85,Tryz.ntmps85
 go_wp2_with fail
 have HX:=qhq (sbox_new w)
 have hm0:=(Mv.refl [72] g w).alloc (by omega) (.cells #[.int .i64 0,.int .i64 0,.int .i64 0,.string eT] 45)
 have hC0:=HC.out.later (qaq (qrq _ w) (.cells #[.int .i64 0,.int .i64 0,.int .i64 0,.string eT] 45))
 have hb1:=qaq HB0.out (.cells #[.int .i64 0,.int .i64 0,.int .i64 0,.string eT] 45)
 have hsw:w.heap.size < (w.alloc (.cells #[.int .i64 0,.int .i64 0,.int .i64 0,.string eT] 45)).heap.size:=by simp
 have e9:(Value.string eT)=.string ⟨#[]⟩:=rfl
 rw [e9] at HX hm0 hC0 hb1 hsw
 generalize World.alloc w _=W at HX hm0 hC0 hb1 hsw ⊢
 have HM:=qhq hm0
 have HB1:=qhq hb1
 clear HC
 have HC:=qhq hC0
 clear hm0 hC0 hb1 e9
 refine (pickE_calls w0 g cv code c 6 _ HR.out hg HB1.out HC.out (by omega) (by omega)).mono ?_;rintro e w1 ⟨n0,c1,rfl,hn0,hC,hc1,hm⟩
 have hn0:n0 ≤ 5:=by omega
 clear HC
 have HC:=qhq hC
 replace HX:=qhq (HX.out.mv hm (by decide))
 replace HM:=qhq (HM.out.trans hm)
 have hbb:=bl_trans9 HB1.out (bl_low9 hm.bl hg)
 replace HB1:=qhq hbb
 replace hsw:=Nat.lt_of_lt_of_le hsw hm.bl.size
 clear hC hm hbb
 by_cases h0:n0=0
 ·subst h0
  go_wp2_with fail
  refine (pickE_calls w0 g cv code c1 4 _ HR.out hg HB1.out HC.out (by omega) (by omega)).mono ?_;rintro e w2 ⟨y1,c2,rfl,hy1,hC,hc2,hm⟩
  have hy1:y1 ≤ 3:=by omega
  clear HC
  have HC:=qhq hC
  replace HX:=qhq (HX.out.mv hm (by decide))
  replace HM:=qhq (HM.out.trans hm)
  have hbb:=bl_trans9 HB1.out (bl_low9 hm.bl hg)
  replace HB1:=qhq hbb
  replace hsw:=Nat.lt_of_lt_of_le hsw hm.bl.size
  clear hC hm hbb
  go_wp2_with fail
  refine (pickE_calls w0 g cv code c2 4 _ HR.out hg HB1.out HC.out (by omega) (by omega)).mono ?_;rintro e w3 ⟨y2,c3,rfl,hy2,hC,hc3,hm⟩
  have hy2:y2 ≤ 3:=by omega
  clear HC
  have HC:=qhq hC
  replace HX:=qhq (HX.out.mv hm (by decide))
  replace HM:=qhq (HM.out.trans hm)
  have hbb:=bl_trans9 HB1.out (bl_low9 hm.bl hg)
  replace HB1:=qhq hbb
  replace hsw:=Nat.lt_of_lt_of_le hsw hm.bl.size
  clear hC hm hbb
  have y0:=HX.out.cell (j:=0) (by omega)
  have y1':=HX.out.cell (j:=1) (by omega)
  have y2':=HX.out.cell (j:=2) (by omega)
  have y3':=HX.out.cell (j:=3) (by omega)
  have z0:=HX.out.free 0
  have z1:=HX.out.free 1
  have z2:=HX.out.free 2
  have z3:=HX.out.free 3
  simp only [stopF] at y0 y1' y2' y3'
  go_wp2_with fail
  have hX:=((((HX.out.set (j:=0) (by omega) (.int .i64 1)).set (j:=1) (by omega) (.int .i64 (y1:Int))).set (j:=2) (by omega) (.int .i64 (1 + (y2:Int)))).set (j:=3) (by omega) (.string ⟨#[]⟩))
  have hM:=((((HM.out.setNew (p:=⟨w.heap.size,0,none⟩) (by dsimp only;omega) (Nat.le_refl _) (.int .i64 1)).setNew (p:=⟨w.heap.size,1,none⟩) (by dsimp only;omega) (Nat.le_refl _) (.int .i64 (y1:Int))).setNew (p:=⟨w.heap.size,2,none⟩) (by dsimp only;omega) (Nat.le_refl _) (.int .i64 (1 + (y2:Int)))).setNew (p:=⟨w.heap.size,3,none⟩) (by dsimp only;omega) (Nat.le_refl _) (.string ⟨#[]⟩))
  have hU:=((((HC.out.blk.far (p:=⟨w.heap.size,0,none⟩) (by dsimp only;omega) (.int .i64 1)).far (p:=⟨w.heap.size,1,none⟩) (by dsimp only;omega) (.int .i64 (y1:Int))).far (p:=⟨w.heap.size,2,none⟩) (by dsimp only;omega) (.int .i64 (1 + (y2:Int)))).far (p:=⟨w.heap.size,3,none⟩) (by dsimp only;omega) (.string ⟨#[]⟩))
  generalize World.setCell (World.setCell (World.setCell (World.setCell w3 _ _) _ _) _ _) _ _=W9 at hX hM hU ⊢
  have x0:W9.cell? ⟨w.heap.size,0,none⟩=some (.int .i64 1):=hX.cell (j:=0) (by omega)
  have x1:W9.cell? ⟨w.heap.size,1,none⟩=some (.int .i64 (y1:Int)):=hX.cell (j:=1) (by omega)
  have x2:W9.cell? ⟨w.heap.size,2,none⟩=some (.int .i64 (1 + (y2:Int))):=hX.cell (j:=2) (by omega)
  have x3:W9.cell? ⟨w.heap.size,3,none⟩=some (.string ⟨#[]⟩):=hX.cell (j:=3) (by omega)
  exact bodyPost_ret (v:=stopV ⟨1,(y1:Int),(1 + (y2:Int)),eT⟩) (by simp [results,Tryz.results85,go_sem,stopV,eT,x0,x1,x2,x3]) rfl ⟨_,_,rfl,by exact Nat.zero_le 1,⟨hU,HC.out.sd⟩,by omega,hM⟩
 by_cases h1:n0=1
 ·subst h1
  go_wp2_with fail
  refine (pickE_calls w0 g cv code c1 4 _ HR.out hg HB1.out HC.out (by omega) (by omega)).mono ?_;rintro e w2 ⟨y1,c2,rfl,hy1,hC,hc2,hm⟩
  have hy1:y1 ≤ 3:=by omega
  clear HC
  have HC:=qhq hC
  replace HX:=qhq (HX.out.mv hm (by decide))
  replace HM:=qhq (HM.out.trans hm)
  have hbb:=bl_trans9 HB1.out (bl_low9 hm.bl hg)
  replace HB1:=qhq hbb
  replace hsw:=Nat.lt_of_lt_of_le hsw hm.bl.size
  clear hC hm hbb
  go_wp2_with fail
  refine (pickE_calls w0 g cv code c2 4 _ HR.out hg HB1.out HC.out (by omega) (by omega)).mono ?_;rintro e w3 ⟨y2,c3,rfl,hy2,hC,hc3,hm⟩
  have hy2:y2 ≤ 3:=by omega
  clear HC
  have HC:=qhq hC
  replace HX:=qhq (HX.out.mv hm (by decide))
  replace HM:=qhq (HM.out.trans hm)
  have hbb:=bl_trans9 HB1.out (bl_low9 hm.bl hg)
  replace HB1:=qhq hbb
  replace hsw:=Nat.lt_of_lt_of_le hsw hm.bl.size
  clear hC hm hbb
  have y0:=HX.out.cell (j:=0) (by omega)
  have y1':=HX.out.cell (j:=1) (by omega)
  have y2':=HX.out.cell (j:=2) (by omega)
  have y3':=HX.out.cell (j:=3) (by omega)
  have z0:=HX.out.free 0
  have z1:=HX.out.free 1
  have z2:=HX.out.free 2
  have z3:=HX.out.free 3
  simp only [stopF] at y0 y1' y2' y3'
  go_wp2_with fail
  have hX:=((((HX.out.set (j:=0) (by omega) (.int .i64 1)).set (j:=1) (by omega) (.int .i64 (y1:Int))).set (j:=2) (by omega) (.int .i64 (1 + (y2:Int)))).set (j:=3) (by omega) (.string ⟨#[]⟩))
  have hM:=((((HM.out.setNew (p:=⟨w.heap.size,0,none⟩) (by dsimp only;omega) (Nat.le_refl _) (.int .i64 1)).setNew (p:=⟨w.heap.size,1,none⟩) (by dsimp only;omega) (Nat.le_refl _) (.int .i64 (y1:Int))).setNew (p:=⟨w.heap.size,2,none⟩) (by dsimp only;omega) (Nat.le_refl _) (.int .i64 (1 + (y2:Int)))).setNew (p:=⟨w.heap.size,3,none⟩) (by dsimp only;omega) (Nat.le_refl _) (.string ⟨#[]⟩))
  have hU:=((((HC.out.blk.far (p:=⟨w.heap.size,0,none⟩) (by dsimp only;omega) (.int .i64 1)).far (p:=⟨w.heap.size,1,none⟩) (by dsimp only;omega) (.int .i64 (y1:Int))).far (p:=⟨w.heap.size,2,none⟩) (by dsimp only;omega) (.int .i64 (1 + (y2:Int)))).far (p:=⟨w.heap.size,3,none⟩) (by dsimp only;omega) (.string ⟨#[]⟩))
  generalize World.setCell (World.setCell (World.setCell (World.setCell w3 _ _) _ _) _ _) _ _=W9 at hX hM hU ⊢
  have x0:W9.cell? ⟨w.heap.size,0,none⟩=some (.int .i64 1):=hX.cell (j:=0) (by omega)
  have x1:W9.cell? ⟨w.heap.size,1,none⟩=some (.int .i64 (y1:Int)):=hX.cell (j:=1) (by omega)
  have x2:W9.cell? ⟨w.heap.size,2,none⟩=some (.int .i64 (1 + (y2:Int))):=hX.cell (j:=2) (by omega)
  have x3:W9.cell? ⟨w.heap.size,3,none⟩=some (.string ⟨#[]⟩):=hX.cell (j:=3) (by omega)
  exact bodyPost_ret (v:=stopV ⟨1,(y1:Int),(1 + (y2:Int)),eT⟩) (by simp [results,Tryz.results85,go_sem,stopV,eT,x0,x1,x2,x3]) rfl ⟨_,_,rfl,by exact Nat.zero_le 1,⟨hU,HC.out.sd⟩,by omega,hM⟩
 by_cases h2:n0=2
 ·subst h2
  go_wp2_with fail
  refine (pickE_calls w0 g cv code c1 4 _ HR.out hg HB1.out HC.out (by omega) (by omega)).mono ?_;rintro e w2 ⟨y1,c2,rfl,hy1,hC,hc2,hm⟩
  have hy1:y1 ≤ 3:=by omega
  clear HC
  have HC:=qhq hC
  replace HX:=qhq (HX.out.mv hm (by decide))
  replace HM:=qhq (HM.out.trans hm)
  have hbb:=bl_trans9 HB1.out (bl_low9 hm.bl hg)
  replace HB1:=qhq hbb
  replace hsw:=Nat.lt_of_lt_of_le hsw hm.bl.size
  clear hC hm hbb
  have y0:=HX.out.cell (j:=0) (by omega)
  have y1':=HX.out.cell (j:=1) (by omega)
  have y2':=HX.out.cell (j:=2) (by omega)
  have y3':=HX.out.cell (j:=3) (by omega)
  have z0:=HX.out.free 0
  have z1:=HX.out.free 1
  have z2:=HX.out.free 2
  have z3:=HX.out.free 3
  simp only [stopF] at y0 y1' y2' y3'
  go_wp2_with fail
  have hX:=((((HX.out.set (j:=0) (by omega) (.int .i64 2)).set (j:=1) (by omega) (.int .i64 (y1:Int))).set (j:=2) (by omega) (.int .i64 0)).set (j:=3) (by omega) (.string ⟨#[]⟩))
  have hM:=((((HM.out.setNew (p:=⟨w.heap.size,0,none⟩) (by dsimp only;omega) (Nat.le_refl _) (.int .i64 2)).setNew (p:=⟨w.heap.size,1,none⟩) (by dsimp only;omega) (Nat.le_refl _) (.int .i64 (y1:Int))).setNew (p:=⟨w.heap.size,2,none⟩) (by dsimp only;omega) (Nat.le_refl _) (.int .i64 0)).setNew (p:=⟨w.heap.size,3,none⟩) (by dsimp only;omega) (Nat.le_refl _) (.string ⟨#[]⟩))
  have hU:=((((HC.out.blk.far (p:=⟨w.heap.size,0,none⟩) (by dsimp only;omega) (.int .i64 2)).far (p:=⟨w.heap.size,1,none⟩) (by dsimp only;omega) (.int .i64 (y1:Int))).far (p:=⟨w.heap.size,2,none⟩) (by dsimp only;omega) (.int .i64 0)).far (p:=⟨w.heap.size,3,none⟩) (by dsimp only;omega) (.string ⟨#[]⟩))
  generalize World.setCell (World.setCell (World.setCell (World.setCell w2 _ _) _ _) _ _) _ _=W9 at hX hM hU ⊢
  have x0:W9.cell? ⟨w.heap.size,0,none⟩=some (.int .i64 2):=hX.cell (j:=0) (by omega)
  have x1:W9.cell? ⟨w.heap.size,1,none⟩=some (.int .i64 (y1:Int)):=hX.cell (j:=1) (by omega)
  have x2:W9.cell? ⟨w.heap.size,2,none⟩=some (.int .i64 0):=hX.cell (j:=2) (by omega)
  have x3:W9.cell? ⟨w.heap.size,3,none⟩=some (.string ⟨#[]⟩):=hX.cell (j:=3) (by omega)
  exact bodyPost_ret (v:=stopV ⟨2,(y1:Int),0,eT⟩) (by simp [results,Tryz.results85,go_sem,stopV,eT,x0,x1,x2,x3]) rfl ⟨_,_,rfl,by exact Nat.zero_le 1,⟨hU,HC.out.sd⟩,by omega,hM⟩
 by_cases h3:n0=3
 ·subst h3
  go_wp2_with fail
  refine (pickE_calls w0 g cv code c1 4 _ HR.out hg HB1.out HC.out (by omega) (by omega)).mono ?_;rintro e w2 ⟨y1,c2,rfl,hy1,hC,hc2,hm⟩
  have hy1:y1 ≤ 3:=by omega
  clear HC
  have HC:=qhq hC
  replace HX:=qhq (HX.out.mv hm (by decide))
  replace HM:=qhq (HM.out.trans hm)
  have hbb:=bl_trans9 HB1.out (bl_low9 hm.bl hg)
  replace HB1:=qhq hbb
  replace hsw:=Nat.lt_of_lt_of_le hsw hm.bl.size
  clear hC hm hbb
  go_wp2_with fail
  refine (pickE_calls w0 g cv code c2 3 _ HR.out hg HB1.out HC.out (by omega) (by omega)).mono ?_;rintro e w3 ⟨y2,c3,rfl,hy2,hC,hc3,hm⟩
  have hy2:y2 ≤ 2:=by omega
  clear HC
  have HC:=qhq hC
  replace HX:=qhq (HX.out.mv hm (by decide))
  replace HM:=qhq (HM.out.trans hm)
  have hbb:=bl_trans9 HB1.out (bl_low9 hm.bl hg)
  replace HB1:=qhq hbb
  replace hsw:=Nat.lt_of_lt_of_le hsw hm.bl.size
  clear hC hm hbb
  have y0:=HX.out.cell (j:=0) (by omega)
  have y1':=HX.out.cell (j:=1) (by omega)
  have y2':=HX.out.cell (j:=2) (by omega)
  have y3':=HX.out.cell (j:=3) (by omega)
  have z0:=HX.out.free 0
  have z1:=HX.out.free 1
  have z2:=HX.out.free 2
  have z3:=HX.out.free 3
  simp only [stopF] at y0 y1' y2' y3'
  have hcv:∀ (y:Int) (W:World),(convert 22 9 (.slice (some ⟨W.heap.size,0,none⟩) 1 1)).run Tryz.prog (W.alloc (.cells #[.int .u8 y] 5))=.ok (.string (strOfNums [y])) (W.alloc (.cells #[.int .u8 y] 5)):=fun y W=>conv_byte _ _ y (ByB.new W y).cell
  go_wp2_with fail
  rw [chr_nums (97 + y2) (by omega)]
  have hX:=((((HX.out.set (j:=0) (by omega) (.int .i64 3)).set (j:=1) (by omega) (.int .i64 (y1:Int))).set (j:=2) (by omega) (.int .i64 0)).set (j:=3) (by omega) (.string (chr1 (97 + y2))))
  have hM:=((((HM.out.setNew (p:=⟨w.heap.size,0,none⟩) (by dsimp only;omega) (Nat.le_refl _) (.int .i64 3)).setNew (p:=⟨w.heap.size,1,none⟩) (by dsimp only;omega) (Nat.le_refl _) (.int .i64 (y1:Int))).setNew (p:=⟨w.heap.size,2,none⟩) (by dsimp only;omega) (Nat.le_refl _) (.int .i64 0)).setNew (p:=⟨w.heap.size,3,none⟩) (by dsimp only;omega) (Nat.le_refl _) (.string (chr1 (97 + y2))))
  have hU:=((((HC.out.blk.far (p:=⟨w.heap.size,0,none⟩) (by dsimp only;omega) (.int .i64 3)).far (p:=⟨w.heap.size,1,none⟩) (by dsimp only;omega) (.int .i64 (y1:Int))).far (p:=⟨w.heap.size,2,none⟩) (by dsimp only;omega) (.int .i64 0)).far (p:=⟨w.heap.size,3,none⟩) (by dsimp only;omega) (.string (chr1 (97 + y2))))
  replace hX:=hX.alloc (.cells #[.int .u8 (97 + (y2:Int))] 5)
  replace hU:=hU.alloc (.cells #[.int .u8 (97 + (y2:Int))] 5)
  replace hM:=hM.alloc (by simp only [World.size_setCell];omega) (.cells #[.int .u8 (97 + (y2:Int))] 5)
  generalize World.alloc (World.setCell (World.setCell (World.setCell (World.setCell w3 _ _) _ _) _ _) _ _) _=W9 at hX hM hU ⊢
  have x0:W9.cell? ⟨w.heap.size,0,none⟩=some (.int .i64 3):=hX.cell (j:=0) (by omega)
  have x1:W9.cell? ⟨w.heap.size,1,none⟩=some (.int .i64 (y1:Int)):=hX.cell (j:=1) (by omega)
  have x2:W9.cell? ⟨w.heap.size,2,none⟩=some (.int .i64 0):=hX.cell (j:=2) (by omega)
  have x3:W9.cell? ⟨w.heap.size,3,none⟩=some (.string (chr1 (97 + y2))):=hX.cell (j:=3) (by omega)
  exact bodyPost_ret (v:=stopV ⟨3,(y1:Int),0,(chr1 (97 + y2))⟩) (by simp [results,Tryz.results85,go_sem,stopV,x0,x1,x2,x3]) rfl ⟨_,_,rfl,by exact Nat.le_refl 1,⟨hU,HC.out.sd⟩,by omega,hM⟩
 by_cases h4:n0=4
 ·subst h4
  go_wp2_with fail
  refine (pickE_calls w0 g cv code c1 4 _ HR.out hg HB1.out HC.out (by omega) (by omega)).mono ?_;rintro e w2 ⟨y1,c2,rfl,hy1,hC,hc2,hm⟩
  have hy1:y1 ≤ 3:=by omega
  clear HC
  have HC:=qhq hC
  replace HX:=qhq (HX.out.mv hm (by decide))
  replace HM:=qhq (HM.out.trans hm)
  have hbb:=bl_trans9 HB1.out (bl_low9 hm.bl hg)
  replace HB1:=qhq hbb
  replace hsw:=Nat.lt_of_lt_of_le hsw hm.bl.size
  clear hC hm hbb
  go_wp2_with fail
  refine (pickE_calls w0 g cv code c2 3 _ HR.out hg HB1.out HC.out (by omega) (by omega)).mono ?_;rintro e w3 ⟨y2,c3,rfl,hy2,hC,hc3,hm⟩
  have hy2:y2 ≤ 2:=by omega
  clear HC
  have HC:=qhq hC
  replace HX:=qhq (HX.out.mv hm (by decide))
  replace HM:=qhq (HM.out.trans hm)
  have hbb:=bl_trans9 HB1.out (bl_low9 hm.bl hg)
  replace HB1:=qhq hbb
  replace hsw:=Nat.lt_of_lt_of_le hsw hm.bl.size
  clear hC hm hbb
  have y0:=HX.out.cell (j:=0) (by omega)
  have y1':=HX.out.cell (j:=1) (by omega)
  have y2':=HX.out.cell (j:=2) (by omega)
  have y3':=HX.out.cell (j:=3) (by omega)
  have z0:=HX.out.free 0
  have z1:=HX.out.free 1
  have z2:=HX.out.free 2
  have z3:=HX.out.free 3
  simp only [stopF] at y0 y1' y2' y3'
  have hcv:∀ (y:Int) (W:World),(convert 22 9 (.slice (some ⟨W.heap.size,0,none⟩) 1 1)).run Tryz.prog (W.alloc (.cells #[.int .u8 y] 5))=.ok (.string (strOfNums [y])) (W.alloc (.cells #[.int .u8 y] 5)):=fun y W=>conv_byte _ _ y (ByB.new W y).cell
  go_wp2_with fail
  rw [chr_nums (97 + y2) (by omega)]
  have hX:=((((HX.out.set (j:=0) (by omega) (.int .i64 3)).set (j:=1) (by omega) (.int .i64 (y1:Int))).set (j:=2) (by omega) (.int .i64 0)).set (j:=3) (by omega) (.string (chr1 (97 + y2))))
  have hM:=((((HM.out.setNew (p:=⟨w.heap.size,0,none⟩) (by dsimp only;omega) (Nat.le_refl _) (.int .i64 3)).setNew (p:=⟨w.heap.size,1,none⟩) (by dsimp only;omega) (Nat.le_refl _) (.int .i64 (y1:Int))).setNew (p:=⟨w.heap.size,2,none⟩) (by dsimp only;omega) (Nat.le_refl _) (.int .i64 0)).setNew (p:=⟨w.heap.size,3,none⟩) (by dsimp only;omega) (Nat.le_refl _) (.string (chr1 (97 + y2))))
  have hU:=((((HC.out.blk.far (p:=⟨w.heap.size,0,none⟩) (by dsimp only;omega) (.int .i64 3)).far (p:=⟨w.heap.size,1,none⟩) (by dsimp only;omega) (.int .i64 (y1:Int))).far (p:=⟨w.heap.size,2,none⟩) (by dsimp only;omega) (.int .i64 0)).far (p:=⟨w.heap.size,3,none⟩) (by dsimp only;omega) (.string (chr1 (97 + y2))))
  replace hX:=hX.alloc (.cells #[.int .u8 (97 + (y2:Int))] 5)
  replace hU:=hU.alloc (.cells #[.int .u8 (97 + (y2:Int))] 5)
  replace hM:=hM.alloc (by simp only [World.size_setCell];omega) (.cells #[.int .u8 (97 + (y2:Int))] 5)
  generalize World.alloc (World.setCell (World.setCell (World.setCell (World.setCell w3 _ _) _ _) _ _) _ _) _=W9 at hX hM hU ⊢
  have x0:W9.cell? ⟨w.heap.size,0,none⟩=some (.int .i64 3):=hX.cell (j:=0) (by omega)
  have x1:W9.cell? ⟨w.heap.size,1,none⟩=some (.int .i64 (y1:Int)):=hX.cell (j:=1) (by omega)
  have x2:W9.cell? ⟨w.heap.size,2,none⟩=some (.int .i64 0):=hX.cell (j:=2) (by omega)
  have x3:W9.cell? ⟨w.heap.size,3,none⟩=some (.string (chr1 (97 + y2))):=hX.cell (j:=3) (by omega)
  exact bodyPost_ret (v:=stopV ⟨3,(y1:Int),0,(chr1 (97 + y2))⟩) (by simp [results,Tryz.results85,go_sem,stopV,x0,x1,x2,x3]) rfl ⟨_,_,rfl,by exact Nat.le_refl 1,⟨hU,HC.out.sd⟩,by omega,hM⟩
 have h5:n0=5:=by omega
 subst h5
 have y0:=HX.out.cell (j:=0) (by omega)
 have y1':=HX.out.cell (j:=1) (by omega)
 have y2':=HX.out.cell (j:=2) (by omega)
 have y3':=HX.out.cell (j:=3) (by omega)
 have z0:=HX.out.free 0
 have z1:=HX.out.free 1
 have z2:=HX.out.free 2
 have z3:=HX.out.free 3
 simp only [stopF] at y0 y1' y2' y3'
 go_wp2_with fail
 have hX:=((((HX.out.set (j:=0) (by omega) (.int .i64 4)).set (j:=1) (by omega) (.int .i64 0)).set (j:=2) (by omega) (.int .i64 0)).set (j:=3) (by omega) (.string ⟨#[]⟩))
 have hM:=((((HM.out.setNew (p:=⟨w.heap.size,0,none⟩) (by dsimp only;omega) (Nat.le_refl _) (.int .i64 4)).setNew (p:=⟨w.heap.size,1,none⟩) (by dsimp only;omega) (Nat.le_refl _) (.int .i64 0)).setNew (p:=⟨w.heap.size,2,none⟩) (by dsimp only;omega) (Nat.le_refl _) (.int .i64 0)).setNew (p:=⟨w.heap.size,3,none⟩) (by dsimp only;omega) (Nat.le_refl _) (.string ⟨#[]⟩))
 have hU:=((((HC.out.blk.far (p:=⟨w.heap.size,0,none⟩) (by dsimp only;omega) (.int .i64 4)).far (p:=⟨w.heap.size,1,none⟩) (by dsimp only;omega) (.int .i64 0)).far (p:=⟨w.heap.size,2,none⟩) (by dsimp only;omega) (.int .i64 0)).far (p:=⟨w.heap.size,3,none⟩) (by dsimp only;omega) (.string ⟨#[]⟩))
 generalize World.setCell (World.setCell (World.setCell (World.setCell w1 _ _) _ _) _ _) _ _=W9 at hX hM hU ⊢
 have x0:W9.cell? ⟨w.heap.size,0,none⟩=some (.int .i64 4):=hX.cell (j:=0) (by omega)
 have x1:W9.cell? ⟨w.heap.size,1,none⟩=some (.int .i64 0):=hX.cell (j:=1) (by omega)
 have x2:W9.cell? ⟨w.heap.size,2,none⟩=some (.int .i64 0):=hX.cell (j:=2) (by omega)
 have x3:W9.cell? ⟨w.heap.size,3,none⟩=some (.string ⟨#[]⟩):=hX.cell (j:=3) (by omega)
 exact bodyPost_ret (v:=stopV ⟨4,0,0,eT⟩) (by simp [results,Tryz.results85,go_sem,stopV,eT,x0,x1,x2,x3]) rfl ⟨_,_,rfl,by exact Nat.zero_le 1,⟨hU,HC.out.sd⟩,by omega,hM⟩
set_option maxRecDepth 100000 in
set_option maxHeartbeats 4000000 in
theorem oddE_calls (w0:World) (g:Nat) (cv:Value) (code:List Nat) (c:Cu) (w:World) (hr:RdBytes w0 cv code) (hg:w0.heap.size ≤ g) (hb0:Below w0.heap.size w0 w) (h:CuAt w g cv c) (hp:c.pos ≤ 500000000000000000) :
  Calls Tryz.prog 87 #[.pointer (some ⟨g,0,none⟩)] w (StE g cv c 12 w):=by
 have HR:=qhq hr
 have HC:=qhq h
 have HB0:=qhq hb0
 have hgw:g < w.heap.size:=h.blk.lt
 clear h hr hb0
 go_enter Tryz.func87,Tryz.ntmps87
 go_wp2_with fail
 have HX:=qhq (sbox_new w)
 have hm0:=(Mv.refl [72] g w).alloc (by omega) (.cells #[.int .i64 0,.int .i64 0,.int .i64 0,.string eT] 45)
 have hC0:=HC.out.later (qaq (qrq _ w) (.cells #[.int .i64 0,.int .i64 0,.int .i64 0,.string eT] 45))
 have hb1:=qaq HB0.out (.cells #[.int .i64 0,.int .i64 0,.int .i64 0,.string eT] 45)
 have hsw:w.heap.size < (w.alloc (.cells #[.int .i64 0,.int .i64 0,.int .i64 0,.string eT] 45)).heap.size:=by simp
 have e9:(Value.string eT)=.string ⟨#[]⟩:=rfl
 rw [e9] at HX hm0 hC0 hb1 hsw
 generalize World.alloc w _=W at HX hm0 hC0 hb1 hsw ⊢
 have HM:=qhq hm0
 have HB1:=qhq hb1
 clear HC
 have HC:=qhq hC0
 clear hm0 hC0 hb1 e9
 refine (stopE_calls w0 g cv code c _ HR.out hg HB1.out HC.out (by omega)).mono ?_;rintro e w1 ⟨p,c1,rfl,hpn,hC,hc1,hm⟩
 clear HC
 have HC:=qhq hC
 replace HX:=qhq (HX.out.mv hm (by decide))
 replace HM:=qhq (HM.out.trans hm)
 have hbb:=bl_trans9 HB1.out (bl_low9 hm.bl hg)
 replace HB1:=qhq hbb
 replace hsw:=Nat.lt_of_lt_of_le hsw hm.bl.size
 clear hC hm hbb
 unfold stopV
 go_upto_region 2 with fail
 have hY:Blk (w1.alloc (.cells #[.int .i64 p.kind,.int .i64 p.fn,.int .i64 p.line,.string p.nm] 45)) w1.heap.size 45 4 (stopF p):=(Blk.made w1 #[.int .i64 p.kind,.int .i64 p.fn,.int .i64 p.line,.string p.nm] 45).congr (f':=stopF p) fun j hj=>by
  have hj:j < 4:=hj
  match j,hj with | 0,_=>rfl | 1,_=>rfl | 2,_=>rfl | 3,_=>rfl
 have hba:Below w1.heap.size w1 (w1.alloc (.cells #[.int .i64 p.kind,.int .i64 p.fn,.int .i64 p.line,.string p.nm] 45)):=qaq (qrq _ _) _
 have hgl:g ≤ w1.heap.size:=by have:=HC.out.blk.lt;omega
 obtain ⟨sb,hsb⟩:∃ b,w1.heap.size=b:=⟨_,rfl⟩
 replace HX:=qhq (HX.out.later hba)
 replace HC:=qhq (HC.out.later hba)
 replace HM:=qhq (HM.out.trans (Mv.of_below hba hgl))
 replace HB1:=qhq (qtq HB1.out hba)
 generalize World.alloc w1 _=W1 at hY hba HX HC HM HB1 ⊢
 rw [hsb] at hsw hY hgl ⊢
 have HY:=qhq hY
 have hsb1:sb < W1.heap.size:=hY.lt
 clear hY hba hsb
 go_wp2_with fail
 refine (pickE_calls w0 g cv code c1 4 _ HR.out hg HB1.out HC.out (by omega) (by omega)).mono ?_;rintro e w2 ⟨n0,c2,rfl,hn0,hC,hc2,hm⟩
 have hn0:n0 ≤ 3:=by omega
 clear HC
 have HC:=qhq hC
 replace HX:=qhq (HX.out.mv hm (by decide))
 replace HM:=qhq (HM.out.trans hm)
 have hbb:=bl_trans9 HB1.out (bl_low9 hm.bl hg)
 replace HB1:=qhq hbb
 replace HY:=qhq (HY.out.mv hm (by decide))
 replace hsb1:=Nat.lt_of_lt_of_le hsb1 hm.bl.size
 clear hC hm hbb
 by_cases h0:n0=0
 ·subst h0
  go_wp2_with fail
  refine (pickE_calls w0 g cv code c2 6 _ HR.out hg HB1.out HC.out (by omega) (by omega)).mono ?_;rintro e w3 ⟨y1,c3,rfl,hy1,hC,hc3,hm⟩
  have hy1:y1 ≤ 5:=by omega
  clear HC
  have HC:=qhq hC
  replace HX:=qhq (HX.out.mv hm (by decide))
  replace HM:=qhq (HM.out.trans hm)
  have hbb:=bl_trans9 HB1.out (bl_low9 hm.bl hg)
  replace HB1:=qhq hbb
  replace HY:=qhq (HY.out.mv hm (by decide))
  replace hsb1:=Nat.lt_of_lt_of_le hsb1 hm.bl.size
  clear hC hm hbb
  have q0:=HY.out.cell (j:=0) (by omega)
  have qf:=HY.out.free 0
  simp only [stopF] at q0
  go_upto_region 10 with fail
  have hY:=(HY.out.set (j:=0) (by omega) (.int .i64 (y1:Int))).congr (f':=stopF ⟨y1,p.fn,p.line,p.nm⟩) fun j hj=>by match j,hj with | 0,_=>rfl | 1,_=>rfl | 2,_=>rfl | 3,_=>rfl
  have hX:=HX.out.far (p:=⟨sb,0,none⟩) (by dsimp only;omega) (.int .i64 (y1:Int))
  have hM:=HM.out.setNew (p:=⟨sb,0,none⟩) hgl (by dsimp only;omega) (.int .i64 (y1:Int))
  have hU:=HC.out.blk.far (p:=⟨sb,0,none⟩) (by have:=HC.out.blk.lt;dsimp only;omega) (.int .i64 (y1:Int))
  have hsz:(w3.setCell ⟨sb,0,none⟩ (.int .i64 (y1:Int))).heap.size=w3.heap.size:=World.size_setCell _ _ _
  generalize World.setCell w3 _ _=W5 at hY hX hM hU hsz ⊢
  clear q0 qf
  have r0:=hY.cell (j:=0) (by omega)
  have r1:=hY.cell (j:=1) (by omega)
  have r2:=hY.cell (j:=2) (by omega)
  have r3:=hY.cell (j:=3) (by omega)
  simp only [stopF] at r0 r1 r2 r3
  have y0:=hX.cell (j:=0) (by omega)
  have y1':=hX.cell (j:=1) (by omega)
  have y2':=hX.cell (j:=2) (by omega)
  have y3':=hX.cell (j:=3) (by omega)
  have z0:=hX.free 0
  have z1:=hX.free 1
  have z2:=hX.free 2
  have z3:=hX.free 3
  simp only [stopF] at y0 y1' y2' y3'
  go_wp2_with fail
  have hX9:=((((hX.set (j:=0) (by omega) (.int .i64 (y1:Int))).set (j:=1) (by omega) (.int .i64 p.fn)).set (j:=2) (by omega) (.int .i64 p.line)).set (j:=3) (by omega) (.string p.nm))
  have hM9:=((((hM.setNew (p:=⟨w.heap.size,0,none⟩) (by dsimp only;omega) (Nat.le_refl _) (.int .i64 (y1:Int))).setNew (p:=⟨w.heap.size,1,none⟩) (by dsimp only;omega) (Nat.le_refl _) (.int .i64 p.fn)).setNew (p:=⟨w.heap.size,2,none⟩) (by dsimp only;omega) (Nat.le_refl _) (.int .i64 p.line)).setNew (p:=⟨w.heap.size,3,none⟩) (by dsimp only;omega) (Nat.le_refl _) (.string p.nm))
  have hU9:=((((hU.far (p:=⟨w.heap.size,0,none⟩) (by dsimp only;omega) (.int .i64 (y1:Int))).far (p:=⟨w.heap.size,1,none⟩) (by dsimp only;omega) (.int .i64 p.fn)).far (p:=⟨w.heap.size,2,none⟩) (by dsimp only;omega) (.int .i64 p.line)).far (p:=⟨w.heap.size,3,none⟩) (by dsimp only;omega) (.string p.nm))
  generalize World.setCell (World.setCell (World.setCell (World.setCell W5 _ _) _ _) _ _) _ _=W9 at hX9 hM9 hU9 ⊢
  have x0:W9.cell? ⟨w.heap.size,0,none⟩=some (.int .i64 (y1:Int)):=hX9.cell (j:=0) (by omega)
  have x1:W9.cell? ⟨w.heap.size,1,none⟩=some (.int .i64 p.fn):=hX9.cell (j:=1) (by omega)
  have x2:W9.cell? ⟨w.heap.size,2,none⟩=some (.int .i64 p.line):=hX9.cell (j:=2) (by omega)
  have x3:W9.cell? ⟨w.heap.size,3,none⟩=some (.string p.nm):=hX9.cell (j:=3) (by omega)
  exact bodyPost_ret (v:=stopV ⟨y1,p.fn,p.line,p.nm⟩) (by simp [results,Tryz.results87,go_sem,stopV,x0,x1,x2,x3]) rfl ⟨_,_,rfl,by exact hpn,⟨hU9,HC.out.sd⟩,by omega,hM9⟩
 by_cases h1:n0=1
 ·subst h1
  go_wp2_with fail
  refine (pickE_calls w0 g cv code c2 2 _ HR.out hg HB1.out HC.out (by omega) (by omega)).mono ?_;rintro e w3 ⟨y1,c3,rfl,hy1,hC,hc3,hm⟩
  have hy1:y1 ≤ 1:=by omega
  clear HC
  have HC:=qhq hC
  replace HX:=qhq (HX.out.mv hm (by decide))
  replace HM:=qhq (HM.out.trans hm)
  have hbb:=bl_trans9 HB1.out (bl_low9 hm.bl hg)
  replace HB1:=qhq hbb
  replace HY:=qhq (HY.out.mv hm (by decide))
  replace hsb1:=Nat.lt_of_lt_of_le hsb1 hm.bl.size
  clear hC hm hbb
  have q1:=HY.out.cell (j:=1) (by omega)
  have qf:=HY.out.free 1
  simp only [stopF] at q1
  go_upto_region 10 with fail
  have hY:=(HY.out.set (j:=1) (by omega) (.int .i64 (300 - (y1:Int)))).congr (f':=stopF ⟨p.kind,300 - (y1:Int),p.line,p.nm⟩) fun j hj=>by match j,hj with | 0,_=>rfl | 1,_=>rfl | 2,_=>rfl | 3,_=>rfl
  have hX:=HX.out.far (p:=⟨sb,1,none⟩) (by dsimp only;omega) (.int .i64 (300 - (y1:Int)))
  have hM:=HM.out.setNew (p:=⟨sb,1,none⟩) hgl (by dsimp only;omega) (.int .i64 (300 - (y1:Int)))
  have hU:=HC.out.blk.far (p:=⟨sb,1,none⟩) (by have:=HC.out.blk.lt;dsimp only;omega) (.int .i64 (300 - (y1:Int)))
  have hsz:(w3.setCell ⟨sb,1,none⟩ (.int .i64 (300 - (y1:Int)))).heap.size=w3.heap.size:=World.size_setCell _ _ _
  generalize World.setCell w3 _ _=W5 at hY hX hM hU hsz ⊢
  clear q1 qf
  have r0:=hY.cell (j:=0) (by omega)
  have r1:=hY.cell (j:=1) (by omega)
  have r2:=hY.cell (j:=2) (by omega)
  have r3:=hY.cell (j:=3) (by omega)
  simp only [stopF] at r0 r1 r2 r3
  have y0:=hX.cell (j:=0) (by omega)
  have y1':=hX.cell (j:=1) (by omega)
  have y2':=hX.cell (j:=2) (by omega)
  have y3':=hX.cell (j:=3) (by omega)
  have z0:=hX.free 0
  have z1:=hX.free 1
  have z2:=hX.free 2
  have z3:=hX.free 3
  simp only [stopF] at y0 y1' y2' y3'
  go_wp2_with fail
  have hX9:=((((hX.set (j:=0) (by omega) (.int .i64 p.kind)).set (j:=1) (by omega) (.int .i64 (300 - (y1:Int)))).set (j:=2) (by omega) (.int .i64 p.line)).set (j:=3) (by omega) (.string p.nm))
  have hM9:=((((hM.setNew (p:=⟨w.heap.size,0,none⟩) (by dsimp only;omega) (Nat.le_refl _) (.int .i64 p.kind)).setNew (p:=⟨w.heap.size,1,none⟩) (by dsimp only;omega) (Nat.le_refl _) (.int .i64 (300 - (y1:Int)))).setNew (p:=⟨w.heap.size,2,none⟩) (by dsimp only;omega) (Nat.le_refl _) (.int .i64 p.line)).setNew (p:=⟨w.heap.size,3,none⟩) (by dsimp only;omega) (Nat.le_refl _) (.string p.nm))
  have hU9:=((((hU.far (p:=⟨w.heap.size,0,none⟩) (by dsimp only;omega) (.int .i64 p.kind)).far (p:=⟨w.heap.size,1,none⟩) (by dsimp only;omega) (.int .i64 (300 - (y1:Int)))).far (p:=⟨w.heap.size,2,none⟩) (by dsimp only;omega) (.int .i64 p.line)).far (p:=⟨w.heap.size,3,none⟩) (by dsimp only;omega) (.string p.nm))
  generalize World.setCell (World.setCell (World.setCell (World.setCell W5 _ _) _ _) _ _) _ _=W9 at hX9 hM9 hU9 ⊢
  have x0:W9.cell? ⟨w.heap.size,0,none⟩=some (.int .i64 p.kind):=hX9.cell (j:=0) (by omega)
  have x1:W9.cell? ⟨w.heap.size,1,none⟩=some (.int .i64 (300 - (y1:Int))):=hX9.cell (j:=1) (by omega)
  have x2:W9.cell? ⟨w.heap.size,2,none⟩=some (.int .i64 p.line):=hX9.cell (j:=2) (by omega)
  have x3:W9.cell? ⟨w.heap.size,3,none⟩=some (.string p.nm):=hX9.cell (j:=3) (by omega)
  exact bodyPost_ret (v:=stopV ⟨p.kind,300 - (y1:Int),p.line,p.nm⟩) (by simp [results,Tryz.results87,go_sem,stopV,x0,x1,x2,x3]) rfl ⟨_,_,rfl,by exact hpn,⟨hU9,HC.out.sd⟩,by omega,hM9⟩
 by_cases h2:n0=2
 ·subst h2
  go_wp2_with fail
  refine (pickE_calls w0 g cv code c2 3 _ HR.out hg HB1.out HC.out (by omega) (by omega)).mono ?_;rintro e w3 ⟨y1,c3,rfl,hy1,hC,hc3,hm⟩
  have hy1:y1 ≤ 2:=by omega
  clear HC
  have HC:=qhq hC
  replace HX:=qhq (HX.out.mv hm (by decide))
  replace HM:=qhq (HM.out.trans hm)
  have hbb:=bl_trans9 HB1.out (bl_low9 hm.bl hg)
  replace HB1:=qhq hbb
  replace HY:=qhq (HY.out.mv hm (by decide))
  replace hsb1:=Nat.lt_of_lt_of_le hsb1 hm.bl.size
  clear hC hm hbb
  have q2:=HY.out.cell (j:=2) (by omega)
  have qf:=HY.out.free 2
  simp only [stopF] at q2
  go_upto_region 10 with fail
  have hY:=(HY.out.set (j:=2) (by omega) (.int .i64 (y1:Int))).congr (f':=stopF ⟨p.kind,p.fn,y1,p.nm⟩) fun j hj=>by match j,hj with | 0,_=>rfl | 1,_=>rfl | 2,_=>rfl | 3,_=>rfl
  have hX:=HX.out.far (p:=⟨sb,2,none⟩) (by dsimp only;omega) (.int .i64 (y1:Int))
  have hM:=HM.out.setNew (p:=⟨sb,2,none⟩) hgl (by dsimp only;omega) (.int .i64 (y1:Int))
  have hU:=HC.out.blk.far (p:=⟨sb,2,none⟩) (by have:=HC.out.blk.lt;dsimp only;omega) (.int .i64 (y1:Int))
  have hsz:(w3.setCell ⟨sb,2,none⟩ (.int .i64 (y1:Int))).heap.size=w3.heap.size:=World.size_setCell _ _ _
  generalize World.setCell w3 _ _=W5 at hY hX hM hU hsz ⊢
  clear q2 qf
  have r0:=hY.cell (j:=0) (by omega)
  have r1:=hY.cell (j:=1) (by omega)
  have r2:=hY.cell (j:=2) (by omega)
  have r3:=hY.cell (j:=3) (by omega)
  simp only [stopF] at r0 r1 r2 r3
  have y0:=hX.cell (j:=0) (by omega)
  have y1':=hX.cell (j:=1) (by omega)
  have y2':=hX.cell (j:=2) (by omega)
  have y3':=hX.cell (j:=3) (by omega)
  have z0:=hX.free 0
  have z1:=hX.free 1
  have z2:=hX.free 2
  have z3:=hX.free 3
  simp only [stopF] at y0 y1' y2' y3'
  go_wp2_with fail
  have hX9:=((((hX.set (j:=0) (by omega) (.int .i64 p.kind)).set (j:=1) (by omega) (.int .i64 p.fn)).set (j:=2) (by omega) (.int .i64 (y1:Int))).set (j:=3) (by omega) (.string p.nm))
  have hM9:=((((hM.setNew (p:=⟨w.heap.size,0,none⟩) (by dsimp only;omega) (Nat.le_refl _) (.int .i64 p.kind)).setNew (p:=⟨w.heap.size,1,none⟩) (by dsimp only;omega) (Nat.le_refl _) (.int .i64 p.fn)).setNew (p:=⟨w.heap.size,2,none⟩) (by dsimp only;omega) (Nat.le_refl _) (.int .i64 (y1:Int))).setNew (p:=⟨w.heap.size,3,none⟩) (by dsimp only;omega) (Nat.le_refl _) (.string p.nm))
  have hU9:=((((hU.far (p:=⟨w.heap.size,0,none⟩) (by dsimp only;omega) (.int .i64 p.kind)).far (p:=⟨w.heap.size,1,none⟩) (by dsimp only;omega) (.int .i64 p.fn)).far (p:=⟨w.heap.size,2,none⟩) (by dsimp only;omega) (.int .i64 (y1:Int))).far (p:=⟨w.heap.size,3,none⟩) (by dsimp only;omega) (.string p.nm))
  generalize World.setCell (World.setCell (World.setCell (World.setCell W5 _ _) _ _) _ _) _ _=W9 at hX9 hM9 hU9 ⊢
  have x0:W9.cell? ⟨w.heap.size,0,none⟩=some (.int .i64 p.kind):=hX9.cell (j:=0) (by omega)
  have x1:W9.cell? ⟨w.heap.size,1,none⟩=some (.int .i64 p.fn):=hX9.cell (j:=1) (by omega)
  have x2:W9.cell? ⟨w.heap.size,2,none⟩=some (.int .i64 (y1:Int)):=hX9.cell (j:=2) (by omega)
  have x3:W9.cell? ⟨w.heap.size,3,none⟩=some (.string p.nm):=hX9.cell (j:=3) (by omega)
  exact bodyPost_ret (v:=stopV ⟨p.kind,p.fn,y1,p.nm⟩) (by simp [results,Tryz.results87,go_sem,stopV,x0,x1,x2,x3]) rfl ⟨_,_,rfl,by exact hpn,⟨hU9,HC.out.sd⟩,by omega,hM9⟩
 ·have h3:n0=3:=by omega
  subst h3
  have q3:=HY.out.cell (j:=3) (by omega)
  have qf:=HY.out.free 3
  simp only [stopF] at q3
  go_upto_region 10 with fail
  have hY:=(HY.out.set (j:=3) (by omega) (.string ⟨#[110]⟩)).congr (f':=stopF ⟨p.kind,p.fn,p.line,⟨#[110]⟩⟩) fun j hj=>by match j,hj with | 0,_=>rfl | 1,_=>rfl | 2,_=>rfl | 3,_=>rfl
  have hX:=HX.out.far (p:=⟨sb,3,none⟩) (by dsimp only;omega) (.string ⟨#[110]⟩)
  have hM:=HM.out.setNew (p:=⟨sb,3,none⟩) hgl (by dsimp only;omega) (.string ⟨#[110]⟩)
  have hU:=HC.out.blk.far (p:=⟨sb,3,none⟩) (by have:=HC.out.blk.lt;dsimp only;omega) (.string ⟨#[110]⟩)
  have hsz:(w2.setCell ⟨sb,3,none⟩ (.string ⟨#[110]⟩)).heap.size=w2.heap.size:=World.size_setCell _ _ _
  generalize World.setCell w2 _ _=W5 at hY hX hM hU hsz ⊢
  clear q3 qf
  have r0:=hY.cell (j:=0) (by omega)
  have r1:=hY.cell (j:=1) (by omega)
  have r2:=hY.cell (j:=2) (by omega)
  have r3:=hY.cell (j:=3) (by omega)
  simp only [stopF] at r0 r1 r2 r3
  have y0:=hX.cell (j:=0) (by omega)
  have y1':=hX.cell (j:=1) (by omega)
  have y2':=hX.cell (j:=2) (by omega)
  have y3':=hX.cell (j:=3) (by omega)
  have z0:=hX.free 0
  have z1:=hX.free 1
  have z2:=hX.free 2
  have z3:=hX.free 3
  simp only [stopF] at y0 y1' y2' y3'
  go_wp2_with fail
  have hX9:=((((hX.set (j:=0) (by omega) (.int .i64 p.kind)).set (j:=1) (by omega) (.int .i64 p.fn)).set (j:=2) (by omega) (.int .i64 p.line)).set (j:=3) (by omega) (.string ⟨#[110]⟩))
  have hM9:=((((hM.setNew (p:=⟨w.heap.size,0,none⟩) (by dsimp only;omega) (Nat.le_refl _) (.int .i64 p.kind)).setNew (p:=⟨w.heap.size,1,none⟩) (by dsimp only;omega) (Nat.le_refl _) (.int .i64 p.fn)).setNew (p:=⟨w.heap.size,2,none⟩) (by dsimp only;omega) (Nat.le_refl _) (.int .i64 p.line)).setNew (p:=⟨w.heap.size,3,none⟩) (by dsimp only;omega) (Nat.le_refl _) (.string ⟨#[110]⟩))
  have hU9:=((((hU.far (p:=⟨w.heap.size,0,none⟩) (by dsimp only;omega) (.int .i64 p.kind)).far (p:=⟨w.heap.size,1,none⟩) (by dsimp only;omega) (.int .i64 p.fn)).far (p:=⟨w.heap.size,2,none⟩) (by dsimp only;omega) (.int .i64 p.line)).far (p:=⟨w.heap.size,3,none⟩) (by dsimp only;omega) (.string ⟨#[110]⟩))
  generalize World.setCell (World.setCell (World.setCell (World.setCell W5 _ _) _ _) _ _) _ _=W9 at hX9 hM9 hU9 ⊢
  have x0:W9.cell? ⟨w.heap.size,0,none⟩=some (.int .i64 p.kind):=hX9.cell (j:=0) (by omega)
  have x1:W9.cell? ⟨w.heap.size,1,none⟩=some (.int .i64 p.fn):=hX9.cell (j:=1) (by omega)
  have x2:W9.cell? ⟨w.heap.size,2,none⟩=some (.int .i64 p.line):=hX9.cell (j:=2) (by omega)
  have x3:W9.cell? ⟨w.heap.size,3,none⟩=some (.string ⟨#[110]⟩):=hX9.cell (j:=3) (by omega)
  exact bodyPost_ret (v:=stopV ⟨p.kind,p.fn,p.line,⟨#[110]⟩⟩) (by simp [results,Tryz.results87,go_sem,stopV,x0,x1,x2,x3]) rfl ⟨_,_,rfl,by exact Nat.le_refl 1,⟨hU9,HC.out.sd⟩,by omega,hM9⟩
set_option maxRecDepth 100000 in
set_option maxHeartbeats 4000000 in
theorem placeE_calls (w0:World) (g:Nat) (cv:Value) (code:List Nat) (c:Cu) (v1:Value) (A2:Option Addr) (n c2:Nat) (w:World) (hr:RdBytes w0 cv code) (hg:w0.heap.size ≤ g) (hb0:Below w0.heap.size w0 w) (h:CuAt w g cv c) (hp:c.pos ≤ 500000000000000000) (hn:n ≤ 3001) :
  Calls Tryz.prog 86 #[.pointer (some ⟨g,0,none⟩),.agg #[v1,.slice A2 n c2]] w fun e w'=>∃ (r:Nat) (c':Cu),e=.returned (.int .i64 ((r:Int) - 2)) ∧ r ≤ 60000 ∧ CuAt w' g cv c' ∧ c'.pos ≤ c.pos + 2 ∧ Mv [72] g w w':=by
 have HR:=qhq hr
 have HC:=qhq h
 have HB0:=qhq hb0
 have hgw:g < w.heap.size:=h.blk.lt
 clear h hr hb0
 go_enter Tryz.func86,Tryz.ntmps86
 go_wp2_with fail
 have e4:(n:Int) + 4=((n + 4:Nat):Int):=by omega
 rw [e4]
 have hba:Below w.heap.size w (w.alloc (.cells #[v1,.slice A2 n c2] 26)):=qaq (qrq _ _) _
 have HM:=qhq (Mv.of_below (ts:=[72]) hba (Nat.le_of_lt hgw))
 have HB1:=qhq (qtq HB0.out hba)
 replace HC:=qhq (HC.out.later hba)
 generalize World.alloc w _=W at HM HB1 HC ⊢
 clear hba e4
 refine (pickE_calls w0 g cv code c (n + 4) _ HR.out hg HB1.out HC.out (by omega) (by omega)).mono ?_;rintro e w1 ⟨r,c1,rfl,hr1,hC,hc1,hm⟩
 have hr1:r ≤ 60000:=by omega
 have HC1:=qhq hC
 replace HM:=qhq (HM.out.trans hm)
 clear hC hm HC HB1
 go_wp2
 go_ret
 exact ⟨r,c1,rfl,hr1,HC1.out,hc1,HM.out⟩
end Go.Proofs.YtcklnjjbhngbcaaGreatDoor
