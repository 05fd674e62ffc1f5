/- Lemmas and contracts of functions that the theorem of this claim leans on (texts L13). -/
import Derived.Test.YtcklnjjbhngbcaaGreatDoorRowTopz00
import Derived.Deep.QuietTactic
import Derived.BigQuiet
import Derived.Test.YtcklnjjbhngbcaaGreatDoorRowUnz05
namespace Go.Proofs.YtcklnjjbhngbcaaGreatDoor
open Go.RowKit Go.Proofs.Lens
set_option maxRecDepth 100000 in
set_option maxHeartbeats 400000 in
theorem wFrames_calls (v1 v2:Value) (xs:List PFr) (w:World) (h1:RdFrs w v1 xs) (h2:RdFrs w v2 xs) :
  Calls Tryz.prog 42 #[v1,v2] w fun e w'=>e=.returned (.bool true) ∧ Below w.heap.size w w':=by
 have H1:=qhq h1
 have H2:=qhq h2
 obtain ⟨A,c,rfl,hn,hrow⟩:=h1
 obtain ⟨A2,c2,rfl,-,hrow2⟩:=h2
 have hdl:((xs.length:Int) != (xs.length:Int))=false:=by simp
 clear hrow hrow2
 go_enter Tryz.func42,Tryz.ntmps42
 go_wp2
 go_loopw [13] (fun i wr=>∃ (k:Nat),k ≤ xs.length ∧ i=.int .i64 k ∧ Below w.heap.size w wr) (fun i _=>xs.length - (intOf i).toNat)
 case atStart=>exact ⟨0,Nat.zero_le _,rfl,qrq _ _⟩
 case round =>
  obtain ⟨k,hk,rfl,hb⟩:=hrel
  have HL:=qhq hb
  by_cases hlt:k < xs.length
  ·obtain ⟨A',c',he,_,hrow⟩:=H1.out.later hb
   obtain ⟨rfl,rfl⟩:A=A' ∧ c=c':=by simpa using he
   obtain ⟨b,o,rfl,hc⟩:=hrow (by omega)
   obtain ⟨A',c',he',_,hrow'⟩:=H2.out.later hb
   obtain ⟨rfl,rfl⟩:A2=A' ∧ c2=c':=by simpa using he'
   obtain ⟨b2,o2,rfl,hc2⟩:=hrow' (by omega)
   have x0:wr.cell? ⟨b,o + k * 3,none⟩=some (.int .i64 (elt xs k).fn):=hc k hlt 0 (by omega)
   have x1:wr.cell? ⟨b,o + k * 3 + 1,none⟩=some (.int .i64 (elt xs k).line):=hc k hlt 1 (by omega)
   have x2:wr.cell? ⟨b,o + k * 3 + 2,none⟩=some (.int .i64 (elt xs k).frm):=hc k hlt 2 (by omega)
   have y0:wr.cell? ⟨b2,o2 + k * 3,none⟩=some (.int .i64 (elt xs k).fn):=hc2 k hlt 0 (by omega)
   have y1:wr.cell? ⟨b2,o2 + k * 3 + 1,none⟩=some (.int .i64 (elt xs k).line):=hc2 k hlt 1 (by omega)
   have y2:wr.cell? ⟨b2,o2 + k * 3 + 2,none⟩=some (.int .i64 (elt xs k).frm):=hc2 k hlt 2 (by omega)
   have hlt':(k:Int) < (xs.length:Int):=by omega
   clear hc hc2 he he' hrow hrow' hb
   go_wp2_with fail
   go_quiet (fail)
   go_wp2
   go_roundw
   case rel=>exact ⟨k + 1,by omega,by go_num,qnq HL.out _⟩
   case measure=>simp [intOf];omega
  ·clear hb
   go_wp2
   go_ret
   exact ⟨rfl,HL.out⟩
end Go.Proofs.YtcklnjjbhngbcaaGreatDoor
