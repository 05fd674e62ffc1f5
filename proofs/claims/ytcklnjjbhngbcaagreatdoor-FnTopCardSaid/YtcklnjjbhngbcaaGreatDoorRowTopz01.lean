/- Lemmas and contracts of functions that the theorem of this claim leans on (texts G5). -/
import Derived.Test.YtcklnjjbhngbcaaGreatDoorRowTopz00
import Derived.Test.YtcklnjjbhngbcaaGreatDoorRowUnz25
import Derived.Test.YtcklnjjbhngbcaaGreatDoorRowUnz04
namespace Go.Proofs.YtcklnjjbhngbcaaGreatDoor
open Go.RowKit Go.Proofs.Lens
def stopF (p:PStop) (j:Nat):Value:=#[Value.int .i64 p.kind,.int .i64 p.fn,.int .i64 p.line,.string p.nm].getD j undef
theorem sbox_new (W:World):Blk (W.alloc (.cells #[.int .i64 0,.int .i64 0,.int .i64 0,.string eT] 45)) W.heap.size 45 4 (stopF ⟨0,0,0,eT⟩) :=
 (Blk.made W #[.int .i64 0,.int .i64 0,.int .i64 0,.string eT] 45).congr fun j hj=>by
  have hj:j < 4:=hj
  match j,hj with
  | 0,_=>rfl
  | 1,_=>rfl
  | 2,_=>rfl
  | 3,_=>rfl
theorem cu_fresh (W:World) (cv:Value):CuAt (W.alloc (.cells #[cv,.int .i64 0,.int .u64 0] 72)) W.heap.size cv cu0 :=
 ⟨(Blk.made W #[cv,.int .i64 0,.int .u64 0] 72).congr fun j hj=>by
  have hj:j < 3:=hj
  match j,hj with
  | 0,_=>rfl
  | 1,_=>rfl
  | 2,_=>rfl,by decide⟩
end Go.Proofs.YtcklnjjbhngbcaaGreatDoor
