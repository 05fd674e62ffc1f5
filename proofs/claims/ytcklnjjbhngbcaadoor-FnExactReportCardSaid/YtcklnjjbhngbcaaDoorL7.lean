/- The laws' helpers eq.. at lists of open calls, counts, branches, numbers: of one datum read twice they answer true. (Written by L7.py.) -/
import Derived.Test.YtcklnjjbhngbcaaDoorL5
namespace Go.Proofs.YtcklnjjbhngbcaaDoor
open Go.RowKit Go.Proofs.Lens

def RdFcs (w : World) (v : Value) (xs : List PFc) : Prop := RdSl w 4 xs.length (fcRow xs) v
def RdBrs (w : World) (v : Value) (xs : List PBr) : Prop := RdSl w 4 xs.length (brC xs) v
theorem RdFcs.later {w w' : World} {v : Value} {xs : List PFc} (h : RdFcs w v xs) (hb : Below w.heap.size w w') : RdFcs w' v xs := RdSl.later h hb
theorem RdBrs.later {w w' : World} {v : Value} {xs : List PBr} (h : RdBrs w v xs) (hb : Below w.heap.size w w') : RdBrs w' v xs := RdSl.later h hb


end Go.Proofs.YtcklnjjbhngbcaaDoor
