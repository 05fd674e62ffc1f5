/- Lemmas and contracts of functions that the theorem of this claim leans on (texts L1). -/
import Derived.Test.YtcklnjjbhngbcaaGreatDoorRowTopz00
import Derived.Test.YtcklnjjbhngbcaaGreatDoorRowUnz05
namespace Go.Proofs.YtcklnjjbhngbcaaGreatDoor
open Go.RowKit Go.Proofs.Lens
def smVar (v:PVar):Prop:=v.nm.size ≤ 1048576 ∧ v.tx.size ≤ 1048576
def smVars (xs:List PVar):Prop:=xs.length ≤ 1048576 ∧ ∀ i,i < xs.length → smVar (elt xs i)
def smMom (m:PMom):Prop:=m.text.size ≤ 1048576 ∧ smVars m.vars
def smMoms (ms:List PMom):Prop:=ms.length ≤ 1048576 ∧ ∀ i,i < ms.length → smMom (elt ms i)
def smStrs (xs:List ByteArray):Prop:=xs.length ≤ 1048576 ∧ ∀ i,i < xs.length → (elt xs i).size ≤ 1048576
def smTr (t:PTr):Prop:=smStrs t.fns ∧ smMoms t.moms
end Go.Proofs.YtcklnjjbhngbcaaGreatDoor
