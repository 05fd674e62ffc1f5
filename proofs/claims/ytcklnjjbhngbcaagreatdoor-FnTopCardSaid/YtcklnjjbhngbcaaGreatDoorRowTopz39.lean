/- Lemmas and contracts of functions that the theorem of this claim leans on (texts RowH). -/
import Derived.Test.YtcklnjjbhngbcaaGreatDoorRowTopz00
import Derived.Test.YtcklnjjbhngbcaaGreatDoorTie
import Derived.Test.YtcklnjjbhngbcaaGreatDoorCards
import Derived.LaidMore
import Derived.LaidHandle
import Derived.Stop.Joined
import Derived.SevenTiedAt
import Derived.Test.YtcklnjjbhngbcaaGreatDoorRowUnz01
import Derived.Test.YtcklnjjbhngbcaaGreatDoorRowTopz31
namespace Go.Proofs.YtcklnjjbhngbcaaGreatDoor
open Go.ChangeShapes Go.WideShapes Go.ChangeAt Go.RowKit Go.Proofs.Lens
abbrev laidE : List (String × DataW Unit) := [("errors.errorType", Rows.laid_errors_errorType)]
theorem et_glob : Tryz.prog.globalNamed "errors.errorType" = some 0 := by kernel_rfl
theorem et_cut : (Tryz.prog.cutTypes.find? (·.1 == "internal/reflectlite.rtype")).map (·.2) = some 220 := by kernel_rfl
theorem et_row:((List.range Tryz.prog.types.size).filter fun t=>Tryz.prog.rowNamed t [101,114,114,111,114])=[86]:=by kernel_rfl
theorem et_handle:typeHandle Tryz.prog 86=.pointer (some ⟨4,86,none⟩):=by kernel_rfl
theorem errLaid_of_handles {W:World} (h:handlesMet Tryz.prog laidE W):ErrLaid W:=by
 obtain ⟨name,u,ty,e1,e2,e3,e4,e5⟩:=h _ (List.mem_singleton.2 rfl)
 have en:name=[101,114,114,111,114]:=(Option.some.inj e1).symm
 subst en
 obtain rfl:=Option.some.inj (et_cut.symm.trans e2)
 have hm:ty ∈ (List.range Tryz.prog.types.size).filter fun t=>Tryz.prog.rowNamed t [101,114,114,111,114]:=List.mem_filter.2 ⟨List.mem_range.2 e3,e4⟩
 rw [et_row] at hm
 obtain rfl:=List.mem_singleton.1 hm
 rw [et_handle] at e5
 show W.cell? ⟨0,0,none⟩=_
 simpa using World.var?_cell et_glob e5 0
end Go.Proofs.YtcklnjjbhngbcaaGreatDoor
