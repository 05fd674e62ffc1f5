/- Proved: FnCounts answers true at every input that it can be called with, and leaves its arguments as they were; no further condition. -/
import Derived.Test.YtcklnjjbhngbcaaS1
import Derived.Test.YtcklnjjbhngbcaaKCounts
namespace Go.Proofs.Ytcklnjjbhngbcaa
open Go.ChangeShapes Go.WideShapes Go.ChangeAt Go.RowKit
theorem fnCounts_lifted (os : Os) (started : os.Started) (H : Type) (enc : TypeId × Value → H) :
    ReturnsInHanded {} Try.checked os 23 .any (Rows.fnCountsSpec.pre6 enc Try.prog Try.f23 Rows.fnCountsRow.domain false) (Rows.fnCountsSpec.post enc Try.prog Try.f23 false true false false) :=
  law_lifted (C := Try.checked) (tb := 4) S0.own (by kernel_rfl) Try.func23 rfl rfl Try.underlying4 S0.laid (by kernel_rfl)
    (fun H ds h => match ds, h with | [_], _ => ⟨rfl, rfl, rfl⟩) counts_walk os started H enc
    (ChangeSpec.witness6 (enc := enc) (C := Try.checked) false ⟨#[], #[.slice none 0 0], []⟩ 8 (by kernel_rfl) (by kernel_rfl) (by kernel_rfl) (by kernel_rfl))
theorem fnCounts_facts : joinedFacts Try.pinned.checked.prog 23 Try.f23 Rows.fnCountsSpec Rows.fnCountsRow = true :=
  facts_gen (by kernel_rfl) S0.laid S0.mapsRowed S0.stopsHeard S0.stops S0.stopKnobs S0.plainKeys S0.make S0.lifts S0.mayEnter
theorem fnCounts_holds : Rows.FnCountsSaid :=
  OpenClaim.holds_of_wide 23 Try.f23 rfl rfl rfl rfl rfl rfl rfl ⟨rfl, rfl, rfl, rfl, rfl⟩ rfl rfl rfl rfl rfl (by kernel_rfl) Try.func23 fnCounts_facts
    (of_decide_eq_true (by kernel_rfl)) (by unfold Func.isWrapper; rw [if_neg (by decide +kernel)]; exact ⟨rfl, rfl⟩)
    (fun os started H enc _ => fnCounts_lifted os started H enc)
#print axioms fnCounts_holds
end Go.Proofs.Ytcklnjjbhngbcaa
