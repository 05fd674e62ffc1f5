/- Proved: FnSteps answers true at every input that it can be called with, and leaves its arguments as they were; no further condition. -/
import Derived.Test.YtcklnjjbhngbcaaS1
import Derived.Test.YtcklnjjbhngbcaaKSteps
namespace Go.Proofs.Ytcklnjjbhngbcaa
open Go.ChangeShapes Go.WideShapes Go.ChangeAt Go.RowKit
theorem fnSteps_lifted (os : Os) (started : os.Started) (H : Type) (enc : TypeId × Value → H) :
    ReturnsInHanded {} Try.checked os 8 .any (Rows.fnStepsSpec.pre6 enc Try.prog Try.f8 Rows.fnStepsRow.domain false) (Rows.fnStepsSpec.post enc Try.prog Try.f8 false true false false) :=
  law_lifted (C := Try.checked) (tb := 4) S0.own (by kernel_rfl) Try.func8 rfl rfl Try.underlying4 S0.laid (by kernel_rfl)
    (fun H ds h => match ds, h with | [_, _], _ => ⟨rfl, rfl, rfl⟩) steps_walk os started H enc
    (ChangeSpec.witness6 (enc := enc) (C := Try.checked) false ⟨#[], #[.slice none 0 0, .slice none 0 0], []⟩ 8 (by kernel_rfl) (by kernel_rfl) (by kernel_rfl) (by kernel_rfl))
theorem fnSteps_facts : joinedFacts Try.pinned.checked.prog 8 Try.f8 Rows.fnStepsSpec Rows.fnStepsRow = true :=
  facts_gen (by kernel_rfl) S0.laid S0.mapsRowed S0.stopsHeard S0.stops S0.stopKnobs S0.plainKeys S0.make S0.lifts S0.mayEnter
theorem fnSteps_holds : Rows.FnStepsSaid :=
  OpenClaim.holds_of_wide 8 Try.f8 rfl rfl rfl rfl rfl rfl rfl ⟨rfl, rfl, rfl, rfl, rfl⟩ rfl rfl rfl rfl rfl (by kernel_rfl) Try.func8 fnSteps_facts
    (of_decide_eq_true (by kernel_rfl)) (by unfold Func.isWrapper; rw [if_neg (by decide +kernel)]; exact ⟨rfl, rfl⟩)
    (fun os started H enc _ => fnSteps_lifted os started H enc)
#print axioms fnSteps_holds
end Go.Proofs.Ytcklnjjbhngbcaa
