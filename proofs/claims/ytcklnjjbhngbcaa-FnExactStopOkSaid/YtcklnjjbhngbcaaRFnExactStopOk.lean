/- Proved: FnExactStopOk answers true at every input that it can be called with, and leaves its arguments as they were; no further condition. -/
import Derived.Test.YtcklnjjbhngbcaaS1
import Derived.Test.YtcklnjjbhngbcaaKStopOk
namespace Go.Proofs.Ytcklnjjbhngbcaa
open Go.ChangeShapes Go.WideShapes Go.ChangeAt Go.RowKit
theorem fnExactStopOk_lifted (os : Os) (started : os.Started) (H : Type) (enc : TypeId × Value → H) :
    ReturnsInHanded {} Try.checked os 4 .any (Rows.fnExactStopOkSpec.pre6 enc Try.prog Try.f4 Rows.fnExactStopOkRow.domain false) (Rows.fnExactStopOkSpec.post enc Try.prog Try.f4 false true false false) :=
  law_lifted (C := Try.checked) (tb := 4) S0.own (by kernel_rfl) Try.func4 rfl rfl Try.underlying4 S0.laid (by kernel_rfl)
    (fun H ds h => match ds, h with | [_], _ => ⟨rfl, rfl, rfl⟩) stopOk_walk os started H enc
    (ChangeSpec.witness6 (enc := enc) (C := Try.checked) false ⟨#[], #[.agg #[.int .i64 0, .int .i64 0, .int .i64 0, .string ⟨#[]⟩]], []⟩ 8 (by kernel_rfl) (by kernel_rfl) (by kernel_rfl) (by kernel_rfl))
theorem fnExactStopOk_facts : joinedFacts Try.pinned.checked.prog 4 Try.f4 Rows.fnExactStopOkSpec Rows.fnExactStopOkRow = true :=
  facts_gen (by kernel_rfl) S0.laid S0.mapsRowed S0.stopsHeard S0.stops S0.stopKnobs S0.plainKeys S0.make S0.lifts S0.mayEnter
theorem fnExactStopOk_holds : Rows.FnExactStopOkSaid :=
  OpenClaim.holds_of_wide 4 Try.f4 rfl rfl rfl rfl rfl rfl rfl ⟨rfl, rfl, rfl, rfl, rfl⟩ rfl rfl rfl rfl rfl (by kernel_rfl) Try.func4 fnExactStopOk_facts
    (of_decide_eq_true (by kernel_rfl)) (by unfold Func.isWrapper; rw [if_neg (by decide +kernel)]; exact ⟨rfl, rfl⟩)
    (fun os started H enc _ => fnExactStopOk_lifted os started H enc)
#print axioms fnExactStopOk_holds
end Go.Proofs.Ytcklnjjbhngbcaa
