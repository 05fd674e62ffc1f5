/- Proved: FnExactTraceOk answers true at every input that it can be called with, and leaves its arguments as they were; no further condition. -/
import Derived.Test.YtcklnjjbhngbcaaS1
import Derived.Test.YtcklnjjbhngbcaaKTraceOk
namespace Go.Proofs.Ytcklnjjbhngbcaa
open Go.ChangeShapes Go.WideShapes Go.ChangeAt Go.RowKit
theorem fnExactTraceOk_lifted (os : Os) (started : os.Started) (H : Type) (enc : TypeId × Value → H) :
    ReturnsInHanded {} Try.checked os 9 .any (Rows.fnExactTraceOkSpec.pre6 enc Try.prog Try.f9 Rows.fnExactTraceOkRow.domain false) (Rows.fnExactTraceOkSpec.post enc Try.prog Try.f9 false true false false) :=
  law_lifted (C := Try.checked) (tb := 4) S0.own (by kernel_rfl) Try.func9 rfl rfl Try.underlying4 S0.laid (by kernel_rfl)
    (fun H ds h => match ds, h with | [_], _ => ⟨rfl, rfl, rfl⟩) traceOk_walk os started H enc
    (ChangeSpec.witness6 (enc := enc) (C := Try.checked) false ⟨#[], #[.agg #[.slice none 0 0, .slice none 0 0]], []⟩ 8 (by kernel_rfl) (by kernel_rfl) (by kernel_rfl) (by kernel_rfl))
theorem fnExactTraceOk_facts : joinedFacts Try.pinned.checked.prog 9 Try.f9 Rows.fnExactTraceOkSpec Rows.fnExactTraceOkRow = true :=
  facts_gen (by kernel_rfl) S0.laid S0.mapsRowed S0.stopsHeard S0.stops S0.stopKnobs S0.plainKeys S0.make S0.lifts S0.mayEnter
theorem fnExactTraceOk_holds : Rows.FnExactTraceOkSaid :=
  OpenClaim.holds_of_wide 9 Try.f9 rfl rfl rfl rfl rfl rfl rfl ⟨rfl, rfl, rfl, rfl, rfl⟩ rfl rfl rfl rfl rfl (by kernel_rfl) Try.func9 fnExactTraceOk_facts
    (of_decide_eq_true (by kernel_rfl)) (by unfold Func.isWrapper; rw [if_neg (by decide +kernel)]; exact ⟨rfl, rfl⟩)
    (fun os started H enc _ => fnExactTraceOk_lifted os started H enc)
#print axioms fnExactTraceOk_holds
end Go.Proofs.Ytcklnjjbhngbcaa
