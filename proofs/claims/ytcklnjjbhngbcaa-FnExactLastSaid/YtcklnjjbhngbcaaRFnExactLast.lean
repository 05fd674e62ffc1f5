/- Proved: FnExactLast answers true at every input that it can be called with, and leaves its arguments as they were; no further condition. -/
import Derived.Test.YtcklnjjbhngbcaaS1
import Derived.Test.YtcklnjjbhngbcaaKLast
namespace Go.Proofs.Ytcklnjjbhngbcaa
open Go.ChangeShapes Go.WideShapes Go.ChangeAt Go.RowKit
theorem fnExactLast_lifted (os : Os) (started : os.Started) (H : Type) (enc : TypeId × Value → H) :
    ReturnsInHanded {} Try.checked os 21 .any (Rows.fnExactLastSpec.pre6 enc Try.prog Try.f21 Rows.fnExactLastRow.domain false) (Rows.fnExactLastSpec.post enc Try.prog Try.f21 false true false false) :=
  law_lifted (C := Try.checked) (tb := 4) S0.own (by kernel_rfl) Try.func21 rfl rfl Try.underlying4 S0.laid (by kernel_rfl)
    (fun H ds h => match ds, h with | [_, _, _], _ => ⟨rfl, rfl, rfl⟩) last_walk os started H enc
    (ChangeSpec.witness6 (enc := enc) (C := Try.checked) false ⟨#[], #[.agg #[.slice none 0 0, .slice none 0 0], .slice none 0 0, .int .i64 0], []⟩ 8 (by kernel_rfl) (by kernel_rfl) (by kernel_rfl) (by kernel_rfl))
theorem fnExactLast_facts : joinedFacts Try.pinned.checked.prog 21 Try.f21 Rows.fnExactLastSpec Rows.fnExactLastRow = true :=
  facts_gen (by kernel_rfl) S0.laid S0.mapsRowed S0.stopsHeard S0.stops S0.stopKnobs S0.plainKeys S0.make S0.lifts S0.mayEnter
theorem fnExactLast_holds : Rows.FnExactLastSaid :=
  OpenClaim.holds_of_wide 21 Try.f21 rfl rfl rfl rfl rfl rfl rfl ⟨rfl, rfl, rfl, rfl, rfl⟩ rfl rfl rfl rfl rfl (by kernel_rfl) Try.func21 fnExactLast_facts
    (of_decide_eq_true (by kernel_rfl)) (by unfold Func.isWrapper; rw [if_neg (by decide +kernel)]; exact ⟨rfl, rfl⟩)
    (fun os started H enc _ => fnExactLast_lifted os started H enc)
#print axioms fnExactLast_holds
end Go.Proofs.Ytcklnjjbhngbcaa
