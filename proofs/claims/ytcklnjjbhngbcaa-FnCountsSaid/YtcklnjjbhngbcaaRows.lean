/-
  No cell of these rows narrows 'for every input' (looked for: loops, veiled, ifaces, maps, wideKeys, modest, calm, conditions, laid).
  DERIVED. THE GIVEN ROWS OF THIS SEAT. 22 by the template 'for every input the law returns true; each argument reads behind the call as it read before'; 0 by the template 'total and deterministic' (their statements: YtcklnjjbhngbcaaTotals.lean).
  GIVEN WITH THE SEED: the statements are not yours to turn. If you find one false, say at which input.
  Laid BY PROGRAM, IN A SANDBOX (cutbox-rows.mjs): the forced cells as the released guide's own fill.sh prints them over the translation 7c2de304c8f7452d… (all of the seat's roots in one cut). By AI agents, Wed Nov 11 2026. No macro, syntax, notation, axiom, sorry.
-/
import Derived.Test.YtcklnjjbhngbcaaChecked
import GoSem.Claim
import GoSem.ClaimJoined
import GoSem.ClaimMapViews
import Derived.JoinedTies
import Derived.KernelRfl
namespace Go.Proofs.Ytcklnjjbhngbcaa
/- THE CELL 'sum', in the pinned program and in every row, IS THE sha256 OF THE DUMP (.gsa) THAT YtcklnjjbhngbcaaProg.lean LOADS. Nothing in Lean hashes anything: it is a label: what it is worth is what the hold of that sum in a sandbox is worth. -/
noncomputable def Try.pinned : Pinned := { name := "ytcklnjjbhngbcaa", sum := "7c2de304c8f7452dd570005501843ac84be0eafc88c4d36a9359342f3088af7b", checked := Try.checked }
namespace Rows
def none {H : Type} : Left H := { results := [], args := [] }

/-- 'laws.FnExactConstants': WHATEVER THE INPUT: true; the input reads as it did. -/
def fnExactConstantsSpec : ChangeSpec := { name := "fnExactConstants", fn := fun _ => fun
  | [] => { results := [.lit (.bool true)], args := [] }
  | _ => none }
def fnExactConstantsRow : OpenClaim := { program := "ytcklnjjbhngbcaa", sum := "7c2de304c8f7452dd570005501843ac84be0eafc88c4d36a9359342f3088af7b", func := "loop.example/lens/laws.FnExactConstants", spec := "fnExactConstants", plainKeys := false, apart := false }
def FnExactConstantsSaid : Prop := fnExactConstantsRow.holds Try.pinned (OpenSpec.ofChange fnExactConstantsSpec)

/-- ITS FALSE NEIGHBOUR: 'it returns false'. Refute it at one input. -/
def fnExactConstantsWrong : ChangeSpec := { name := "fnExactConstants", fn := fun _ => fun
  | [] => { results := [.lit (.bool false)], args := [] }
  | _ => none }
def FnExactConstantsWrongFalsely : Prop := fnExactConstantsRow.holds Try.pinned (OpenSpec.ofChange fnExactConstantsWrong)

/-- 'laws.FnExactStopOk': WHATEVER THE INPUT: true; the input reads as it did. -/
def fnExactStopOkSpec : ChangeSpec := { name := "fnExactStopOk", fn := fun _ => fun
  | [d] => { results := [.lit (.bool true)], args := [d] }
  | _ => none }
def fnExactStopOkRow : OpenClaim := { program := "ytcklnjjbhngbcaa", sum := "7c2de304c8f7452dd570005501843ac84be0eafc88c4d36a9359342f3088af7b", func := "loop.example/lens/laws.FnExactStopOk", spec := "fnExactStopOk", plainKeys := false, apart := false }
def FnExactStopOkSaid : Prop := fnExactStopOkRow.holds Try.pinned (OpenSpec.ofChange fnExactStopOkSpec)

/-- ITS FALSE NEIGHBOUR: 'it returns false'. Refute it at one input. -/
def fnExactStopOkWrong : ChangeSpec := { name := "fnExactStopOk", fn := fun _ => fun
  | [d] => { results := [.lit (.bool false)], args := [d] }
  | _ => none }
def FnExactStopOkWrongFalsely : Prop := fnExactStopOkRow.holds Try.pinned (OpenSpec.ofChange fnExactStopOkWrong)

/-- 'laws.FnWatch': WHATEVER THE INPUT: true; the input reads as it did. -/
def fnWatchSpec : ChangeSpec := { name := "fnWatch", fn := fun _ => fun
  | [d] => { results := [.lit (.bool true)], args := [d] }
  | _ => none }
def fnWatchRow : OpenClaim := { program := "ytcklnjjbhngbcaa", sum := "7c2de304c8f7452dd570005501843ac84be0eafc88c4d36a9359342f3088af7b", func := "loop.example/lens/laws.FnWatch", spec := "fnWatch", unfollowed := true, recurses := true, plainKeys := false, apart := false }
def FnWatchSaid : Prop := fnWatchRow.holds Try.pinned (OpenSpec.ofChange fnWatchSpec)

/-- ITS FALSE NEIGHBOUR: 'it returns false'. Refute it at one input. -/
def fnWatchWrong : ChangeSpec := { name := "fnWatch", fn := fun _ => fun
  | [d] => { results := [.lit (.bool false)], args := [d] }
  | _ => none }
def FnWatchWrongFalsely : Prop := fnWatchRow.holds Try.pinned (OpenSpec.ofChange fnWatchWrong)

/-- 'laws.FnDeep': WHATEVER THE INPUT: true; the input reads as it did. -/
def fnDeepSpec : ChangeSpec := { name := "fnDeep", fn := fun _ => fun
  | [d] => { results := [.lit (.bool true)], args := [d] }
  | _ => none }
def fnDeepRow : OpenClaim := { program := "ytcklnjjbhngbcaa", sum := "7c2de304c8f7452dd570005501843ac84be0eafc88c4d36a9359342f3088af7b", func := "loop.example/lens/laws.FnDeep", spec := "fnDeep", unfollowed := true, recurses := true, plainKeys := false, apart := false }
def FnDeepSaid : Prop := fnDeepRow.holds Try.pinned (OpenSpec.ofChange fnDeepSpec)

/-- ITS FALSE NEIGHBOUR: 'it returns false'. Refute it at one input. -/
def fnDeepWrong : ChangeSpec := { name := "fnDeep", fn := fun _ => fun
  | [d] => { results := [.lit (.bool false)], args := [d] }
  | _ => none }
def FnDeepWrongFalsely : Prop := fnDeepRow.holds Try.pinned (OpenSpec.ofChange fnDeepWrong)

/-- 'laws.FnStacks': WHATEVER THE INPUT: true; the input reads as it did. -/
def fnStacksSpec : ChangeSpec := { name := "fnStacks", fn := fun _ => fun
  | [d] => { results := [.lit (.bool true)], args := [d] }
  | _ => none }
def fnStacksRow : OpenClaim := { program := "ytcklnjjbhngbcaa", sum := "7c2de304c8f7452dd570005501843ac84be0eafc88c4d36a9359342f3088af7b", func := "loop.example/lens/laws.FnStacks", spec := "fnStacks", plainKeys := false, apart := false }
def FnStacksSaid : Prop := fnStacksRow.holds Try.pinned (OpenSpec.ofChange fnStacksSpec)

/-- ITS FALSE NEIGHBOUR: 'it returns false'. Refute it at one input. -/
def fnStacksWrong : ChangeSpec := { name := "fnStacks", fn := fun _ => fun
  | [d] => { results := [.lit (.bool false)], args := [d] }
  | _ => none }
def FnStacksWrongFalsely : Prop := fnStacksRow.holds Try.pinned (OpenSpec.ofChange fnStacksWrong)

/-- 'laws.FnSteps': WHATEVER THE INPUT: true; the input reads as it did. -/
def fnStepsSpec : ChangeSpec := { name := "fnSteps", fn := fun _ => fun
  | [d1, d2] => { results := [.lit (.bool true)], args := [d1, d2] }
  | _ => none }
def fnStepsRow : OpenClaim := { program := "ytcklnjjbhngbcaa", sum := "7c2de304c8f7452dd570005501843ac84be0eafc88c4d36a9359342f3088af7b", func := "loop.example/lens/laws.FnSteps", spec := "fnSteps", unfollowed := true, recurses := true, plainKeys := false, apart := false }
def FnStepsSaid : Prop := fnStepsRow.holds Try.pinned (OpenSpec.ofChange fnStepsSpec)

/-- ITS FALSE NEIGHBOUR: 'it returns false'. Refute it at one input. -/
def fnStepsWrong : ChangeSpec := { name := "fnSteps", fn := fun _ => fun
  | [d1, d2] => { results := [.lit (.bool false)], args := [d1, d2] }
  | _ => none }
def FnStepsWrongFalsely : Prop := fnStepsRow.holds Try.pinned (OpenSpec.ofChange fnStepsWrong)

/-- 'laws.FnExactTraceOk': WHATEVER THE INPUT: true; the input reads as it did. -/
def fnExactTraceOkSpec : ChangeSpec := { name := "fnExactTraceOk", fn := fun _ => fun
  | [d] => { results := [.lit (.bool true)], args := [d] }
  | _ => none }
def fnExactTraceOkRow : OpenClaim := { program := "ytcklnjjbhngbcaa", sum := "7c2de304c8f7452dd570005501843ac84be0eafc88c4d36a9359342f3088af7b", func := "loop.example/lens/laws.FnExactTraceOk", spec := "fnExactTraceOk", plainKeys := false, apart := false }
def FnExactTraceOkSaid : Prop := fnExactTraceOkRow.holds Try.pinned (OpenSpec.ofChange fnExactTraceOkSpec)

/-- ITS FALSE NEIGHBOUR: 'it returns false'. Refute it at one input. -/
def fnExactTraceOkWrong : ChangeSpec := { name := "fnExactTraceOk", fn := fun _ => fun
  | [d] => { results := [.lit (.bool false)], args := [d] }
  | _ => none }
def FnExactTraceOkWrongFalsely : Prop := fnExactTraceOkRow.holds Try.pinned (OpenSpec.ofChange fnExactTraceOkWrong)

/-- 'laws.FnExactRunningAt': WHATEVER THE INPUT: true; the input reads as it did. -/
def fnExactRunningAtSpec : ChangeSpec := { name := "fnExactRunningAt", fn := fun _ => fun
  | [d1, d2] => { results := [.lit (.bool true)], args := [d1, d2] }
  | _ => none }
def fnExactRunningAtRow : OpenClaim := { program := "ytcklnjjbhngbcaa", sum := "7c2de304c8f7452dd570005501843ac84be0eafc88c4d36a9359342f3088af7b", func := "loop.example/lens/laws.FnExactRunningAt", spec := "fnExactRunningAt", plainKeys := false, apart := false }
def FnExactRunningAtSaid : Prop := fnExactRunningAtRow.holds Try.pinned (OpenSpec.ofChange fnExactRunningAtSpec)

/-- ITS FALSE NEIGHBOUR: 'it returns false'. Refute it at one input. -/
def fnExactRunningAtWrong : ChangeSpec := { name := "fnExactRunningAt", fn := fun _ => fun
  | [d1, d2] => { results := [.lit (.bool false)], args := [d1, d2] }
  | _ => none }
def FnExactRunningAtWrongFalsely : Prop := fnExactRunningAtRow.holds Try.pinned (OpenSpec.ofChange fnExactRunningAtWrong)

/-- 'laws.FnExactBefore': WHATEVER THE INPUT: true; the input reads as it did. -/
def fnExactBeforeSpec : ChangeSpec := { name := "fnExactBefore", fn := fun _ => fun
  | [d1, d2] => { results := [.lit (.bool true)], args := [d1, d2] }
  | _ => none }
def fnExactBeforeRow : OpenClaim := { program := "ytcklnjjbhngbcaa", sum := "7c2de304c8f7452dd570005501843ac84be0eafc88c4d36a9359342f3088af7b", func := "loop.example/lens/laws.FnExactBefore", spec := "fnExactBefore", plainKeys := false, apart := false }
def FnExactBeforeSaid : Prop := fnExactBeforeRow.holds Try.pinned (OpenSpec.ofChange fnExactBeforeSpec)

/-- ITS FALSE NEIGHBOUR: 'it returns false'. Refute it at one input. -/
def fnExactBeforeWrong : ChangeSpec := { name := "fnExactBefore", fn := fun _ => fun
  | [d1, d2] => { results := [.lit (.bool false)], args := [d1, d2] }
  | _ => none }
def FnExactBeforeWrongFalsely : Prop := fnExactBeforeRow.holds Try.pinned (OpenSpec.ofChange fnExactBeforeWrong)

/-- 'laws.FnExactInto': WHATEVER THE INPUT: true; the input reads as it did. -/
def fnExactIntoSpec : ChangeSpec := { name := "fnExactInto", fn := fun _ => fun
  | [d1, d2] => { results := [.lit (.bool true)], args := [d1, d2] }
  | _ => none }
def fnExactIntoRow : OpenClaim := { program := "ytcklnjjbhngbcaa", sum := "7c2de304c8f7452dd570005501843ac84be0eafc88c4d36a9359342f3088af7b", func := "loop.example/lens/laws.FnExactInto", spec := "fnExactInto", unfollowed := true, recurses := true, plainKeys := false, apart := false }
def FnExactIntoSaid : Prop := fnExactIntoRow.holds Try.pinned (OpenSpec.ofChange fnExactIntoSpec)

/-- ITS FALSE NEIGHBOUR: 'it returns false'. Refute it at one input. -/
def fnExactIntoWrong : ChangeSpec := { name := "fnExactInto", fn := fun _ => fun
  | [d1, d2] => { results := [.lit (.bool false)], args := [d1, d2] }
  | _ => none }
def FnExactIntoWrongFalsely : Prop := fnExactIntoRow.holds Try.pinned (OpenSpec.ofChange fnExactIntoWrong)

/-- 'laws.FnExactOut': WHATEVER THE INPUT: true; the input reads as it did. -/
def fnExactOutSpec : ChangeSpec := { name := "fnExactOut", fn := fun _ => fun
  | [d1, d2] => { results := [.lit (.bool true)], args := [d1, d2] }
  | _ => none }
def fnExactOutRow : OpenClaim := { program := "ytcklnjjbhngbcaa", sum := "7c2de304c8f7452dd570005501843ac84be0eafc88c4d36a9359342f3088af7b", func := "loop.example/lens/laws.FnExactOut", spec := "fnExactOut", unfollowed := true, recurses := true, plainKeys := false, apart := false }
def FnExactOutSaid : Prop := fnExactOutRow.holds Try.pinned (OpenSpec.ofChange fnExactOutSpec)

/-- ITS FALSE NEIGHBOUR: 'it returns false'. Refute it at one input. -/
def fnExactOutWrong : ChangeSpec := { name := "fnExactOut", fn := fun _ => fun
  | [d1, d2] => { results := [.lit (.bool false)], args := [d1, d2] }
  | _ => none }
def FnExactOutWrongFalsely : Prop := fnExactOutRow.holds Try.pinned (OpenSpec.ofChange fnExactOutWrong)

/-- 'laws.FnExactOver': WHATEVER THE INPUT: true; the input reads as it did. -/
def fnExactOverSpec : ChangeSpec := { name := "fnExactOver", fn := fun _ => fun
  | [d1, d2] => { results := [.lit (.bool true)], args := [d1, d2] }
  | _ => none }
def fnExactOverRow : OpenClaim := { program := "ytcklnjjbhngbcaa", sum := "7c2de304c8f7452dd570005501843ac84be0eafc88c4d36a9359342f3088af7b", func := "loop.example/lens/laws.FnExactOver", spec := "fnExactOver", unfollowed := true, recurses := true, plainKeys := false, apart := false }
def FnExactOverSaid : Prop := fnExactOverRow.holds Try.pinned (OpenSpec.ofChange fnExactOverSpec)

/-- ITS FALSE NEIGHBOUR: 'it returns false'. Refute it at one input. -/
def fnExactOverWrong : ChangeSpec := { name := "fnExactOver", fn := fun _ => fun
  | [d1, d2] => { results := [.lit (.bool false)], args := [d1, d2] }
  | _ => none }
def FnExactOverWrongFalsely : Prop := fnExactOverRow.holds Try.pinned (OpenSpec.ofChange fnExactOverWrong)

/-- 'laws.FnStops': WHATEVER THE INPUT: true; the input reads as it did. -/
def fnStopsSpec : ChangeSpec := { name := "fnStops", fn := fun _ => fun
  | [d1, d2] => { results := [.lit (.bool true)], args := [d1, d2] }
  | _ => none }
def fnStopsRow : OpenClaim := { program := "ytcklnjjbhngbcaa", sum := "7c2de304c8f7452dd570005501843ac84be0eafc88c4d36a9359342f3088af7b", func := "loop.example/lens/laws.FnStops", spec := "fnStops", unfollowed := true, recurses := true, plainKeys := false, apart := false }
def FnStopsSaid : Prop := fnStopsRow.holds Try.pinned (OpenSpec.ofChange fnStopsSpec)

/-- ITS FALSE NEIGHBOUR: 'it returns false'. Refute it at one input. -/
def fnStopsWrong : ChangeSpec := { name := "fnStops", fn := fun _ => fun
  | [d1, d2] => { results := [.lit (.bool false)], args := [d1, d2] }
  | _ => none }
def FnStopsWrongFalsely : Prop := fnStopsRow.holds Try.pinned (OpenSpec.ofChange fnStopsWrong)

/-- 'laws.FnExactStackAt': WHATEVER THE INPUT: true; the input reads as it did. -/
def fnExactStackAtSpec : ChangeSpec := { name := "fnExactStackAt", fn := fun _ => fun
  | [d1, d2, d3] => { results := [.lit (.bool true)], args := [d1, d2, d3] }
  | _ => none }
def fnExactStackAtRow : OpenClaim := { program := "ytcklnjjbhngbcaa", sum := "7c2de304c8f7452dd570005501843ac84be0eafc88c4d36a9359342f3088af7b", func := "loop.example/lens/laws.FnExactStackAt", spec := "fnExactStackAt", plainKeys := false, apart := false }
def FnExactStackAtSaid : Prop := fnExactStackAtRow.holds Try.pinned (OpenSpec.ofChange fnExactStackAtSpec)

/-- ITS FALSE NEIGHBOUR: 'it returns false'. Refute it at one input. -/
def fnExactStackAtWrong : ChangeSpec := { name := "fnExactStackAt", fn := fun _ => fun
  | [d1, d2, d3] => { results := [.lit (.bool false)], args := [d1, d2, d3] }
  | _ => none }
def FnExactStackAtWrongFalsely : Prop := fnExactStackAtRow.holds Try.pinned (OpenSpec.ofChange fnExactStackAtWrong)

/-- 'laws.FnExactFnCounts': WHATEVER THE INPUT: true; the input reads as it did. -/
def fnExactFnCountsSpec : ChangeSpec := { name := "fnExactFnCounts", fn := fun _ => fun
  | [d] => { results := [.lit (.bool true)], args := [d] }
  | _ => none }
def fnExactFnCountsRow : OpenClaim := { program := "ytcklnjjbhngbcaa", sum := "7c2de304c8f7452dd570005501843ac84be0eafc88c4d36a9359342f3088af7b", func := "loop.example/lens/laws.FnExactFnCounts", spec := "fnExactFnCounts", plainKeys := false, apart := false }
def FnExactFnCountsSaid : Prop := fnExactFnCountsRow.holds Try.pinned (OpenSpec.ofChange fnExactFnCountsSpec)

/-- ITS FALSE NEIGHBOUR: 'it returns false'. Refute it at one input. -/
def fnExactFnCountsWrong : ChangeSpec := { name := "fnExactFnCounts", fn := fun _ => fun
  | [d] => { results := [.lit (.bool false)], args := [d] }
  | _ => none }
def FnExactFnCountsWrongFalsely : Prop := fnExactFnCountsRow.holds Try.pinned (OpenSpec.ofChange fnExactFnCountsWrong)

/-- 'laws.FnExactStopsAt': WHATEVER THE INPUT: true; the input reads as it did. -/
def fnExactStopsAtSpec : ChangeSpec := { name := "fnExactStopsAt", fn := fun _ => fun
  | [d1, d2, d3] => { results := [.lit (.bool true)], args := [d1, d2, d3] }
  | _ => none }
def fnExactStopsAtRow : OpenClaim := { program := "ytcklnjjbhngbcaa", sum := "7c2de304c8f7452dd570005501843ac84be0eafc88c4d36a9359342f3088af7b", func := "loop.example/lens/laws.FnExactStopsAt", spec := "fnExactStopsAt", unfollowed := true, recurses := true, plainKeys := false, apart := false }
def FnExactStopsAtSaid : Prop := fnExactStopsAtRow.holds Try.pinned (OpenSpec.ofChange fnExactStopsAtSpec)

/-- ITS FALSE NEIGHBOUR: 'it returns false'. Refute it at one input. -/
def fnExactStopsAtWrong : ChangeSpec := { name := "fnExactStopsAt", fn := fun _ => fun
  | [d1, d2, d3] => { results := [.lit (.bool false)], args := [d1, d2, d3] }
  | _ => none }
def FnExactStopsAtWrongFalsely : Prop := fnExactStopsAtRow.holds Try.pinned (OpenSpec.ofChange fnExactStopsAtWrong)

/-- 'laws.FnExactCallTree': WHATEVER THE INPUT: true; the input reads as it did. -/
def fnExactCallTreeSpec : ChangeSpec := { name := "fnExactCallTree", fn := fun _ => fun
  | [d] => { results := [.lit (.bool true)], args := [d] }
  | _ => none }
def fnExactCallTreeRow : OpenClaim := { program := "ytcklnjjbhngbcaa", sum := "7c2de304c8f7452dd570005501843ac84be0eafc88c4d36a9359342f3088af7b", func := "loop.example/lens/laws.FnExactCallTree", spec := "fnExactCallTree", plainKeys := false, apart := false }
def FnExactCallTreeSaid : Prop := fnExactCallTreeRow.holds Try.pinned (OpenSpec.ofChange fnExactCallTreeSpec)

/-- ITS FALSE NEIGHBOUR: 'it returns false'. Refute it at one input. -/
def fnExactCallTreeWrong : ChangeSpec := { name := "fnExactCallTree", fn := fun _ => fun
  | [d] => { results := [.lit (.bool false)], args := [d] }
  | _ => none }
def FnExactCallTreeWrongFalsely : Prop := fnExactCallTreeRow.holds Try.pinned (OpenSpec.ofChange fnExactCallTreeWrong)

/-- 'laws.FnExactHits': WHATEVER THE INPUT: true; the input reads as it did. -/
def fnExactHitsSpec : ChangeSpec := { name := "fnExactHits", fn := fun _ => fun
  | [d1, d2] => { results := [.lit (.bool true)], args := [d1, d2] }
  | _ => none }
def fnExactHitsRow : OpenClaim := { program := "ytcklnjjbhngbcaa", sum := "7c2de304c8f7452dd570005501843ac84be0eafc88c4d36a9359342f3088af7b", func := "loop.example/lens/laws.FnExactHits", spec := "fnExactHits", unfollowed := true, recurses := true, plainKeys := false, apart := false }
def FnExactHitsSaid : Prop := fnExactHitsRow.holds Try.pinned (OpenSpec.ofChange fnExactHitsSpec)

/-- ITS FALSE NEIGHBOUR: 'it returns false'. Refute it at one input. -/
def fnExactHitsWrong : ChangeSpec := { name := "fnExactHits", fn := fun _ => fun
  | [d1, d2] => { results := [.lit (.bool false)], args := [d1, d2] }
  | _ => none }
def FnExactHitsWrongFalsely : Prop := fnExactHitsRow.holds Try.pinned (OpenSpec.ofChange fnExactHitsWrong)

/-- 'laws.FnExactLast': WHATEVER THE INPUT: true; the input reads as it did. -/
def fnExactLastSpec : ChangeSpec := { name := "fnExactLast", fn := fun _ => fun
  | [d1, d2, d3] => { results := [.lit (.bool true)], args := [d1, d2, d3] }
  | _ => none }
def fnExactLastRow : OpenClaim := { program := "ytcklnjjbhngbcaa", sum := "7c2de304c8f7452dd570005501843ac84be0eafc88c4d36a9359342f3088af7b", func := "loop.example/lens/laws.FnExactLast", spec := "fnExactLast", unfollowed := true, recurses := true, plainKeys := false, apart := false }
def FnExactLastSaid : Prop := fnExactLastRow.holds Try.pinned (OpenSpec.ofChange fnExactLastSpec)

/-- ITS FALSE NEIGHBOUR: 'it returns false'. Refute it at one input. -/
def fnExactLastWrong : ChangeSpec := { name := "fnExactLast", fn := fun _ => fun
  | [d1, d2, d3] => { results := [.lit (.bool false)], args := [d1, d2, d3] }
  | _ => none }
def FnExactLastWrongFalsely : Prop := fnExactLastRow.holds Try.pinned (OpenSpec.ofChange fnExactLastWrong)

/-- 'laws.FnExactNext': WHATEVER THE INPUT: true; the input reads as it did. -/
def fnExactNextSpec : ChangeSpec := { name := "fnExactNext", fn := fun _ => fun
  | [d1, d2, d3] => { results := [.lit (.bool true)], args := [d1, d2, d3] }
  | _ => none }
def fnExactNextRow : OpenClaim := { program := "ytcklnjjbhngbcaa", sum := "7c2de304c8f7452dd570005501843ac84be0eafc88c4d36a9359342f3088af7b", func := "loop.example/lens/laws.FnExactNext", spec := "fnExactNext", unfollowed := true, recurses := true, plainKeys := false, apart := false }
def FnExactNextSaid : Prop := fnExactNextRow.holds Try.pinned (OpenSpec.ofChange fnExactNextSpec)

/-- ITS FALSE NEIGHBOUR: 'it returns false'. Refute it at one input. -/
def fnExactNextWrong : ChangeSpec := { name := "fnExactNext", fn := fun _ => fun
  | [d1, d2, d3] => { results := [.lit (.bool false)], args := [d1, d2, d3] }
  | _ => none }
def FnExactNextWrongFalsely : Prop := fnExactNextRow.holds Try.pinned (OpenSpec.ofChange fnExactNextWrong)

/-- 'laws.FnCounts': WHATEVER THE INPUT: true; the input reads as it did. -/
def fnCountsSpec : ChangeSpec := { name := "fnCounts", fn := fun _ => fun
  | [d] => { results := [.lit (.bool true)], args := [d] }
  | _ => none }
def fnCountsRow : OpenClaim := { program := "ytcklnjjbhngbcaa", sum := "7c2de304c8f7452dd570005501843ac84be0eafc88c4d36a9359342f3088af7b", func := "loop.example/lens/laws.FnCounts", spec := "fnCounts", unfollowed := true, recurses := true, plainKeys := false, apart := false }
def FnCountsSaid : Prop := fnCountsRow.holds Try.pinned (OpenSpec.ofChange fnCountsSpec)

/-- ITS FALSE NEIGHBOUR: 'it returns false'. Refute it at one input. -/
def fnCountsWrong : ChangeSpec := { name := "fnCounts", fn := fun _ => fun
  | [d] => { results := [.lit (.bool false)], args := [d] }
  | _ => none }
def FnCountsWrongFalsely : Prop := fnCountsRow.holds Try.pinned (OpenSpec.ofChange fnCountsWrong)

/-- 'laws.FnExactLineCounts': WHATEVER THE INPUT: true; the input reads as it did. -/
def fnExactLineCountsSpec : ChangeSpec := { name := "fnExactLineCounts", fn := fun _ => fun
  | [d] => { results := [.lit (.bool true)], args := [d] }
  | _ => none }
def fnExactLineCountsRow : OpenClaim := { program := "ytcklnjjbhngbcaa", sum := "7c2de304c8f7452dd570005501843ac84be0eafc88c4d36a9359342f3088af7b", func := "loop.example/lens/laws.FnExactLineCounts", spec := "fnExactLineCounts", unfollowed := true, recurses := true, plainKeys := false, apart := false }
def FnExactLineCountsSaid : Prop := fnExactLineCountsRow.holds Try.pinned (OpenSpec.ofChange fnExactLineCountsSpec)

/-- ITS FALSE NEIGHBOUR: 'it returns false'. Refute it at one input. -/
def fnExactLineCountsWrong : ChangeSpec := { name := "fnExactLineCounts", fn := fun _ => fun
  | [d] => { results := [.lit (.bool false)], args := [d] }
  | _ => none }
def FnExactLineCountsWrongFalsely : Prop := fnExactLineCountsRow.holds Try.pinned (OpenSpec.ofChange fnExactLineCountsWrong)

/- THE SECOND FORM. 'bulk': how many values and letters a reading holds, each counted each time it is reached (what is shared counts as often as it is met; a slice's spare places count too). A statement '..UptoSaid' is the law's where the arguments, and the package variables that the reading takes, are together of bulk at most 1048576: NARROWER than '..Said'. Prove '..Said' where nothing that the law and all that it calls make is longer than what came in: it says more and counts as full. Else prove '..UptoSaid'. A law counts once. -/
mutual
def uptoBulk {H : Type} : DataW H → Nat
  | .lit (.string bytes) => bytes.length + 1
  | .lit _ => 1
  | .nil => 1
  | .ptr d => uptoBulk d + 1
  | .slice elems spare => uptoBulkAll elems + uptoBulkAll spare + 1
  | .agg parts => uptoBulkAll parts + 1
  | .iface _ d => uptoBulk d + 1
  | .map entries => uptoBulkEntries entries + 1
  | .held _ => 1
def uptoBulkAll {H : Type} : List (DataW H) → Nat
  | [] => 0
  | d :: r => uptoBulk d + uptoBulkAll r
def uptoBulkEntries {H : Type} : List (Lit × DataW H) → Nat
  | [] => 0
  | x :: r => uptoBulkEntry x + uptoBulkEntries r
def uptoBulkEntry {H : Type} : Lit × DataW H → Nat
  | (.string bytes, d) => bytes.length + uptoBulk d + 1
  | (_, d) => uptoBulk d + 1
 end
def uptoSmall : (H : Type) → List (DataW H) → Bool := fun _ ds => decide (uptoBulkAll ds ≤ 1048576)
def OpenSpec.upto (s : _root_.Go.ChangeSpec) : _root_.Go.OpenSpec := { _root_.Go.OpenSpec.ofChange s with cond := some uptoSmall }

/-- 'laws.FnExactConstants', WHERE WHAT IT READS IS OF BULK AT MOST 1048576: true; the input reads as it did. -/
def fnExactConstantsUptoRow : OpenClaim := { program := "ytcklnjjbhngbcaa", sum := "7c2de304c8f7452dd570005501843ac84be0eafc88c4d36a9359342f3088af7b", func := "loop.example/lens/laws.FnExactConstants", spec := "fnExactConstants", plainKeys := false, apart := false, narrowed := true }
def FnExactConstantsUptoSaid : Prop := fnExactConstantsUptoRow.holds Try.pinned (OpenSpec.upto fnExactConstantsSpec)

/-- 'laws.FnExactStopOk', WHERE WHAT IT READS IS OF BULK AT MOST 1048576: true; the input reads as it did. -/
def fnExactStopOkUptoRow : OpenClaim := { program := "ytcklnjjbhngbcaa", sum := "7c2de304c8f7452dd570005501843ac84be0eafc88c4d36a9359342f3088af7b", func := "loop.example/lens/laws.FnExactStopOk", spec := "fnExactStopOk", plainKeys := false, apart := false, narrowed := true }
def FnExactStopOkUptoSaid : Prop := fnExactStopOkUptoRow.holds Try.pinned (OpenSpec.upto fnExactStopOkSpec)

/-- 'laws.FnWatch', WHERE WHAT IT READS IS OF BULK AT MOST 1048576: true; the input reads as it did. -/
def fnWatchUptoRow : OpenClaim := { program := "ytcklnjjbhngbcaa", sum := "7c2de304c8f7452dd570005501843ac84be0eafc88c4d36a9359342f3088af7b", func := "loop.example/lens/laws.FnWatch", spec := "fnWatch", unfollowed := true, recurses := true, plainKeys := false, apart := false, narrowed := true }
def FnWatchUptoSaid : Prop := fnWatchUptoRow.holds Try.pinned (OpenSpec.upto fnWatchSpec)

/-- 'laws.FnDeep', WHERE WHAT IT READS IS OF BULK AT MOST 1048576: true; the input reads as it did. -/
def fnDeepUptoRow : OpenClaim := { program := "ytcklnjjbhngbcaa", sum := "7c2de304c8f7452dd570005501843ac84be0eafc88c4d36a9359342f3088af7b", func := "loop.example/lens/laws.FnDeep", spec := "fnDeep", unfollowed := true, recurses := true, plainKeys := false, apart := false, narrowed := true }
def FnDeepUptoSaid : Prop := fnDeepUptoRow.holds Try.pinned (OpenSpec.upto fnDeepSpec)

/-- 'laws.FnStacks', WHERE WHAT IT READS IS OF BULK AT MOST 1048576: true; the input reads as it did. -/
def fnStacksUptoRow : OpenClaim := { program := "ytcklnjjbhngbcaa", sum := "7c2de304c8f7452dd570005501843ac84be0eafc88c4d36a9359342f3088af7b", func := "loop.example/lens/laws.FnStacks", spec := "fnStacks", plainKeys := false, apart := false, narrowed := true }
def FnStacksUptoSaid : Prop := fnStacksUptoRow.holds Try.pinned (OpenSpec.upto fnStacksSpec)

/-- 'laws.FnSteps', WHERE WHAT IT READS IS OF BULK AT MOST 1048576: true; the input reads as it did. -/
def fnStepsUptoRow : OpenClaim := { program := "ytcklnjjbhngbcaa", sum := "7c2de304c8f7452dd570005501843ac84be0eafc88c4d36a9359342f3088af7b", func := "loop.example/lens/laws.FnSteps", spec := "fnSteps", unfollowed := true, recurses := true, plainKeys := false, apart := false, narrowed := true }
def FnStepsUptoSaid : Prop := fnStepsUptoRow.holds Try.pinned (OpenSpec.upto fnStepsSpec)

/-- 'laws.FnExactTraceOk', WHERE WHAT IT READS IS OF BULK AT MOST 1048576: true; the input reads as it did. -/
def fnExactTraceOkUptoRow : OpenClaim := { program := "ytcklnjjbhngbcaa", sum := "7c2de304c8f7452dd570005501843ac84be0eafc88c4d36a9359342f3088af7b", func := "loop.example/lens/laws.FnExactTraceOk", spec := "fnExactTraceOk", plainKeys := false, apart := false, narrowed := true }
def FnExactTraceOkUptoSaid : Prop := fnExactTraceOkUptoRow.holds Try.pinned (OpenSpec.upto fnExactTraceOkSpec)

/-- 'laws.FnExactRunningAt', WHERE WHAT IT READS IS OF BULK AT MOST 1048576: true; the input reads as it did. -/
def fnExactRunningAtUptoRow : OpenClaim := { program := "ytcklnjjbhngbcaa", sum := "7c2de304c8f7452dd570005501843ac84be0eafc88c4d36a9359342f3088af7b", func := "loop.example/lens/laws.FnExactRunningAt", spec := "fnExactRunningAt", plainKeys := false, apart := false, narrowed := true }
def FnExactRunningAtUptoSaid : Prop := fnExactRunningAtUptoRow.holds Try.pinned (OpenSpec.upto fnExactRunningAtSpec)

/-- 'laws.FnExactBefore', WHERE WHAT IT READS IS OF BULK AT MOST 1048576: true; the input reads as it did. -/
def fnExactBeforeUptoRow : OpenClaim := { program := "ytcklnjjbhngbcaa", sum := "7c2de304c8f7452dd570005501843ac84be0eafc88c4d36a9359342f3088af7b", func := "loop.example/lens/laws.FnExactBefore", spec := "fnExactBefore", plainKeys := false, apart := false, narrowed := true }
def FnExactBeforeUptoSaid : Prop := fnExactBeforeUptoRow.holds Try.pinned (OpenSpec.upto fnExactBeforeSpec)

/-- 'laws.FnExactInto', WHERE WHAT IT READS IS OF BULK AT MOST 1048576: true; the input reads as it did. -/
def fnExactIntoUptoRow : OpenClaim := { program := "ytcklnjjbhngbcaa", sum := "7c2de304c8f7452dd570005501843ac84be0eafc88c4d36a9359342f3088af7b", func := "loop.example/lens/laws.FnExactInto", spec := "fnExactInto", unfollowed := true, recurses := true, plainKeys := false, apart := false, narrowed := true }
def FnExactIntoUptoSaid : Prop := fnExactIntoUptoRow.holds Try.pinned (OpenSpec.upto fnExactIntoSpec)

/-- 'laws.FnExactOut', WHERE WHAT IT READS IS OF BULK AT MOST 1048576: true; the input reads as it did. -/
def fnExactOutUptoRow : OpenClaim := { program := "ytcklnjjbhngbcaa", sum := "7c2de304c8f7452dd570005501843ac84be0eafc88c4d36a9359342f3088af7b", func := "loop.example/lens/laws.FnExactOut", spec := "fnExactOut", unfollowed := true, recurses := true, plainKeys := false, apart := false, narrowed := true }
def FnExactOutUptoSaid : Prop := fnExactOutUptoRow.holds Try.pinned (OpenSpec.upto fnExactOutSpec)

/-- 'laws.FnExactOver', WHERE WHAT IT READS IS OF BULK AT MOST 1048576: true; the input reads as it did. -/
def fnExactOverUptoRow : OpenClaim := { program := "ytcklnjjbhngbcaa", sum := "7c2de304c8f7452dd570005501843ac84be0eafc88c4d36a9359342f3088af7b", func := "loop.example/lens/laws.FnExactOver", spec := "fnExactOver", unfollowed := true, recurses := true, plainKeys := false, apart := false, narrowed := true }
def FnExactOverUptoSaid : Prop := fnExactOverUptoRow.holds Try.pinned (OpenSpec.upto fnExactOverSpec)

/-- 'laws.FnStops', WHERE WHAT IT READS IS OF BULK AT MOST 1048576: true; the input reads as it did. -/
def fnStopsUptoRow : OpenClaim := { program := "ytcklnjjbhngbcaa", sum := "7c2de304c8f7452dd570005501843ac84be0eafc88c4d36a9359342f3088af7b", func := "loop.example/lens/laws.FnStops", spec := "fnStops", unfollowed := true, recurses := true, plainKeys := false, apart := false, narrowed := true }
def FnStopsUptoSaid : Prop := fnStopsUptoRow.holds Try.pinned (OpenSpec.upto fnStopsSpec)

/-- 'laws.FnExactStackAt', WHERE WHAT IT READS IS OF BULK AT MOST 1048576: true; the input reads as it did. -/
def fnExactStackAtUptoRow : OpenClaim := { program := "ytcklnjjbhngbcaa", sum := "7c2de304c8f7452dd570005501843ac84be0eafc88c4d36a9359342f3088af7b", func := "loop.example/lens/laws.FnExactStackAt", spec := "fnExactStackAt", plainKeys := false, apart := false, narrowed := true }
def FnExactStackAtUptoSaid : Prop := fnExactStackAtUptoRow.holds Try.pinned (OpenSpec.upto fnExactStackAtSpec)

/-- 'laws.FnExactFnCounts', WHERE WHAT IT READS IS OF BULK AT MOST 1048576: true; the input reads as it did. -/
def fnExactFnCountsUptoRow : OpenClaim := { program := "ytcklnjjbhngbcaa", sum := "7c2de304c8f7452dd570005501843ac84be0eafc88c4d36a9359342f3088af7b", func := "loop.example/lens/laws.FnExactFnCounts", spec := "fnExactFnCounts", plainKeys := false, apart := false, narrowed := true }
def FnExactFnCountsUptoSaid : Prop := fnExactFnCountsUptoRow.holds Try.pinned (OpenSpec.upto fnExactFnCountsSpec)

/-- 'laws.FnExactStopsAt', WHERE WHAT IT READS IS OF BULK AT MOST 1048576: true; the input reads as it did. -/
def fnExactStopsAtUptoRow : OpenClaim := { program := "ytcklnjjbhngbcaa", sum := "7c2de304c8f7452dd570005501843ac84be0eafc88c4d36a9359342f3088af7b", func := "loop.example/lens/laws.FnExactStopsAt", spec := "fnExactStopsAt", unfollowed := true, recurses := true, plainKeys := false, apart := false, narrowed := true }
def FnExactStopsAtUptoSaid : Prop := fnExactStopsAtUptoRow.holds Try.pinned (OpenSpec.upto fnExactStopsAtSpec)

/-- 'laws.FnExactCallTree', WHERE WHAT IT READS IS OF BULK AT MOST 1048576: true; the input reads as it did. -/
def fnExactCallTreeUptoRow : OpenClaim := { program := "ytcklnjjbhngbcaa", sum := "7c2de304c8f7452dd570005501843ac84be0eafc88c4d36a9359342f3088af7b", func := "loop.example/lens/laws.FnExactCallTree", spec := "fnExactCallTree", plainKeys := false, apart := false, narrowed := true }
def FnExactCallTreeUptoSaid : Prop := fnExactCallTreeUptoRow.holds Try.pinned (OpenSpec.upto fnExactCallTreeSpec)

/-- 'laws.FnExactHits', WHERE WHAT IT READS IS OF BULK AT MOST 1048576: true; the input reads as it did. -/
def fnExactHitsUptoRow : OpenClaim := { program := "ytcklnjjbhngbcaa", sum := "7c2de304c8f7452dd570005501843ac84be0eafc88c4d36a9359342f3088af7b", func := "loop.example/lens/laws.FnExactHits", spec := "fnExactHits", unfollowed := true, recurses := true, plainKeys := false, apart := false, narrowed := true }
def FnExactHitsUptoSaid : Prop := fnExactHitsUptoRow.holds Try.pinned (OpenSpec.upto fnExactHitsSpec)

/-- 'laws.FnExactLast', WHERE WHAT IT READS IS OF BULK AT MOST 1048576: true; the input reads as it did. -/
def fnExactLastUptoRow : OpenClaim := { program := "ytcklnjjbhngbcaa", sum := "7c2de304c8f7452dd570005501843ac84be0eafc88c4d36a9359342f3088af7b", func := "loop.example/lens/laws.FnExactLast", spec := "fnExactLast", unfollowed := true, recurses := true, plainKeys := false, apart := false, narrowed := true }
def FnExactLastUptoSaid : Prop := fnExactLastUptoRow.holds Try.pinned (OpenSpec.upto fnExactLastSpec)

/-- 'laws.FnExactNext', WHERE WHAT IT READS IS OF BULK AT MOST 1048576: true; the input reads as it did. -/
def fnExactNextUptoRow : OpenClaim := { program := "ytcklnjjbhngbcaa", sum := "7c2de304c8f7452dd570005501843ac84be0eafc88c4d36a9359342f3088af7b", func := "loop.example/lens/laws.FnExactNext", spec := "fnExactNext", unfollowed := true, recurses := true, plainKeys := false, apart := false, narrowed := true }
def FnExactNextUptoSaid : Prop := fnExactNextUptoRow.holds Try.pinned (OpenSpec.upto fnExactNextSpec)

/-- 'laws.FnCounts', WHERE WHAT IT READS IS OF BULK AT MOST 1048576: true; the input reads as it did. -/
def fnCountsUptoRow : OpenClaim := { program := "ytcklnjjbhngbcaa", sum := "7c2de304c8f7452dd570005501843ac84be0eafc88c4d36a9359342f3088af7b", func := "loop.example/lens/laws.FnCounts", spec := "fnCounts", unfollowed := true, recurses := true, plainKeys := false, apart := false, narrowed := true }
def FnCountsUptoSaid : Prop := fnCountsUptoRow.holds Try.pinned (OpenSpec.upto fnCountsSpec)

/-- 'laws.FnExactLineCounts', WHERE WHAT IT READS IS OF BULK AT MOST 1048576: true; the input reads as it did. -/
def fnExactLineCountsUptoRow : OpenClaim := { program := "ytcklnjjbhngbcaa", sum := "7c2de304c8f7452dd570005501843ac84be0eafc88c4d36a9359342f3088af7b", func := "loop.example/lens/laws.FnExactLineCounts", spec := "fnExactLineCounts", unfollowed := true, recurses := true, plainKeys := false, apart := false, narrowed := true }
def FnExactLineCountsUptoSaid : Prop := fnExactLineCountsUptoRow.holds Try.pinned (OpenSpec.upto fnExactLineCountsSpec)

end Rows
end Go.Proofs.Ytcklnjjbhngbcaa
