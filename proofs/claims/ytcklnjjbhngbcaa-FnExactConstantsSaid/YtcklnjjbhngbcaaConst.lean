/- FnExactConstants' walk. -/
import Derived.Test.YtcklnjjbhngbcaaS1
namespace Go.Proofs.Ytcklnjjbhngbcaa
open Go.ChangeShapes Go.WideShapes Go.ChangeAt Go.RowKit
theorem constants_walk (H : Type) (enc : TypeId × Value → H) (W : World) (base : Nat) (args : Array Value) (ds : List (DataW H)) (ps : List MemPlace)
    (_ : ∀ (j : Nat) t v, Try.f3.params[j]? = some t → args[j]? = some v → Value.okWide Try.prog W .any base t v)
    (h : DataW.TrodAll enc Try.prog W 0 (fun _ => true) true Try.f3.params.toList args.toList ds ps) :
    Calls Try.prog 3 args W fun e W' => e = .returned (.bool true) ∧ Below W.heap.size W W' := by
  obtain ⟨ha, _, _⟩ := trodAll_none h
  have ha' : args = #[] := by simpa using ha
  subst ha'
  go_enter Try.func3, Try.ntmps3
  go_wp2
  go_ret
  exact ⟨rfl, Below.refl _ _⟩
end Go.Proofs.Ytcklnjjbhngbcaa
