/- Proved: FnUndo answers true at every input that it can be called with, and leaves its arguments as they were; the one variable of the library's that its row lists, the handle of the type error, is tied to the program's text. -/
import Derived.Test.YtcklnjjbhngbcaaGreatDoorRowUnz24
import Derived.Test.YtcklnjjbhngbcaaGreatDoorRowUnz48
namespace Go.Proofs.YtcklnjjbhngbcaaGreatDoor
open Go.ChangeShapes Go.WideShapes Go.ChangeAt Go.RowKit Go.Proofs.Lens

set_option maxRecDepth 1000000 in
theorem fundo_lifted (os : Os) (started : os.Started) (H : Type) (enc : TypeId × Value → H) :
    ReturnsInHanded {} Tryz.checked os 4 .any (fun w args => (Rows.fnUndoSpec.pre enc Tryz.prog Tryz.f4 [] false w args ∧ laidMetH Tryz.prog laidE w) ∧ sizedMet enc Tryz.prog Tryz.f4 (OpenSpec.ofChange Rows.fnUndoSpec) false w args)
      (Rows.fnUndoSpec.post enc Tryz.prog Tryz.f4 false true false false) := by
  refine returnsInHanded_of_change_and (C := Tryz.checked) (X := fun w _ => laidMetH Tryz.prog laidE w) (fun _ _ _ hh h => h.of_heap hh) S0.own started (by kernel_rfl) Tryz.func4
    (ChangeSpec.witness_shaped (enc := enc) (C := Tryz.checked) (os := os) (X := fun w _ => laidMetH Tryz.prog laidE w) false (World.doorLaid Tryz.prog 400 os) #[.slice none 0 0, .slice none 0 0] 8 rfl (World.shaped_of_RefB (by kernel_rfl) (by kernel_rfl)) (by kernel_rfl) (by kernel_rfl) (by kernel_rfl) (doorE_met os _)) ?_
  intro W base args ds gs before hval hW _ _ hL _
  have hW' := hW
  obtain ⟨p, q, hA, hV, rfl, _, _⟩ := hW
  have hgs : gs = [] ∧ q = [] := by
    cases gs with
    | nil => exact ⟨rfl, hV⟩
    | cons _ _ => exact hV.elim
  obtain ⟨rfl, rfl⟩ := hgs
  obtain ⟨v0, u0, d0, d1, p0, p1, ha, hd, -⟩ := trodAll_two (by have h := hA; rw [Tryz.params4] at h; exact h)
  subst hd
  refine (undo_walk H enc W base args [d0, d1] p hval hA (errLaid_of_laid hL)).mono fun e W' hh => ?_
  obtain ⟨he, bel⟩ := hh
  subst he
  refine ⟨_, rfl, [d0, d1], [], _, [], p, [], hW', ?_, ?_, ?_, bel.frame _, fun h => by cases h⟩
  · rw [List.append_nil]
    exact trodAll_mk1 (shut_bool Tryz.underlying4 _)
  · rw [List.append_nil]
    exact trodAll_below S0.laid bel (fun t ht => by
      have hall : Tryz.f4.params.toList.all (fun t => Tryz.prog.readableRec t && decide (t < Tryz.prog.types.size)) = true := by kernel_rfl
      simpa using List.all_eq_true.1 hall t ht) hA
  · rw [List.append_nil]
    rfl
theorem fundo_facts : joinedFacts Tryz.pinned.checked.prog 4 Tryz.f4 Rows.fnUndoSpec Rows.fnUndoRow = true :=
  facts_gen (by kernel_rfl) S0.laid S0.mapsRowed S0.stopsHeard S0.stops S0.stopKnobs S0.plainKeys S0.make S0.lifts S0.mayEnter
theorem fundo_holds : Rows.FnUndoSaid :=
  OpenClaim.holds_of_wide 4 Tryz.f4 rfl rfl rfl rfl rfl rfl rfl ⟨rfl, rfl, rfl, rfl, rfl⟩ rfl rfl rfl rfl rfl (by kernel_rfl) Tryz.func4 fundo_facts
    (of_decide_eq_true (by kernel_rfl)) (by unfold Func.isWrapper; rw [if_neg (by decide +kernel)]; exact ⟨rfl, rfl⟩)
    (fun os started H enc _ => fundo_lifted os started H enc)
theorem fnUndo_card : Rows.FnUndoCardSaid :=
  Claim7.holds_tied_plain_at .later [] [.handle] true (true, "a29501dc3719d7d59347b621939e9ce513579e57a110c9faebdddb7ba5a1c330") true
    fundo_holds (fun _ h => by cases h) (by kernel_rfl) (fun _ h => by cases h) fnUndo_row_tie rfl ⟨rfl, rfl⟩ (by kernel_rfl) rfl
    (fun f fn hf hfn => by
      obtain rfl : f = 4 := Option.some.inj ((show Tryz.prog.funcNamed "loop.example/lens/laws.FnUndo" = some 4 by kernel_rfl).symm.trans hf) |>.symm
      obtain rfl : fn = Tryz.f4 := (Option.some.inj (Tryz.func4.symm.trans hfn)).symm
      exact ⟨by kernel_rfl, fun j t ht => by
        rw [Tryz.params4] at ht
        have hm : t ∈ [22, 22] := by simpa using Array.mem_of_getElem? ht
        have hall : ([22, 22].all fun u => !Tryz.prog.wantsStandIn u) = true := by kernel_rfl
        exact (show Tryz.prog.wantsStandIn t = false by simpa using List.all_eq_true.1 hall t hm)⟩)
    (by kernel_rfl)
#print axioms fnUndo_card
end Go.Proofs.YtcklnjjbhngbcaaGreatDoor
