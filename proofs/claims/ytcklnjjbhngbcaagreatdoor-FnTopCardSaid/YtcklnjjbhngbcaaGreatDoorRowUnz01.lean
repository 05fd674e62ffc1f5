/- Lemmas and contracts of functions that the theorem of this claim leans on (texts S0, S1). -/
import Derived.Test.YtcklnjjbhngbcaaGreatDoorRows
import Derived.WalkKit
import Derived.ProofKit
import Derived.OpenShut
import Derived.ShutString
import Derived.ChangeOld
import Derived.Below
import Derived.SizedLaws
namespace Go.Proofs.YtcklnjjbhngbcaaGreatDoor
open Go.ChangeShapes Go.WideShapes Go.ChangeAt Go.RowKit

theorem toList_of {s : String} (l : List Char) (h : s = String.ofList l) : s.toList = l := by rw [h]; exact String.toList_ofList

theorem make_gen (P : Program) (l : List Char) (h : P.initOrder.toList = l) (h2 : (behindMainWord (wordsSigns l)).head? = some "cut".toList) : P.make = some .cut := by
  unfold Program.make
  rw [h]
  match hb : behindMainWord (wordsSigns l) with
  | [] => rw [hb] at h2; cases h2
  | c :: rest =>
    rw [hb] at h2
    have : c = "cut".toList := by simpa using h2
    subst this
    rfl
theorem lifts_gen (P : Program) (l : List Char) (h : P.initOrder.toList = l) (r : Bool)
    (h2 : (((behindMainWord (wordsSigns l)).head? == some "carried".toList && (behindMainWord (wordsSigns l)).take 3 != ["carried".toList, "gc".toList, "cut".toList]) ||
      (if (stripLifts liftWords (behindMainWord (wordsSigns l))).2.head? == some "cut".toList then (stripLifts liftWords (behindMainWord (wordsSigns l))).1 else []).contains "finals") = r) : P.liftsFinal = r := by
  subst h
  exact h2
theorem mayEnter_gen (P : Program) (l : List Char) (h : P.initOrder.toList = l)
    (h1 : ((stripLifts liftWords (behindMainWord (wordsSigns l))).2.head? == some "cut".toList) = true) (h2 : P.laysLater = false) (h3 : P.bearsReflect = false)
    (h4 : ((stripLifts liftWords (behindMainWord (wordsSigns l))).1.contains "leanrows") = false)
    (h5 : P.doorFits (stripLifts liftWords (behindMainWord (wordsSigns l))).1 = true) : P.mayEnter = true := by
  unfold Program.mayEnter
  rw [h]
  match hb : behindMainWord (wordsSigns l) with
  | [] => rw [hb] at h1; exact absurd h1 (by decide)
  | c :: rest =>
    rw [hb] at h1 h4 h5
    simp only [h1, h2, h3, h4, h5, Bool.not_false, Bool.or_true, Bool.and_true]

/-- The text of the translation's head, as a list that the kernel can go through. -/
noncomputable def S0.initS : { l : List Char // Tryz.prog.initOrder = String.ofList l } := by
  set_option maxRecDepth 100000 in exact ⟨_, rfl⟩
theorem S0.initL : Tryz.prog.initOrder.toList = S0.initS.1 := toList_of _ S0.initS.2

theorem S0.laid : laidOutB Tryz.prog = true := by kernel_rfl
theorem S0.mapsRowed : mapsRowed Tryz.prog = true := by kernel_rfl
theorem S0.stopsHeard : Tryz.prog.stopsHeard = true := by kernel_rfl
theorem S0.stops : (Tryz.prog.stops == []) = true := by kernel_rfl
theorem S0.stopKnobs : (Tryz.prog.stopKnobs == []) = true := by kernel_rfl
theorem S0.plainKeys : Tryz.prog.plainKeys = false := by kernel_rfl
theorem S0.own : ownKnob Tryz.prog.godebug = none := by kernel_rfl
theorem S0.make : Tryz.prog.make = some .cut := make_gen _ _ S0.initL (by kernel_rfl)
theorem S0.lifts : Tryz.prog.liftsFinal = false := lifts_gen _ _ S0.initL _ (by kernel_rfl)
theorem S0.lays : Tryz.prog.laysLater = false := by kernel_rfl
theorem S0.refl : Tryz.prog.bearsReflect = false := by kernel_rfl
theorem S0.mayEnter : Tryz.prog.mayEnter = true := mayEnter_gen _ _ S0.initL (by kernel_rfl) S0.lays S0.refl (by kernel_rfl) (by kernel_rfl)

/-- A row's closed facts: those of the program, then the row's own. -/
theorem facts_gen {P : Program} {f : FuncId} {fn : Func} {s : ChangeSpec} {c : OpenClaim} {pk lf : Bool} {mk : Make}
    (h : (c.wf (OpenSpec.ofChange s) && fn.params.all (P.readableRec ·) && namedTie P c.named s.vars &&
      (c.stops == []) && (c.knobs == []) &&
      (c.inPlace == P.inPlace f) && (c.unfollowed == P.unfollowed f) && (c.recurses == P.recurses f) && (c.named == P.varsNamed f) &&
      (c.maps == (fn.params.toList ++ s.plain.varTypes P).any (P.mapsRec ·)) && (c.ifaces == (fn.params.toList ++ s.plain.varTypes P).any (P.ifacesRec ·)) && (c.mapsOut == P.mapsAmong fn.resultTypes.toList) &&
      (c.loops == (fn.params.toList ++ s.plain.varTypes P).any (P.loopsFrom ·)) && (c.wideKeys == (fn.params.toList ++ s.plain.varTypes P ++ fn.resultTypes.toList).any (P.wideKeysFrom ·)) &&
      s.vars.all (P.varReadable ·) && fn.resultTypes.all (fun t => P.readableRec t && decide (t < P.types.size)) && (c.ifacesOut == fn.resultTypes.toList.any (P.ifacesRec ·)) && (c.loopsOut == fn.resultTypes.toList.any (P.loopsFrom ·)) && (c.plainKeys == pk) && c.shortTexts.isNone && (c.lifted == lf) && (some mk == some c.make) && (c.kinds == (if c.domain.isEmpty then [] else fn.params.toList.map fun t => match P.underlying t with | some (.int k) => some k | _ => none)) && (c.pinned == c.pinnedBy) &&
      (c.veiled == (fn.params.toList ++ s.plain.varTypes P ++ fn.resultTypes.toList).any (P.veiledRec ·)) && c.veiledFits P fn.params.toList (fn.params.toList ++ s.plain.varTypes P ++ fn.resultTypes.toList)) = true)
    (l1 : laidOutB P = true) (l2 : mapsRowed P = true) (l3 : P.stopsHeard = true) (l4 : (P.stops == []) = true) (l5 : (P.stopKnobs == []) = true) (l6 : P.plainKeys = pk) (l7 : P.make = some mk) (l8 : P.liftsFinal = lf) (l9 : P.mayEnter = true) :
    joinedFacts P f fn s c = true := by
  unfold joinedFacts
  rw [l1, l2, l3, l4, l5, l6, l7, l8, l9]
  simp only [Bool.and_eq_true, and_assoc] at h ⊢
  obtain ⟨a1, a2, a3, a4, a5, a6, a7, a8, a9, a10, a11, a12, a13, a14, a15, a16, a17, a18, a19, a20, a21, a22, a23, a24, a25, a26⟩ := h
  exact ⟨a1, trivial, trivial, a2, a3, a4, trivial, a5, trivial, a6, a7, a8, a9, a10, a11, a12, a13, a14, a15, a16, a17, a18, a19, a20, trivial, trivial, a21, a22, a23, a24, a25, a26⟩

end Go.Proofs.YtcklnjjbhngbcaaGreatDoor

namespace Go.Proofs.YtcklnjjbhngbcaaGreatDoor
open Go.ChangeShapes Go.WideShapes Go.ChangeAt Go.RowKit

/-- What was read is read again behind a call that has turned nothing that was there. -/
theorem trodAll_below {H : Type} {enc : TypeId × Value → H} {P : Program} (hl : laidOutB P = true) {W W' : World} (hb : Below W.heap.size W W') :
    ∀ {ts : List TypeId} {vs : List Value} {ds : List (DataW H)} {ps : List MemPlace}, (∀ t ∈ ts, P.readableRec t = true ∧ t < P.types.size) →
      DataW.TrodAll enc P W 0 (fun _ => true) true ts vs ds ps → DataW.TrodAll enc P W' 0 (fun b => decide (b < W.heap.size)) true ts vs ds ps
  | [], [], [], _, _, h => h
  | t :: ts, v :: vs, d :: ds, ps, hr, h => by
    have hlt := DataW.TrodAll.lt h
    obtain ⟨p, q, h1, h2, rfl⟩ := h
    exact ⟨p, q, Below.trod hl (hr t (by simp)).1 (hr t (by simp)).2 h1 hb (fun x hx => hlt x (by simp [hx])), trodAll_below hl hb (fun u hu => hr u (by simp [hu])) h2, rfl⟩
  | [], _ :: _, _, _, _, h => h.elim
  | [], [], _ :: _, _, _, h => h.elim
  | _ :: _, [], _, _, _, h => h.elim
  | _ :: _, _ :: _, [], _, _, h => h.elim

end Go.Proofs.YtcklnjjbhngbcaaGreatDoor
