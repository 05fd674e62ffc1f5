/- The specification's l2branch. -/
import Derived.Test.YtcklnjjbhngbcaaT9
import Derived.Test.YtcklnjjbhngbcaaF1
namespace Go.Proofs.Ytcklnjjbhngbcaa
open Go.RowKit Go.Proofs.Lens

/-- The list with the branch, and the branch's place. -/
def BrPost (w : World) (lo : Nat) (br : List PBr) (p fn : Int) (v : Value) (e : Ending) (w' : World) : Prop :=
  ∃ b cap, e = .returned (.tuple #[.slice (some ⟨b, 0, none⟩) (brAdd br p fn).length cap, .int .i64 (brAt br p fn)]) ∧ OwR w' lo 52 4 (brAdd br p fn).length (brC (brAdd br p fn)) (.slice (some ⟨b, 0, none⟩) (brAdd br p fn).length cap) ∧ w.grownBy w' v.ownBlock
set_option maxRecDepth 100000 in
set_option maxHeartbeats 2000000 in
theorem l2branch_calls (lo b0 cap0 : Nat) (br : List PBr) (p fn : Int) (w : World) (h : OwR w lo 52 4 br.length (brC br) (.slice (some ⟨b0, 0, none⟩) br.length cap0)) (hn : br.length ≤ 1048576) (hlo : lo ≤ w.heap.size) :
    Calls Try.prog 125 #[.slice (some ⟨b0, 0, none⟩) br.length cap0, .int .i64 p, .int .i64 fn] w (BrPost w lo br p fn (.slice (some ⟨b0, 0, none⟩) br.length cap0)) := by
  have HO0 := Lib.hid h
  clear h
  go_enter Try.func125, Try.ntmps125
  go_wp2_with fail
  go_loopw [12] (fun i wr => ∃ q : Nat, q ≤ br.length ∧ i = .int .i64 q ∧ (∀ i, i < q → brIs p fn (elt br i) = false) ∧ Below w.heap.size w wr) (fun i _ => br.length - (intOf i).toNat)
  case atStart => exact ⟨0, Nat.zero_le _, rfl, fun i hi => absurd hi (by omega), Below.refl _ _⟩
  case round =>
    obtain ⟨q, hq, rfl, hno, hb⟩ := hrel
    have HN := Lib.hid hno
    have HB := Lib.hid hb
    have HO := Lib.hid (HO0.out.later hb)
    clear hno hb
    by_cases hlt : q < br.length
    · have x0 : wr.cell? ⟨b0, q * 4, none⟩ = some (.int .i64 (elt br q).fn) := HO.out.cells hlt (j := 0) (by omega)
      have x1 : wr.cell? ⟨b0, q * 4 + 1, none⟩ = some (.int .i64 (elt br q).par) := HO.out.cells hlt (j := 1) (by omega)
      have x2 : wr.cell? ⟨b0, q * 4 + 2, none⟩ = some (.int .i64 (elt br q).cal) := HO.out.cells hlt (j := 2) (by omega)
      have x3 : wr.cell? ⟨b0, q * 4 + 3, none⟩ = some (.int .i64 (elt br q).slf) := HO.out.cells hlt (j := 3) (by omega)
      have HI : Hid (brIs p fn (elt br q) = (((elt br q).par == p) && ((elt br q).fn == fn))) := Lib.hid (by unfold brIs; rw [Bool.beq_eq_decide_eq, Bool.beq_eq_decide_eq])
      generalize hk1 : ((elt br q).par == p) = q1 at HI
      generalize hk2 : ((elt br q).fn == fn) = q2 at HI
      cases q1 <;> cases q2
      all_goals
        go_wp2
        first
          | (go_roundw
             case rel => exact ⟨q + 1, by omega, by go_num, fun i hi => by
               by_cases hiq : i = q
               · rw [hiq, HI.out]; rfl
               · exact HN.out i (by omega), bl_alloc HB.out _⟩
             case measure => simp [intOf]; omega)
          | (go_ret2
             have hat := brAt_hit hlt HN.out HI.out
             have had : brAdd br p fn = br := brAdd_hit (by rw [hat]; exact hlt)
             unfold BrPost
             rw [hat, had]
             exact ⟨b0, cap0, rfl, HO.out.later (bl_alloc (Below.refl _ _) _), ⟨(bl_alloc HB.out _).os, (bl_alloc HB.out _).tape, (bl_alloc HB.out _).output, (bl_alloc HB.out _).size, fun i hi _ => (bl_alloc HB.out _).block i hi⟩⟩)
    · obtain rfl : q = br.length := by omega
      have hat := brAt_miss HN.out
      have had : brAdd br p fn = br ++ [⟨fn, p, 0, 0⟩] := brAdd_miss hat
      have HAT := Lib.hid hat
      have HAD := Lib.hid had
      have hsz := HB.out.size
      clear hat had
      go_wp2_with (at_builtin; refine stopped ?_)
      unfold Stopped
      refine wpList_append1 _ (by rfl) _ _ 47 (by rfl) lo 52 _ 4 32 Try.underlying47 i_br rfl (by omega) _ br.length _ (brC (br ++ [⟨fn, p, 0, 0⟩])) (by rfl) HO.out [.int .i64 fn, .int .i64 p, .int .i64 0, .int .i64 0] rfl (by simp [Value.oneCell']) (by rfl) (fun i hi j _ => (brC_snoc hi j).symm) ?hN (by omega) (by omega) (by omega) ?_
      case hN =>
        intro j hj
        rw [brC_last]
        match j, hj with
        | 0, _ => rfl
        | 1, _ => rfl
        | 2, _ => rfl
        | 3, _ => rfl
      intro ga cap w1 hO1 hG1 _ _
      have HO1 := Lib.hid hO1
      have HG1 := Lib.hid hG1
      clear hO1 hG1
      go_wp2
      go_ret2
      unfold BrPost
      rw [HAT.out, HAD.out]
      have hb := HB.out
      exact ⟨ga, cap, by simp, by simpa using HO1.out, World.grownBy.trans ⟨hb.os, hb.tape, hb.output, hb.size, fun i hi _ => hb.block i hi⟩ HG1.out⟩
end Go.Proofs.Ytcklnjjbhngbcaa
