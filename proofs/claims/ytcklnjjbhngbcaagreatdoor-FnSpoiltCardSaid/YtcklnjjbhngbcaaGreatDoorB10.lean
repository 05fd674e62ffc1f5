/- Slices of bytes that came in. -/
import Derived.Test.YtcklnjjbhngbcaaGreatDoorB1
namespace Go.Proofs.YtcklnjjbhngbcaaGreatDoor
open Go.RowKit Go.Proofs.Lens Go.ChangeShapes Go.WideShapes

def byteC (xs : List Nat) (i _j : Nat) : Value := .int .u8 ((elt xs i : Nat) : Int)
def RdBytes (w : World) (v : Value) (xs : List Nat) : Prop := RdSl w 1 xs.length (byteC xs) v ∧ ∀ i, elt xs i < 256
theorem RdBytes.later {w w' : World} {v : Value} {xs : List Nat} (h : RdBytes w v xs) (hb : Below w.heap.size w w') : RdBytes w' v xs := ⟨RdSl.later h.1 hb, h.2⟩
/-- A byte's cell, in the walk's own spelling. -/
theorem RdBytes.open' {w : World} {v : Value} {xs : List Nat} (h : RdBytes w v xs) : ∃ A c, v = .slice A xs.length c ∧ xs.length ≤ 9223372036854775807 ∧
    (0 < xs.length → ∃ b o, A = some ⟨b, o, none⟩ ∧ ∀ i, i < xs.length → w.cell? ⟨b, o + i, none⟩ = some (.int .u8 ((elt xs i : Nat) : Int))) := by
  obtain ⟨⟨A, c, rfl, hn, hr⟩, _⟩ := h
  refine ⟨A, c, rfl, hn, fun hp => ?_⟩
  obtain ⟨b, o, rfl, hc⟩ := hr hp
  exact ⟨b, o, rfl, fun i hi => by have := hc i hi 0 (by omega); rw [Nat.mul_one, Nat.add_zero] at this; exact this⟩
theorem c_byte : Tryz.prog.cellsOf 5 = 1 := by kernel_rfl
section
variable {H : Type} {enc : TypeId × Value → H} {w : World} {base : Nat} {spare : Nat → Bool} {held : Bool}
set_option maxRecDepth 100000 in
theorem rd_bytes {v : Value} {d : DataW H} {ps : List MemPlace} {r : Reach} {b0 : Nat} (hval : Value.okWide Tryz.prog w r b0 22 v) (h : DataW.Trod enc Tryz.prog w base spare held 22 v d ps) : ∃ xs : List Nat, RdBytes w v xs := by
  obtain ⟨A0, n0, c0, rfl⟩ := okWide_slice Tryz.underlying22 hval
  obtain ⟨fuel, hf⟩ := h
  obtain ⟨v', n, e, f, hr, hx⟩ := row_of_trod Tryz.underlying22 c_byte (by omega) hf
  obtain rfl : Value.slice A0 n0 c0 = v' := by
    have e' : [Value.slice A0 n0 c0] = [v'] := e
    simpa using e'
  obtain ⟨xs, rfl, hp⟩ := exists_list (fun i (x : Nat) => f i 0 = .int .u8 (x : Int) ∧ x < 256) n (fun i hi => by
    obtain ⟨m, cs', y, hl, hc, ht⟩ := hx i hi
    obtain ⟨k, rfl, _, hw⟩ := DataW.trod_int Tryz.underlying5 ht
    simp only [Lit.wf, Bool.and_eq_true, decide_eq_true_eq] at hw
    have h1 : IntKind.min .u8 = 0 := by decide
    have h2 : IntKind.max .u8 = 255 := by decide
    refine ⟨k.toNat, ?_, by omega⟩
    rw [Int.toNat_of_nonneg (by omega)]
    simpa using (hc 0 (by omega)).symm)
  refine ⟨xs, RdSl.congr hr fun i hi j hj => ?_, fun i => ?_⟩
  · match j, hj with
    | 0, _ => exact (hp i hi).1
  · by_cases hi : i < xs.length
    · exact (hp i hi).2
    · unfold elt
      rw [List.getD_eq_getElem?_getD, List.getElem?_eq_none (by omega)]
      decide
end
end Go.Proofs.YtcklnjjbhngbcaaGreatDoor
