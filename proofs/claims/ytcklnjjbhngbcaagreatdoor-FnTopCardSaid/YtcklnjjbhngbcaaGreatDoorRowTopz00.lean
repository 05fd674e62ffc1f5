/- What else is needed of the texts that the packed ones hold (B1, P3, B9), and short names for some lemmas. -/
import Derived.Test.YtcklnjjbhngbcaaGreatDoorRowUnz29
import Derived.Test.YtcklnjjbhngbcaaGreatDoorRowUnz28
import Derived.Test.YtcklnjjbhngbcaaGreatDoorRowUnz25
import Derived.Test.YtcklnjjbhngbcaaGreatDoorRowUnz05
import Derived.Test.YtcklnjjbhngbcaaGreatDoorRowUnz02
import Derived.Test.YtcklnjjbhngbcaaGreatDoorRowUnz01
import Derived.Test.YtcklnjjbhngbcaaGreatDoorRowUnz03
import Derived.Test.YtcklnjjbhngbcaaGreatDoorRowUnz06
import Derived.Test.YtcklnjjbhngbcaaGreatDoorRowUnz04
import Derived.Test.YtcklnjjbhngbcaaGreatDoorRowUnz27
import Derived.Test.YtcklnjjbhngbcaaGreatDoorRowUnz26
namespace Go.Proofs.YtcklnjjbhngbcaaGreatDoor
open Go.RowKit Go.Proofs.Lens Go.WideShapes Go.ChangeShapes

section
variable {H : Type} {enc : TypeId × Value → H} {P : Program} {w : World} {base : Nat} {spare : Nat → Bool} {held : Bool}
end

theorem c_int : Tryz.prog.cellsOf 3 = 1 := by kernel_rfl
section
variable {H : Type} {enc : TypeId × Value → H} {w : World} {base : Nat} {spare : Nat → Bool} {held : Bool} {fuel : Nat} {cs : List Value} {x : DataW H × List MemPlace}

end
end Go.Proofs.YtcklnjjbhngbcaaGreatDoor

namespace Go.Proofs.Lens

/-! ### counts by fn -/
structure FC where
  cal : Nat → Int
  slf : Nat → Int
  tot : Nat → Int
def bump (f : Nat → Int) (i : Int) (j : Nat) : Int := if (j : Int) = i then f j + 1 else f j
/-- fn j is among the open calls. -/
def openIn (l : List PFr) (j : Nat) : Bool := l.any fun f => decide (f.fn = (j : Int))
def bumpAll (f : Nat → Int) (l : List PFr) (j : Nat) : Int := if openIn l j = true then f j + 1 else f j
def fcStep (c : FC) (m : PMom) (top : List PFr) : FC :=
  if m.kind = 2 then ⟨bump c.cal m.fn, c.slf, c.tot⟩ else if m.kind = 1 then ⟨c.cal, bump c.slf m.fn, bumpAll c.tot top⟩ else c
def fc0 : FC := ⟨fun j => if j = 0 then 1 else 0, fun _ => 0, fun _ => 0⟩
def fcN (ms : List PMom) : Nat → FC
  | 0 => fc0
  | n + 1 => fcStep (fcN ms n) (elt ms n) (stN ms (n + 1)).top
theorem bump_bd {f : Nat → Int} {i n : Int} {j : Nat} (h : 0 ≤ f j ∧ f j ≤ n) : 0 ≤ bump f i j ∧ bump f i j ≤ n + 1 := by
  unfold bump; split <;> omega
theorem bumpAll_bd {f : Nat → Int} {l : List PFr} {n : Int} {j : Nat} (h : 0 ≤ f j ∧ f j ≤ n) : 0 ≤ bumpAll f l j ∧ bumpAll f l j ≤ n + 1 := by
  unfold bumpAll; split <;> omega
theorem fcN_bd (ms : List PMom) (n j : Nat) : (0 ≤ (fcN ms n).cal j ∧ (fcN ms n).cal j ≤ n + 1) ∧ (0 ≤ (fcN ms n).slf j ∧ (fcN ms n).slf j ≤ n + 1) ∧ (0 ≤ (fcN ms n).tot j ∧ (fcN ms n).tot j ≤ n + 1) := by
  induction n with
  | zero => simp only [fcN, fc0]; refine ⟨?_, by omega, by omega⟩; split <;> omega
  | succ n ih =>
    obtain ⟨h1, h2, h3⟩ := ih
    simp only [fcN, fcStep]
    have e : ((n + 1 : Nat) : Int) + 1 = ((n : Int) + 1) + 1 := by omega
    rw [e]
    split
    · exact ⟨bump_bd h1, by dsimp only; omega, by dsimp only; omega⟩
    · split
      · exact ⟨by dsimp only; omega, bump_bd h2, bumpAll_bd h3⟩
      · exact ⟨by omega, by omega, by omega⟩
theorem openIn_nil (j : Nat) : openIn [] j = false := rfl
theorem openIn_snoc (l : List PFr) (f : PFr) (j : Nat) : openIn (l ++ [f]) j = (openIn l j || decide (f.fn = (j : Int))) := by simp [openIn]
theorem openIn_rev (l : List PFr) (j : Nat) : openIn l.reverse j = openIn l j := by simp [openIn]
theorem bumpAll_nil (f : Nat → Int) (j : Nat) : bumpAll f [] j = f j := by simp [bumpAll, openIn_nil]
theorem bumpAll_rev (f : Nat → Int) (l : List PFr) (j : Nat) : bumpAll f l.reverse j = bumpAll f l j := by unfold bumpAll; rw [openIn_rev]
/-- One more open call, of a fn met before, and of one met first. -/
theorem bumpAll_old {f : Nat → Int} {l : List PFr} {g : PFr} {i : Nat} (hg : g.fn = (i : Int)) (h : openIn l i = true) (j : Nat) : bumpAll f (l ++ [g]) j = bumpAll f l j := by
  unfold bumpAll
  rw [openIn_snoc]
  by_cases hj : g.fn = (j : Int)
  · obtain rfl : i = j := by omega
    rw [h]; simp
  · simp [hj]
theorem bumpAll_new {f : Nat → Int} {l : List PFr} {g : PFr} {i : Nat} (hg : g.fn = (i : Int)) (h : openIn l i = false) (j : Nat) : bumpAll f (l ++ [g]) j = bump (bumpAll f l) i j := by
  unfold bump bumpAll
  rw [openIn_snoc]
  by_cases hj : g.fn = (j : Int)
  · obtain rfl : i = j := by omega
    rw [h]; simp [hg]
  · have : ¬ ((j : Int) = (i : Int)) := by omega
    simp [hj, this]
/-- The counts as the cells of a slice. -/
def fcC (c : FC) (i j : Nat) : Value := match j with | 0 => .int .i64 i | 1 => .int .i64 (c.cal i) | 2 => .int .i64 (c.slf i) | _ => .int .i64 (c.tot i)
def fcRow (xs : List PFc) (i j : Nat) : Value := match j with | 0 => .int .i64 (elt xs i).fn | 1 => .int .i64 (elt xs i).cal | 2 => .int .i64 (elt xs i).slf | _ => .int .i64 (elt xs i).tot
def fcList (c : FC) (n : Nat) : List PFc := (List.range n).map fun (i : Nat) => ⟨(i : Int), c.cal i, c.slf i, c.tot i⟩
theorem fcList_len (c : FC) (n : Nat) : (fcList c n).length = n := by simp [fcList]
theorem fcList_elt (c : FC) {n i : Nat} (h : i < n) : elt (fcList c n) i = ⟨i, c.cal i, c.slf i, c.tot i⟩ := by
  rw [elt_eq (by rw [fcList_len]; exact h)]; simp [fcList]
theorem fcList_row (c : FC) {n i j : Nat} (h : i < n) : fcRow (fcList c n) i j = fcC c i j := by
  unfold fcRow fcC
  rw [fcList_elt c h]
def fcP (t : PTr) : List PFc := if soundP t = true then fcList (fcN t.moms t.moms.length) t.fns.length else []
/-- What a sound trace's open calls are of: fns that there are. -/
def fnsIn (s : PS) (nf : Nat) : Prop := ∀ i f, f ∈ s.stk i → 0 ≤ f.fn ∧ f.fn < nf
theorem mom_fn {nf : Nat} {m : PMom} (h : momOk nf m = true) : 0 ≤ m.fn ∧ m.fn < nf := by
  simp only [momOk, momHd, Bool.and_eq_true] at h
  have := inB_true.1 h.1.1.1.1.1.2
  omega
end Go.Proofs.Lens

namespace Go.Proofs.YtcklnjjbhngbcaaGreatDoor
open Go.RowKit Go.Proofs.Lens

section
variable {w w' : World} {lo lo' : Nat} {v : Value} {ms : List PMom}
end
theorem momC_new2 (ms : List PMom) (vv : Nat → Value) (m1 m2 : PMom) (vx1 vx2 : Value) {i j : Nat} (hi : i < 2) (hj : j < 6) :
    (momV m1 vx1 ++ momV m2 vx2)[i * 6 + j]? = some (momC (ms ++ [m1] ++ [m2]) (snocV (snocV vv ms.length vx1) (ms.length + 1) vx2) (ms.length + i) j) := by
  have hl : (ms ++ [m1]).length = ms.length + 1 := by simp
  match i, hi with
  | 0, _ =>
    have e := momC_old (ms ++ [m1]) (snocV vv ms.length vx1) m2 vx2 (i := ms.length) (by omega) j
    rw [hl] at e
    rw [Nat.zero_mul, Nat.zero_add, show ms.length + 0 = ms.length from rfl, ← e, ← momC_new ms vv m1 vx1 hj, List.getElem?_append_left (by simpa [momV] using hj)]
  | 1, _ =>
    have e := momC_new (ms ++ [m1]) (snocV vv ms.length vx1) m2 vx2 hj
    rw [hl] at e
    rw [← e, List.getElem?_append_right (by simp [momV])]
    simp [momV]
end Go.Proofs.YtcklnjjbhngbcaaGreatDoor

namespace Go.Proofs.YtcklnjjbhngbcaaGreatDoor
open Go Go.RowKit Go.Proofs.Lens
abbrev qhq := @Lib.hid
abbrev qcq := @cell_later
abbrev qrq := @Below.refl
abbrev q1q := @List.setIfInBounds_toArray
abbrev q2q := @List.set_cons_zero
abbrev q3q := @List.set_cons_succ
abbrev qaq := @bl_alloc
abbrev qtq := @bl_then
abbrev qnq := @bl_drewN
end Go.Proofs.YtcklnjjbhngbcaaGreatDoor
