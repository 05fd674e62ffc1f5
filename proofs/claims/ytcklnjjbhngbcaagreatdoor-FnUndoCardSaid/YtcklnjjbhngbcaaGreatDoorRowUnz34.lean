/- Lemmas and contracts of functions that the theorem of this claim leans on (texts P17). -/
import Derived.Test.YtcklnjjbhngbcaaGreatDoorRowUnz20
namespace Go.Proofs.Lens

theorem mvD_rng (op code : Int) : -1 ≤ mvD op code ∧ mvD op code ≤ 1 := by
  unfold mvD
  split
  · split <;> split <;> omega
  · omega
theorem mvN_rng (t : PTr) (a : List PAsk) : ∀ k : Nat, -(k : Int) ≤ mvN t a k ∧ mvN t a k ≤ (k : Int)
  | 0 => by simp [mvN]
  | k + 1 => by
    have h1 := mvN_rng t a k
    have h2 := mvD_rng (elt a k).op (elt (lookP t a) k).code
    show -((k + 1 : Nat) : Int) ≤ mvN t a k + _ ∧ mvN t a k + _ ≤ ((k + 1 : Nat) : Int)
    omega
theorem mvD_skip {op code : Int} (h : code ≠ 0) : mvD op code = 0 := by
  unfold mvD
  rw [if_neg h]
theorem mvD_go {op : Int} (h : (3 ≤ op ∧ op ≤ 7) ∨ op = 9) : mvD op 0 = 1 := by
  unfold mvD
  rw [if_pos rfl, if_pos h, if_neg (by omega)]
  omega
theorem mvD_undo : mvD 8 0 = -1 := by
  unfold mvD
  rw [if_pos rfl, if_neg (by omega), if_pos rfl]
  omega
theorem mvD_else {op : Int} (h : ¬ ((3 ≤ op ∧ op ≤ 7) ∨ op = 9)) (h8 : op ≠ 8) : mvD op 0 = 0 := by
  unfold mvD
  rw [if_pos rfl, if_neg h, if_neg h8]
  omega
theorem look_len {t : PTr} {a : List PAsk} (hs : soundP t = true) (hl : a.length ≤ 500) : (lookP t a).length = a.length := by
  rw [lookP_eq hs hl, lkN_len]
/-- What the law's end reads. -/
theorem undo_end {t : PTr} {a : List PAsk} (hs : soundP t = true) (hl : a.length ≤ 200) : ∃ m : Nat, mvN t a a.length = m ∧ m ≤ a.length ∧
    (lookP t (a ++ List.replicate (m + 1) undoA)).length = a.length + (m + 1) ∧
    (elt (lookP t (a ++ List.replicate (m + 1) undoA)) (a.length + m)).code = 4 ∧ (elt (lookP t (a ++ List.replicate (m + 1) undoA)) (a.length + m)).place = -1 ∧
    (0 < m → (elt (lookP t (a ++ List.replicate (m + 1) undoA)) (a.length + m - 1)).code = 0 ∧ (elt (lookP t (a ++ List.replicate (m + 1) undoA)) (a.length + m - 1)).place = -1) := by
  have h := mvN_eq hs (by omega : a.length ≤ 500) a.length (Nat.le_refl _)
  have h2 := (mvN_rng t a a.length).2
  have hm : (lkN t a a.length).2.past.length ≤ a.length := by omega
  exact ⟨_, h, hm, undo_law hs _ rfl (by omega)⟩
end Go.Proofs.Lens
