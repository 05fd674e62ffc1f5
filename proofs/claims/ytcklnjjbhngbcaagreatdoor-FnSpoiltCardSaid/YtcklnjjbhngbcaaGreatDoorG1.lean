/- The reference's choices: next and pick. -/
import Derived.Test.YtcklnjjbhngbcaaGreatDoorB10
import Derived.Test.YtcklnjjbhngbcaaGreatDoorB6
import Derived.Test.YtcklnjjbhngbcaaGreatDoorP8
import Derived.Deep.QuietTactic
import Derived.BigQuiet
import Derived.IntWalk
namespace Go.Proofs.YtcklnjjbhngbcaaGreatDoor
open Go.RowKit Go.Proofs.Lens

def cuF (cv : Value) (c : Cu) (j : Nat) : Value := match j with | 0 => cv | 1 => .int .i64 (c.pos : Nat) | _ => .int .u64 (c.seed : Nat)
structure CuAt (w : World) (g : Nat) (cv : Value) (c : Cu) : Prop where
  blk : Blk w g 72 3 (cuF cv c)
  sd : c.seed < 18446744073709551616
theorem CuAt.later {w w' : World} {g : Nat} {cv : Value} {c : Cu} (h : CuAt w g cv c) (hb : Below w.heap.size w w') : CuAt w' g cv c := ⟨h.blk.later hb, h.sd⟩
theorem CuAt.mv {ts : List TypeId} {lo : Nat} {w w' : World} {g : Nat} {cv : Value} {c : Cu} (h : CuAt w g cv c) (hm : Mv ts lo w w') (hn : 72 ∉ ts) : CuAt w' g cv c := ⟨h.blk.mv hm hn, h.sd⟩

theorem wrap_in (s b : Nat) : IntKind.u64.wrap (IntKind.u64.wrap (IntKind.u64.wrap ((s : Int) * 6364136223846793005) + (b : Int)) + 1442695040888963407) = (((s * lcgA + b + lcgC) % 18446744073709551616 : Nat) : Int) := by
  simp only [IntKind.wrap_u64]
  unfold lcgA lcgC
  omega
theorem wrap_out (s : Nat) : IntKind.u64.wrap (IntKind.u64.wrap ((s : Int) * 6364136223846793005) + 1442695040888963407) = ((nextS s : Nat) : Int) := by
  simp only [IntKind.wrap_u64]
  unfold nextS lcgA lcgC
  omega
theorem bits_and255 (a : Nat) (ha : a < 18446744073709551616) : bits .and .u64 (a : Int) 255 = ((a % 256 : Nat) : Int) := by
  have h1 : (BitVec.ofInt 64 (a : Int)).toNat = a := by
    rw [BitVec.ofInt_natCast, BitVec.toNat_ofNat]; exact Nat.mod_eq_of_lt (by omega)
  have h2 : (BitVec.ofInt 64 (255 : Int)).toNat = 255 := by decide
  show IntKind.u64.wrap ((BitVec.ofInt 64 (a : Int) &&& BitVec.ofInt 64 (255 : Int)).toNat : Int) = _
  rw [BitVec.toNat_and, h1, h2, show (255 : Nat) = 2 ^ 8 - 1 from rfl, Nat.and_two_pow_sub_one_eq_mod, IntKind.wrap_u64]
  omega
theorem out_far (s : Nat) : wrap64 (bits .and .u64 (IntKind.u64.wrap (IntKind.u64.wrap ((s : Int) * 6364136223846793005) + 1442695040888963407) / 1099511627776) 255) = ((outS (nextS s) : Nat) : Int) := by
  have hlt : nextS s < 18446744073709551616 := by unfold nextS; exact Nat.mod_lt _ (by omega)
  rw [wrap_out]
  generalize nextS s = y at hlt ⊢
  have e : (y : Int) / 1099511627776 = ((y / 1099511627776 : Nat) : Int) := by omega
  rw [e, bits_and255 _ (by omega)]
  unfold outS
  unfold wrap64
  omega
theorem drwC_sd (code : List Nat) (c : Cu) : (drwC code c).seed < 18446744073709551616 := by
  unfold drwC drwS
  dsimp only
  split
  · exact Nat.mod_lt _ (by omega)
  · unfold nextS; exact Nat.mod_lt _ (by omega)
theorem cu_set {w : World} {g : Nat} {cv : Value} {code : List Nat} {c : Cu} (h : CuAt w g cv c) {p s : Int} (hp : p = ((c.pos + 1 : Nat) : Int)) (hs : s = ((drwS code c : Nat) : Int)) :
    CuAt ((w.setCell ⟨g, 1, none⟩ (.int .i64 p)).setCell ⟨g, 2, none⟩ (.int .u64 s)) g cv (drwC code c) :=
  ⟨((h.blk.set (j := 1) (by omega) _).set (j := 2) (by omega) _).congr fun j hj => by
    subst hp hs
    match j, hj with
    | 0, _ => rfl
    | 1, _ => rfl
    | 2, _ => rfl, drwC_sd code c⟩
theorem cu_mv {w W : World} {g : Nat} {cv : Value} {c : Cu} (h : CuAt W g cv c) (hm : Mv [72] g w W) (j : Nat) (u : Value) : Mv [72] g w (W.setCell ⟨g, j, none⟩ u) :=
  hm.set (Nat.le_refl _) h.blk (by simp) u

set_option maxRecDepth 100000 in
set_option maxHeartbeats 1000000 in
theorem next_calls (g : Nat) (cv : Value) (code : List Nat) (c : Cu) (w : World) (hr : RdBytes w cv code) (h : CuAt w g cv c) (hp : c.pos ≤ 1152921504606846976) :
    Calls Tryz.prog 81 #[.pointer (some ⟨g, 0, none⟩)] w fun e w' => e = .returned (.int .i64 ((drwV code c : Nat) : Int)) ∧ CuAt w' g cv (drwC code c) ∧ Mv [72] g w w' := by
  have h256 := hr.2
  obtain ⟨A, cc, rfl, hn, hop⟩ := hr.open'
  have HC := Lib.hid h
  have c0 : w.cell? ⟨g, 0, none⟩ = some (.slice A code.length cc) := h.blk.cell (j := 0) (by omega)
  have c1 : w.cell? ⟨g, 1, none⟩ = some (.int .i64 (c.pos : Nat)) := h.blk.cell (j := 1) (by omega)
  have c2 : w.cell? ⟨g, 2, none⟩ = some (.int .u64 (c.seed : Nat)) := h.blk.cell (j := 2) (by omega)
  have f1 := h.blk.free 1
  have f2 := h.blk.free 2
  by_cases hlt : c.pos < code.length
  · obtain ⟨b, o, rfl, hc⟩ := hop (by omega)
    have x := hc c.pos hlt
    have hlt' : (c.pos : Int) < (code.length : Int) := by omega
    have hb := h256 c.pos
    clear hc hop h256 hr h
    go_enter Tryz.func81, Tryz.ntmps81
    go_wp2_with (go_quiet (fail))
    go_ret
    have hC1 : ∀ n, CuAt (w.drewN n) g _ c := fun n => HC.out.later (bl_drewN (Below.refl _ _) n)
    refine ⟨ret_int (by unfold drwV; rw [if_pos hlt]), cu_set (hC1 _) (by omega) ?_, ?_⟩
    · rw [wrap_in]; unfold drwS; rw [if_pos hlt]
    · exact (((Mv.refl _ _ _).drewN _).set (p := ⟨g, 1, none⟩) (Nat.le_refl _) (hC1 _).blk (List.mem_singleton.2 rfl) _).set (p := ⟨g, 2, none⟩) (Nat.le_refl _) ((hC1 _).blk.set (j := 1) (by omega) _) (List.mem_singleton.2 rfl) _
  · have hlt' : ¬ (c.pos : Int) < (code.length : Int) := by omega
    clear hop h256 hr h
    go_enter Tryz.func81, Tryz.ntmps81
    go_wp2_with (go_quiet (fail))
    go_ret
    have hC1 : ∀ n, CuAt (w.drewN n) g _ c := fun n => HC.out.later (bl_drewN (Below.refl _ _) n)
    refine ⟨ret_int ?_, ?_, ?_⟩
    · rw [out_far]; unfold drwV; rw [if_neg hlt]
    · refine ⟨(((hC1 _).blk.set (j := 2) (by omega) _).set (j := 1) (by omega) _).congr fun j hj => ?_, drwC_sd code c⟩
      match j, hj with
      | 0, _ => rfl
      | 1, _ => rfl
      | 2, _ =>
        show Value.int .u64 _ = .int .u64 ((drwS code c : Nat) : Int)
        rw [wrap_out]; unfold drwS; rw [if_neg hlt]
    · exact (((Mv.refl _ _ _).drewN _).set (p := ⟨g, 2, none⟩) (Nat.le_refl _) (hC1 _).blk (List.mem_singleton.2 rfl) _).set (p := ⟨g, 1, none⟩) (Nat.le_refl _) ((hC1 _).blk.set (j := 2) (by omega) _) (List.mem_singleton.2 rfl) _

set_option maxRecDepth 100000 in
set_option maxHeartbeats 400000 in
theorem pick_calls (g : Nat) (cv : Value) (code : List Nat) (c : Cu) (n : Nat) (w : World) (hr : RdBytes w cv code) (h : CuAt w g cv c) (hp : c.pos ≤ 1152921504606846976) (hn : n ≤ 200) :
    Calls Tryz.prog 33 #[.pointer (some ⟨g, 0, none⟩), .int .i64 n] w fun e w' => e = .returned (.int .i64 (((pickP code n c).1 : Nat) : Int)) ∧ CuAt w' g cv (pickP code n c).2 ∧ Mv [72] g w w' := by
  by_cases h1 : n ≤ 1
  · rw [pickP_one h1]
    have HC := Lib.hid h
    have hd : decide ((n : Int) ≤ 1) = true := by simp; omega
    clear h hr h1
    go_enter Tryz.func33, Tryz.ntmps33
    go_wp2
    go_ret
    exact ⟨rfl, HC.out, Mv.refl _ _ _⟩
  · rw [pickP_two (by omega)]
    have HC := Lib.hid h
    have HR := Lib.hid hr
    have hd : decide ((n : Int) ≤ 1) = false := by simp; omega
    have hd2 : decide ((n : Int) > 200) = false := by simp; omega
    have hn0 : 0 < n := by omega
    have hv : drwV code c < 256 := by
      unfold drwV
      split
      · exact hr.2 _
      · unfold outS; exact Nat.mod_lt _ (by omega)
    generalize hx : drwV code c = x at hv ⊢
    have HX := Lib.hid hx
    clear h hr h1 hx
    go_enter Tryz.func33, Tryz.ntmps33
    go_wp2_with fail
    refine (next_calls g cv code c _ HR.out HC.out hp).mono ?_; rintro e w1 ⟨rfl, hC, hm⟩
    have HC1 := Lib.hid hC
    have HM := Lib.hid hm
    clear hC hm
    rw [HX.out]
    go_wp2
    go_ret
    exact ⟨ret_int (Int.natCast_emod x n).symm, HC1.out, HM.out⟩
end Go.Proofs.YtcklnjjbhngbcaaGreatDoor
