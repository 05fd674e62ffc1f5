/- Lemmas and contracts of functions that the theorem of this claim leans on (texts B10, G1, G2). -/
import Derived.Test.YtcklnjjbhngbcaaGreatDoorRowUnz05
import Derived.Deep.QuietTactic
import Derived.BigQuiet
import Derived.IntWalk
import Derived.Test.YtcklnjjbhngbcaaGreatDoorRowUnz03
import Derived.Laws.BytesArg
import Derived.Deep.DeepCutAuto
import Derived.Deep.CutBlock
import Derived.Test.YtcklnjjbhngbcaaGreatDoorRowUnz06
namespace Go.Proofs.YtcklnjjbhngbcaaGreatDoor
open Go.RowKit Go.Proofs.Lens Go.ChangeShapes Go.WideShapes

def byteC (xs : List Nat) (i _j : Nat) : Value := .int .u8 ((elt xs i : Nat) : Int)
def RdBytes (w : World) (v : Value) (xs : List Nat) : Prop := RdSl w 1 xs.length (byteC xs) v ∧ ∀ i, elt xs i < 256
theorem RdBytes.later {w w' : World} {v : Value} {xs : List Nat} (h : RdBytes w v xs) (hb : Below w.heap.size w w') : RdBytes w' v xs := ⟨RdSl.later h.1 hb, h.2⟩
/-- A byte's cell, in the walk's own spelling. -/
theorem RdBytes.open' {w : World} {v : Value} {xs : List Nat} (h : RdBytes w v xs) : ∃ A c, v = .slice A xs.length c ∧ xs.length ≤ 9223372036854775807 ∧
    (0 < xs.length → ∃ b o, A = some ⟨b, o, none⟩ ∧ ∀ i, i < xs.length → w.cell? ⟨b, o + i, none⟩ = some (.int .u8 ((elt xs i : Nat) : Int))) := by
  obtain ⟨⟨A, c, rfl, hn, hr⟩, _⟩ := h
  refine ⟨A, c, rfl, hn, fun hp => ?_⟩
  obtain ⟨b, o, rfl, hc⟩ := hr hp
  exact ⟨b, o, rfl, fun i hi => by have := hc i hi 0 (by omega); rw [Nat.mul_one, Nat.add_zero] at this; exact this⟩
theorem c_byte : Tryz.prog.cellsOf 5 = 1 := by kernel_rfl
section
variable {H : Type} {enc : TypeId × Value → H} {w : World} {base : Nat} {spare : Nat → Bool} {held : Bool}
set_option maxRecDepth 100000 in
theorem rd_bytes {v : Value} {d : DataW H} {ps : List MemPlace} {r : Reach} {b0 : Nat} (hval : Value.okWide Tryz.prog w r b0 22 v) (h : DataW.Trod enc Tryz.prog w base spare held 22 v d ps) : ∃ xs : List Nat, RdBytes w v xs := by
  obtain ⟨A0, n0, c0, rfl⟩ := okWide_slice Tryz.underlying22 hval
  obtain ⟨fuel, hf⟩ := h
  obtain ⟨v', n, e, f, hr, hx⟩ := row_of_trod Tryz.underlying22 c_byte (by omega) hf
  obtain rfl : Value.slice A0 n0 c0 = v' := by
    have e' : [Value.slice A0 n0 c0] = [v'] := e
    simpa using e'
  obtain ⟨xs, rfl, hp⟩ := exists_list (fun i (x : Nat) => f i 0 = .int .u8 (x : Int) ∧ x < 256) n (fun i hi => by
    obtain ⟨m, cs', y, hl, hc, ht⟩ := hx i hi
    obtain ⟨k, rfl, _, hw⟩ := DataW.trod_int Tryz.underlying5 ht
    simp only [Lit.wf, Bool.and_eq_true, decide_eq_true_eq] at hw
    have h1 : IntKind.min .u8 = 0 := by decide
    have h2 : IntKind.max .u8 = 255 := by decide
    refine ⟨k.toNat, ?_, by omega⟩
    rw [Int.toNat_of_nonneg (by omega)]
    simpa using (hc 0 (by omega)).symm)
  refine ⟨xs, RdSl.congr hr fun i hi j hj => ?_, fun i => ?_⟩
  · match j, hj with
    | 0, _ => exact (hp i hi).1
  · by_cases hi : i < xs.length
    · exact (hp i hi).2
    · unfold elt
      rw [List.getD_eq_getElem?_getD, List.getElem?_eq_none (by omega)]
      decide
end
end Go.Proofs.YtcklnjjbhngbcaaGreatDoor

namespace Go.Proofs.YtcklnjjbhngbcaaGreatDoor
open Go.RowKit Go.Proofs.Lens

def cuF (cv : Value) (c : Cu) (j : Nat) : Value := match j with | 0 => cv | 1 => .int .i64 (c.pos : Nat) | _ => .int .u64 (c.seed : Nat)
structure CuAt (w : World) (g : Nat) (cv : Value) (c : Cu) : Prop where
  blk : Blk w g 72 3 (cuF cv c)
  sd : c.seed < 18446744073709551616
theorem CuAt.later {w w' : World} {g : Nat} {cv : Value} {c : Cu} (h : CuAt w g cv c) (hb : Below w.heap.size w w') : CuAt w' g cv c := ⟨h.blk.later hb, h.sd⟩
theorem CuAt.mv {ts : List TypeId} {lo : Nat} {w w' : World} {g : Nat} {cv : Value} {c : Cu} (h : CuAt w g cv c) (hm : Mv ts lo w w') (hn : 72 ∉ ts) : CuAt w' g cv c := ⟨h.blk.mv hm hn, h.sd⟩

theorem wrap_in (s b : Nat) : IntKind.u64.wrap (IntKind.u64.wrap (IntKind.u64.wrap ((s : Int) * 6364136223846793005) + (b : Int)) + 1442695040888963407) = (((s * lcgA + b + lcgC) % 18446744073709551616 : Nat) : Int) := by
  simp only [IntKind.wrap_u64]
  unfold lcgA lcgC
  omega
theorem wrap_out (s : Nat) : IntKind.u64.wrap (IntKind.u64.wrap ((s : Int) * 6364136223846793005) + 1442695040888963407) = ((nextS s : Nat) : Int) := by
  simp only [IntKind.wrap_u64]
  unfold nextS lcgA lcgC
  omega
theorem bits_and255 (a : Nat) (ha : a < 18446744073709551616) : bits .and .u64 (a : Int) 255 = ((a % 256 : Nat) : Int) := by
  have h1 : (BitVec.ofInt 64 (a : Int)).toNat = a := by
    rw [BitVec.ofInt_natCast, BitVec.toNat_ofNat]; exact Nat.mod_eq_of_lt (by omega)
  have h2 : (BitVec.ofInt 64 (255 : Int)).toNat = 255 := by decide
  show IntKind.u64.wrap ((BitVec.ofInt 64 (a : Int) &&& BitVec.ofInt 64 (255 : Int)).toNat : Int) = _
  rw [BitVec.toNat_and, h1, h2, show (255 : Nat) = 2 ^ 8 - 1 from rfl, Nat.and_two_pow_sub_one_eq_mod, IntKind.wrap_u64]
  omega
theorem out_far (s : Nat) : wrap64 (bits .and .u64 (IntKind.u64.wrap (IntKind.u64.wrap ((s : Int) * 6364136223846793005) + 1442695040888963407) / 1099511627776) 255) = ((outS (nextS s) : Nat) : Int) := by
  have hlt : nextS s < 18446744073709551616 := by unfold nextS; exact Nat.mod_lt _ (by omega)
  rw [wrap_out]
  generalize nextS s = y at hlt ⊢
  have e : (y : Int) / 1099511627776 = ((y / 1099511627776 : Nat) : Int) := by omega
  rw [e, bits_and255 _ (by omega)]
  unfold outS
  unfold wrap64
  omega
theorem drwC_sd (code : List Nat) (c : Cu) : (drwC code c).seed < 18446744073709551616 := by
  unfold drwC drwS
  dsimp only
  split
  · exact Nat.mod_lt _ (by omega)
  · unfold nextS; exact Nat.mod_lt _ (by omega)
theorem cu_set {w : World} {g : Nat} {cv : Value} {code : List Nat} {c : Cu} (h : CuAt w g cv c) {p s : Int} (hp : p = ((c.pos + 1 : Nat) : Int)) (hs : s = ((drwS code c : Nat) : Int)) :
    CuAt ((w.setCell ⟨g, 1, none⟩ (.int .i64 p)).setCell ⟨g, 2, none⟩ (.int .u64 s)) g cv (drwC code c) :=
  ⟨((h.blk.set (j := 1) (by omega) _).set (j := 2) (by omega) _).congr fun j hj => by
    subst hp hs
    match j, hj with
    | 0, _ => rfl
    | 1, _ => rfl
    | 2, _ => rfl, drwC_sd code c⟩
set_option maxRecDepth 100000 in
set_option maxHeartbeats 1000000 in
theorem next_calls (g : Nat) (cv : Value) (code : List Nat) (c : Cu) (w : World) (hr : RdBytes w cv code) (h : CuAt w g cv c) (hp : c.pos ≤ 1152921504606846976) :
    Calls Tryz.prog 81 #[.pointer (some ⟨g, 0, none⟩)] w fun e w' => e = .returned (.int .i64 ((drwV code c : Nat) : Int)) ∧ CuAt w' g cv (drwC code c) ∧ Mv [72] g w w' := by
  have h256 := hr.2
  obtain ⟨A, cc, rfl, hn, hop⟩ := hr.open'
  have HC := Lib.hid h
  have c0 : w.cell? ⟨g, 0, none⟩ = some (.slice A code.length cc) := h.blk.cell (j := 0) (by omega)
  have c1 : w.cell? ⟨g, 1, none⟩ = some (.int .i64 (c.pos : Nat)) := h.blk.cell (j := 1) (by omega)
  have c2 : w.cell? ⟨g, 2, none⟩ = some (.int .u64 (c.seed : Nat)) := h.blk.cell (j := 2) (by omega)
  have f1 := h.blk.free 1
  have f2 := h.blk.free 2
  by_cases hlt : c.pos < code.length
  · obtain ⟨b, o, rfl, hc⟩ := hop (by omega)
    have x := hc c.pos hlt
    have hlt' : (c.pos : Int) < (code.length : Int) := by omega
    have hb := h256 c.pos
    clear hc hop h256 hr h
    go_enter Tryz.func81, Tryz.ntmps81
    go_wp2_with (go_quiet (fail))
    go_ret
    have hC1 : ∀ n, CuAt (w.drewN n) g _ c := fun n => HC.out.later (bl_drewN (Below.refl _ _) n)
    refine ⟨ret_int (by unfold drwV; rw [if_pos hlt]), cu_set (hC1 _) (by omega) ?_, ?_⟩
    · rw [wrap_in]; unfold drwS; rw [if_pos hlt]
    · exact (((Mv.refl _ _ _).drewN _).set (p := ⟨g, 1, none⟩) (Nat.le_refl _) (hC1 _).blk (List.mem_singleton.2 rfl) _).set (p := ⟨g, 2, none⟩) (Nat.le_refl _) ((hC1 _).blk.set (j := 1) (by omega) _) (List.mem_singleton.2 rfl) _
  · have hlt' : ¬ (c.pos : Int) < (code.length : Int) := by omega
    clear hop h256 hr h
    go_enter Tryz.func81, Tryz.ntmps81
    go_wp2_with (go_quiet (fail))
    go_ret
    have hC1 : ∀ n, CuAt (w.drewN n) g _ c := fun n => HC.out.later (bl_drewN (Below.refl _ _) n)
    refine ⟨ret_int ?_, ?_, ?_⟩
    · rw [out_far]; unfold drwV; rw [if_neg hlt]
    · refine ⟨(((hC1 _).blk.set (j := 2) (by omega) _).set (j := 1) (by omega) _).congr fun j hj => ?_, drwC_sd code c⟩
      match j, hj with
      | 0, _ => rfl
      | 1, _ => rfl
      | 2, _ =>
        show Value.int .u64 _ = .int .u64 ((drwS code c : Nat) : Int)
        rw [wrap_out]; unfold drwS; rw [if_neg hlt]
    · exact (((Mv.refl _ _ _).drewN _).set (p := ⟨g, 2, none⟩) (Nat.le_refl _) (hC1 _).blk (List.mem_singleton.2 rfl) _).set (p := ⟨g, 1, none⟩) (Nat.le_refl _) ((hC1 _).blk.set (j := 2) (by omega) _) (List.mem_singleton.2 rfl) _

set_option maxRecDepth 100000 in
set_option maxHeartbeats 400000 in
theorem pick_calls (g : Nat) (cv : Value) (code : List Nat) (c : Cu) (n : Nat) (w : World) (hr : RdBytes w cv code) (h : CuAt w g cv c) (hp : c.pos ≤ 1152921504606846976) (hn : n ≤ 200) :
    Calls Tryz.prog 33 #[.pointer (some ⟨g, 0, none⟩), .int .i64 n] w fun e w' => e = .returned (.int .i64 (((pickP code n c).1 : Nat) : Int)) ∧ CuAt w' g cv (pickP code n c).2 ∧ Mv [72] g w w' := by
  by_cases h1 : n ≤ 1
  · rw [pickP_one h1]
    have HC := Lib.hid h
    have hd : decide ((n : Int) ≤ 1) = true := by simp; omega
    clear h hr h1
    go_enter Tryz.func33, Tryz.ntmps33
    go_wp2
    go_ret
    exact ⟨rfl, HC.out, Mv.refl _ _ _⟩
  · rw [pickP_two (by omega)]
    have HC := Lib.hid h
    have HR := Lib.hid hr
    have hd : decide ((n : Int) ≤ 1) = false := by simp; omega
    have hd2 : decide ((n : Int) > 200) = false := by simp; omega
    have hn0 : 0 < n := by omega
    have hv : drwV code c < 256 := by
      unfold drwV
      split
      · exact hr.2 _
      · unfold outS; exact Nat.mod_lt _ (by omega)
    generalize hx : drwV code c = x at hv ⊢
    have HX := Lib.hid hx
    clear h hr h1 hx
    go_enter Tryz.func33, Tryz.ntmps33
    go_wp2_with fail
    refine (next_calls g cv code c _ HR.out HC.out hp).mono ?_; rintro e w1 ⟨rfl, hC, hm⟩
    have HC1 := Lib.hid hC
    have HM := Lib.hid hm
    clear hC hm
    rw [HX.out]
    go_wp2
    go_ret
    exact ⟨ret_int (Int.natCast_emod x n).symm, HC1.out, HM.out⟩
end Go.Proofs.YtcklnjjbhngbcaaGreatDoor

namespace Go.Proofs.YtcklnjjbhngbcaaGreatDoor
open Go.RowKit Go.Proofs.Lens

theorem chr_nums {k : Int} (n : Nat) (h : k = (n : Int)) : strOfNums [k] = chr1 n := by
  subst h
  unfold strOfNums chr1
  simp
theorem conv_byte (w : World) (b : Nat) (y : Int) (h : w.cell? ⟨b, 0, none⟩ = some (.int .u8 y)) : (convert 22 9 (.slice (some ⟨b, 0, none⟩) 1 1)).run Tryz.prog w = .ok (.string (strOfNums [y])) w :=
  run_convert_bytes_arg _ 22 5 Tryz.underlying22 Tryz.underlying5 _ 0 1 1 [y] rfl (fun i hi => by
    obtain rfl : i = 0 := by omega
    exact h) 9 Tryz.underlying9
/-- A list that is new grows. -/
theorem mv_grownNew {ts : List TypeId} {lo : Nat} {w W W' : World} (h : Mv ts lo w W) (hl : lo ≤ w.heap.size) {r : Option Nat} (hg : W.grownBy W' r) (hr : ∀ b, r = some b → w.heap.size ≤ b) : Mv ts lo w W' :=
  ⟨⟨hg.os.trans h.bl.os, hg.tape.trans h.bl.tape, hg.output.trans h.bl.output, Nat.le_trans h.bl.size hg.size, fun k hk => (hg.block k (Nat.lt_of_lt_of_le hk (Nat.le_trans hl h.bl.size)) (fun hh => by have := hr k hh.symm; omega)).trans (h.bl.block k hk)⟩,
    fun b o hb hn => by
      have h1 := h.kp b o hb hn
      rw [hg.block b (Array.getElem?_eq_some_iff.1 h1).1 (fun hh => by have := hr b hh.symm; have := (Array.getElem?_eq_some_iff.1 hb).1; omega)]
      exact h1⟩
theorem varC_old (r : List PVar) (x : PVar) {i : Nat} (hi : i < r.length) (j : Nat) : varC r i j = varC (r ++ [x]) i j := by
  unfold varC; rw [elt_app _ _ hi]
theorem varC_new (r : List PVar) (x : PVar) {j : Nat} (hj : j < 2) : [Value.string x.nm, .string x.tx][j]? = some (varC (r ++ [x]) r.length j) := by
  unfold varC; rw [elt_last]
  match j, hj with
  | 0, _ => rfl
  | 1, _ => rfl

/-- A byte in a block of its own. -/
def ByB (w : World) (b : Nat) (y : Int) : Prop := Blk w b 5 1 (fun _ => .int .u8 y)
theorem ByB.cell {w : World} {b : Nat} {y : Int} (h : ByB w b y) : w.cell? ⟨b, 0, none⟩ = some (.int .u8 y) := Blk.cell h (j := 0) (by omega)
theorem ByB.new (w : World) (y : Int) : ByB (w.alloc (.cells #[.int .u8 y] 5)) w.heap.size y := (Blk.made w #[.int .u8 y] 5).congr fun j hj => by
  obtain rfl : j = 0 := by simp at hj; omega
  rfl
theorem ByB.mv {ts : List TypeId} {lo : Nat} {w w' : World} {b : Nat} {y : Int} (h : ByB w b y) (hm : Mv ts lo w w') (hn : 5 ∉ ts) : ByB w' b y := Blk.mv h hm hn
theorem ByB.alloc {w : World} {b : Nat} {y : Int} (h : ByB w b y) (o : Obj) : ByB (w.alloc o) b y := Blk.alloc h o

set_option maxRecDepth 100000 in
set_option maxHeartbeats 4000000 in
theorem vars_calls (w0 : World) (g : Nat) (cv : Value) (code : List Nat) (c : Cu) (w : World) (hr : RdBytes w0 cv code) (hg : w0.heap.size ≤ g) (hb0 : Below w0.heap.size w0 w) (h : CuAt w g cv c) (hp : c.pos ≤ 1000000000000000000) :
    Calls Tryz.prog 83 #[.pointer (some ⟨g, 0, none⟩)] w fun e w' => ∃ v, e = .returned v ∧ OwR w' w.heap.size 40 2 (varsP code c).1.length (varC (varsP code c).1) v ∧ CuAt w' g cv (varsP code c).2 ∧ Mv [72] g w w' := by
  have HR := Lib.hid hr
  have HC := Lib.hid h
  have HB0 := Lib.hid hb0
  have hgw : g < w.heap.size := h.blk.lt
  have hv : varsP code c = varsN code (pickP code 4 c).2 (pickP code 4 c).1 := rfl
  have hn := pickP_lt code c (n := 4) (by omega)
  have hpa := (pick_adv code (n := 4) (by omega) c).1
  obtain ⟨n0, hn0⟩ : ∃ n0, (pickP code 4 c).1 = n0 := ⟨_, rfl⟩
  obtain ⟨c1, hc1⟩ : ∃ c1, (pickP code 4 c).2 = c1 := ⟨_, rfl⟩
  rw [hn0, hc1] at hv
  rw [hn0] at hn
  rw [hc1] at hpa
  rw [hv]
  have HN0 := Lib.hid hn0
  have HC1E := Lib.hid hc1
  clear h hr hb0 hv hn0 hc1
  go_enter Tryz.func83, Tryz.ntmps83
  go_wp2_with fail
  refine (pick_calls g cv code c 4 _ (HR.out.later HB0.out) HC.out (by omega) (by omega)).mono ?_; rintro e w1 ⟨rfl, hC, hm⟩
  rw [HN0.out]
  rw [HC1E.out] at hC
  have HC1 := Lib.hid hC
  have HM1 := Lib.hid hm
  clear hC hm HC
  go_wp2_with fail
  go_loopw [3, 4] (fun ov nv wr => ∃ i m : Nat, i + m = n0 ∧ nv = .int .i64 m ∧ OwR wr w.heap.size 40 2 (varsN code c1 i).1.length (varC (varsN code c1 i).1) ov ∧ CuAt wr g cv (varsN code c1 i).2 ∧ Mv [72] g w wr) (fun _ nv _ => (intOf nv).toNat)
  case atStart => exact ⟨0, n0, by omega, rfl, OwR.nil, HC1.out, HM1.out⟩
  case round =>
    obtain ⟨i, m, him, rfl, hO, hC, hM⟩ := hrel
    clear HC1 HM1
    have HO := Lib.hid hO
    have HC := Lib.hid hC
    have HM := Lib.hid hM
    obtain ⟨A3, c3, rfl, -⟩ := hO.cap
    have hL : (varsN code c1 i).1.length = i := varsN_len code c1 i
    have hpi := (varsN_adv code c1 i).1
    have hs : varsN code c1 (i + 1) = ((varsN code c1 i).1 ++ [drawVar (pickP code 3 (varsN code c1 i).2).1 (pickP code 3 (pickP code 3 (varsN code c1 i).2).2).1], (pickP code 3 (pickP code 3 (varsN code c1 i).2).2).2) := rfl
    obtain ⟨L, hLL⟩ : ∃ L, (varsN code c1 i).1 = L := ⟨_, rfl⟩
    obtain ⟨ci, hci⟩ : ∃ ci, (varsN code c1 i).2 = ci := ⟨_, rfl⟩
    rw [hLL] at HO hL hs ⊢
    rw [hci] at HC hpi hs
    have HQ : Hid ((varsN code c1 i).1 = L ∧ (varsN code c1 i).2 = ci) := Lib.hid ⟨hLL, hci⟩
    have HLN := Lib.hid hL
    by_cases hm0 : 0 < m
    · have hd : decide ((m : Int) > 0) = true := by simp; omega
      have hx1 := pickP_lt code ci (n := 3) (by omega)
      have hp1 := (pick_adv code (n := 3) (by omega) ci).1
      have hx2 := pickP_lt code (pickP code 3 ci).2 (n := 3) (by omega)
      have e1 : pickP code 3 ci = ((pickP code 3 ci).1, (pickP code 3 ci).2) := rfl
      obtain ⟨x1, h1⟩ : ∃ x, (pickP code 3 ci).1 = x := ⟨_, rfl⟩
      obtain ⟨cj, h2⟩ : ∃ x, (pickP code 3 ci).2 = x := ⟨_, rfl⟩
      have hcip : ci.pos ≤ 1152921504606846976 := by omega
      rw [h2] at hs hp1 hx2
      have hcj : cj.pos ≤ 1152921504606846976 := by omega
      rw [h1] at hs hx1
      obtain ⟨x2, h3⟩ : ∃ x, (pickP code 3 cj).1 = x := ⟨_, rfl⟩
      obtain ⟨ck, h4⟩ : ∃ x, (pickP code 3 cj).2 = x := ⟨_, rfl⟩
      rw [h3] at hs hx2
      rw [h4] at hs
      have HS := Lib.hid hs
      have H12 : Hid ((pickP code 3 ci).1 = x1 ∧ (pickP code 3 ci).2 = cj ∧ (pickP code 3 cj).1 = x2 ∧ (pickP code 3 cj).2 = ck) := Lib.hid ⟨h1, h2, h3, h4⟩
      have w1r : IntKind.i64.wrap (97 + (x1 : Int)) = 97 + (x1 : Int) := IntWalk.i64_in _ (by omega)
      have w2r : IntKind.i64.wrap (48 + (x2 : Int)) = 48 + (x2 : Int) := IntWalk.i64_in _ (by omega)
      have HW1 := Lib.hid w1r
      have HW2 := Lib.hid w2r
      clear hO hC hM hL hpi hs hLL hci e1 h1 h2 h3 h4 w1r w2r hp1
      go_upto_region 5 with fail
      refine wp_region_F 16 (fun _ : World => True) (by kernel_rfl) ?_
      refine wpAnyF_take 0 (v := ?v0A) (by rfl) (by kernel_rfl) (by intro _ _ _ h; exact h) trivial (by rfl) ?hy0A ?rest0A
      case hy0A =>
        intro w' hSw
        have s0 := id hSw
        clear hSw
        go_simp
        try with_reducible rfl
      simp only [Act.put, List.setIfInBounds_toArray]
      refine wpAnyF_take 1 (v := ?v1A) (by rfl) (by kernel_rfl) (by intro _ _ _ h; exact h) trivial (by rfl) ?hy1A ?rest1A
      case hy1A =>
        intro w' hSw
        have s0 := id hSw
        clear hSw
        go_simp
        try with_reducible rfl
      simp only [Act.put]
      refine wpAnyF_take 7 (v := ?v7A) (by rfl) (by kernel_rfl) (by intro _ _ _ h; exact h) trivial (by rfl) ?hy7A ?rest7A
      case hy7A =>
        intro w' hSw
        have s0 := id hSw
        clear hSw
        go_simp
        try with_reducible rfl
      simp only [Act.put]
      refine wpAnyF_one 2 (by rfl) (by kernel_rfl) rfl ?_
      intro K hK
      go_simp
      have hbr : Below w0.heap.size w0 wr.drew := bl_trans9 HB0.out (bl_low9 (HM.out.bl.drew) hg)
      refine (pick_calls g cv code ci 3 _ (HR.out.later hbr) (HC.out.later (bl_drew (Below.refl _ _))) hcip (by omega)).mono ?_; rintro e w2 ⟨rfl, hC2, hm2⟩
      rw [H12.out.1]
      rw [H12.out.2.1] at hC2
      have HC2 := Lib.hid hC2
      have HM2 := Lib.hid (HM.out.drew.trans hm2)
      have HM2r := Lib.hid ((Mv.refl [72] g wr).drew.trans hm2)
      clear hC2 hm2 hbr
      dsimp only
      refine hK.out _ _ (fun _ => trivial) ?_
      clear hK K
      refine wpAnyF_take 3 (v := ?v3B) (by rfl) (by kernel_rfl) (by intro _ _ _ h; exact h) trivial (by rfl) ?hy3B ?rest3B
      case hy3B =>
        intro w' hSw
        have s0 := id hSw
        clear hSw
        go_simp
        try with_reducible rfl
      simp only [Act.put, List.setIfInBounds_toArray]
      refine wpAnyF_take 4 (v := ?v4B) (by rfl) (by kernel_rfl) (by intro _ _ _ h; exact h) trivial (by rfl) ?hy4B ?rest4B
      case hy4B =>
        intro w' hSw
        have s0 := id hSw
        clear hSw
        go_simp
        try with_reducible rfl
      simp only [Act.put]
      have HU1 : Hid (IntKind.u8.wrap (97 + (x1 : Int)) = 97 + (x1 : Int)) := Lib.hid (IntWalk.u8_in _ (by omega))
      have HU2 : Hid (IntKind.u8.wrap (48 + (x2 : Int)) = 48 + (x2 : Int)) := Lib.hid (IntWalk.u8_in _ (by omega))
      have HT1 : Hid (strOfNums [97 + (x1 : Int)] = (drawVar x1 x2).nm) := Lib.hid (chr_nums (97 + x1) (by omega))
      have HT2 : Hid (strOfNums [48 + (x2 : Int)] = (drawVar x1 x2).tx) := Lib.hid (chr_nums (48 + x2) (by omega))
      rw [HW1.out, HU1.out]
      generalize hy1 : 97 + (x1 : Int) = y1 at HT1 ⊢
      clear hy1
      refine wpAnyF_two 5 8 (by rfl) (by rfl) (by kernel_rfl) rfl rfl ?_ ?_
      intro K hK
      go_simp
      have HK1 := Lib.hid (ByB.new w2 y1)
      have HMA := Lib.hid (HM2r.out.alloc (by have := HC2.out.blk.lt; omega) (.cells #[.int .u8 y1] 5))
      have HCA := Lib.hid (HC2.out.later (bl_alloc (Below.refl _ _) (.cells #[.int .u8 y1] 5)))
      refine hK.out _ _ (fun _ => trivial) ?_
      clear hK K
      obtain ⟨b1, hb1⟩ : ∃ b, w2.heap.size = b := ⟨_, rfl⟩
      rw [hb1] at HK1 ⊢
      clear hb1
      generalize w2.alloc (.cells #[.int .u8 y1] 5) = wA at HK1 HMA HCA ⊢
      refine wpAnyF_mono (S' := fun w' => ByB w' b1 y1) (fun _ _ => trivial) _ ?_
      refine wpAnyF_take 6 (v := ?v6LA) (by rfl) (by kernel_rfl) (by intro _ _ _ h; exact h) HK1.out (by rfl) ?hy6LA ?rest6LA
      case hy6LA =>
        intro w' hSw
        have cb := conv_byte w' _ _ (ByB.cell hSw)
        clear hSw
        go_simp
        try with_reducible rfl
      simp only [Act.put, List.setIfInBounds_toArray]
      refine wpAnyF_one 8 (by rfl) (by kernel_rfl) rfl ?_
      intro K hK
      go_simp
      have hbr : Below w0.heap.size w0 wA := bl_trans9 HB0.out (bl_low9 (HM.out.trans HMA.out).bl hg)
      refine (pick_calls g cv code cj 3 _ (HR.out.later hbr) HCA.out hcj (by omega)).mono ?_; rintro e w3 ⟨rfl, hC3, hm3⟩
      rw [H12.out.2.2.1]
      rw [H12.out.2.2.2] at hC3
      have HC3 := Lib.hid hC3
      have HM3 := Lib.hid (HMA.out.trans hm3)
      dsimp only
      replace HK1 := Lib.hid (HK1.out.mv hm3 (by decide))
      clear hC3 hm3 hbr HCA HMA
      refine hK.out _ _ (fun _ => HK1.out) ?_
      clear hK K
      refine wpAnyF_take 9 (v := ?v9LA) (by rfl) (by kernel_rfl) (by intro _ _ _ h; exact h) HK1.out (by rfl) ?hy9LA ?rest9LA
      case hy9LA =>
        intro w' hSw
        have s0 := id hSw
        clear hSw
        go_simp
        try with_reducible rfl
      simp only [Act.put, List.setIfInBounds_toArray]
      refine wpAnyF_take 10 (v := ?v10LA) (by rfl) (by kernel_rfl) (by intro _ _ _ h; exact h) HK1.out (by rfl) ?hy10LA ?rest10LA
      case hy10LA =>
        intro w' hSw
        have s0 := id hSw
        clear hSw
        go_simp
        try with_reducible rfl
      simp only [Act.put]
      rw [HW2.out, HU2.out]
      generalize hy2 : 48 + (x2 : Int) = y2 at HT2 ⊢
      clear hy2
      refine wpAnyF_one 11 (by rfl) (by kernel_rfl) rfl ?_
      intro K hK
      go_simp
      have HK2 := Lib.hid (ByB.new w3 y2)
      have HMF := Lib.hid (HM3.out.alloc (by have := HC3.out.blk.lt; omega) (.cells #[.int .u8 y2] 5))
      have HCF := Lib.hid (HC3.out.later (bl_alloc (Below.refl _ _) (.cells #[.int .u8 y2] 5)))
      replace HK1 := Lib.hid (HK1.out.alloc (.cells #[.int .u8 y2] 5))
      refine hK.out _ _ (fun _ => HK1.out) ?_
      clear hK K
      obtain ⟨b2, hb2⟩ : ∃ b, w3.heap.size = b := ⟨_, rfl⟩
      rw [hb2] at HK2 ⊢
      clear hb2 HC3 HM3 HC2 HM2 HM2r
      generalize w3.alloc (.cells #[.int .u8 y2] 5) = wF at HK1 HK2 HMF HCF ⊢
      refine wpAnyF_mono (S' := fun w' => ByB w' b1 y1 ∧ ByB w' b2 y2) (fun _ h => h.1) _ ?_
      have HKK := Lib.hid (And.intro HK1.out HK2.out)
      refine wpAnyF_take 12 (v := ?v12LA) (by rfl) (by kernel_rfl) (by intro _ _ _ h; exact h) HKK.out (by rfl) ?hy12LA ?rest12LA
      case hy12LA =>
        intro w' hSw
        have cb := conv_byte w' _ _ ((fun h => ByB.cell h.2) hSw)
        clear hSw
        go_simp
        try with_reducible rfl
      simp only [Act.put, List.setIfInBounds_toArray]
      rotate_left
      intro K hK
      go_simp
      have hbr : Below w0.heap.size w0 w2 := bl_trans9 HB0.out (bl_low9 (HM.out.trans HM2r.out).bl hg)
      refine (pick_calls g cv code cj 3 _ (HR.out.later hbr) HC2.out hcj (by omega)).mono ?_; rintro e w3 ⟨rfl, hC3, hm3⟩
      rw [H12.out.2.2.1]
      rw [H12.out.2.2.2] at hC3
      have HC3 := Lib.hid hC3
      have HM3 := Lib.hid (HM2r.out.trans hm3)
      dsimp only
      clear hC3 hm3 hbr HC2 HM2 HM2r
      refine hK.out _ _ (fun _ => trivial) ?_
      clear hK K
      refine wpAnyF_take 9 (v := ?v9LB) (by rfl) (by kernel_rfl) (by intro _ _ _ h; exact h) trivial (by rfl) ?hy9LB ?rest9LB
      case hy9LB =>
        intro w' hSw
        have s0 := id hSw
        clear hSw
        go_simp
        try with_reducible rfl
      simp only [Act.put, List.setIfInBounds_toArray]
      refine wpAnyF_take 10 (v := ?v10LB) (by rfl) (by kernel_rfl) (by intro _ _ _ h; exact h) trivial (by rfl) ?hy10LB ?rest10LB
      case hy10LB =>
        intro w' hSw
        have s0 := id hSw
        clear hSw
        go_simp
        try with_reducible rfl
      simp only [Act.put]
      rw [HW2.out, HU2.out]
      generalize hy2 : 48 + (x2 : Int) = y2 at HT2 ⊢
      clear hy2
      refine wpAnyF_two 5 11 (by rfl) (by rfl) (by kernel_rfl) rfl rfl ?_ ?_
      intro K hK
      go_simp
      have HK1 := Lib.hid (ByB.new w3 y1)
      have HMA := Lib.hid (HM3.out.alloc (by have := HC3.out.blk.lt; omega) (.cells #[.int .u8 y1] 5))
      have HCA := Lib.hid (HC3.out.later (bl_alloc (Below.refl _ _) (.cells #[.int .u8 y1] 5)))
      refine hK.out _ _ (fun _ => trivial) ?_
      clear hK K
      obtain ⟨b1, hb1⟩ : ∃ b, w3.heap.size = b := ⟨_, rfl⟩
      rw [hb1] at HK1 ⊢
      clear hb1
      generalize w3.alloc (.cells #[.int .u8 y1] 5) = wA at HK1 HMA HCA ⊢
      refine wpAnyF_mono (S' := fun w' => ByB w' b1 y1) (fun _ _ => trivial) _ ?_
      refine wpAnyF_take 6 (v := ?v6LC) (by rfl) (by kernel_rfl) (by intro _ _ _ h; exact h) HK1.out (by rfl) ?hy6LC ?rest6LC
      case hy6LC =>
        intro w' hSw
        have cb := conv_byte w' _ _ (ByB.cell hSw)
        clear hSw
        go_simp
        try with_reducible rfl
      simp only [Act.put, List.setIfInBounds_toArray]
      refine wpAnyF_one 11 (by rfl) (by kernel_rfl) rfl ?_
      intro K hK
      go_simp
      have HK2 := Lib.hid (ByB.new wA y2)
      have HMF := Lib.hid (HMA.out.alloc (by have := HCA.out.blk.lt; omega) (.cells #[.int .u8 y2] 5))
      have HCF := Lib.hid (HCA.out.later (bl_alloc (Below.refl _ _) (.cells #[.int .u8 y2] 5)))
      replace HK1 := Lib.hid (HK1.out.alloc (.cells #[.int .u8 y2] 5))
      refine hK.out _ _ (fun _ => HK1.out) ?_
      clear hK K
      obtain ⟨b2, hb2⟩ : ∃ b, wA.heap.size = b := ⟨_, rfl⟩
      rw [hb2] at HK2 ⊢
      clear hb2 HC3 HM3 HMA HCA
      generalize wA.alloc (.cells #[.int .u8 y2] 5) = wF at HK1 HK2 HMF HCF ⊢
      refine wpAnyF_mono (S' := fun w' => ByB w' b1 y1 ∧ ByB w' b2 y2) (fun _ h => h.1) _ ?_
      have HKK := Lib.hid (And.intro HK1.out HK2.out)
      refine wpAnyF_take 12 (v := ?v12LC) (by rfl) (by kernel_rfl) (by intro _ _ _ h; exact h) HKK.out (by rfl) ?hy12LC ?rest12LC
      case hy12LC =>
        intro w' hSw
        have cb := conv_byte w' _ _ ((fun h => ByB.cell h.2) hSw)
        clear hSw
        go_simp
        try with_reducible rfl
      simp only [Act.put, List.setIfInBounds_toArray]
      rotate_left
      intro K hK
      go_simp
      have HK2 := Lib.hid (ByB.new w3 y2)
      have HMA := Lib.hid (HM3.out.alloc (by have := HC3.out.blk.lt; omega) (.cells #[.int .u8 y2] 5))
      have HCA := Lib.hid (HC3.out.later (bl_alloc (Below.refl _ _) (.cells #[.int .u8 y2] 5)))
      refine hK.out _ _ (fun _ => trivial) ?_
      clear hK K
      obtain ⟨b2, hb2⟩ : ∃ b, w3.heap.size = b := ⟨_, rfl⟩
      rw [hb2] at HK2 ⊢
      clear hb2
      generalize w3.alloc (.cells #[.int .u8 y2] 5) = wA at HK2 HMA HCA ⊢
      refine wpAnyF_mono (S' := fun w' => ByB w' b2 y2) (fun _ _ => trivial) _ ?_
      refine wpAnyF_take 12 (v := ?v12LD) (by rfl) (by kernel_rfl) (by intro _ _ _ h; exact h) HK2.out (by rfl) ?hy12LD ?rest12LD
      case hy12LD =>
        intro w' hSw
        have cb := conv_byte w' _ _ (ByB.cell hSw)
        clear hSw
        go_simp
        try with_reducible rfl
      simp only [Act.put, List.setIfInBounds_toArray]
      refine wpAnyF_one 5 (by rfl) (by kernel_rfl) rfl ?_
      intro K hK
      go_simp
      have HK1 := Lib.hid (ByB.new wA y1)
      have HMF := Lib.hid (HMA.out.alloc (by have := HCA.out.blk.lt; omega) (.cells #[.int .u8 y1] 5))
      have HCF := Lib.hid (HCA.out.later (bl_alloc (Below.refl _ _) (.cells #[.int .u8 y1] 5)))
      replace HK2 := Lib.hid (HK2.out.alloc (.cells #[.int .u8 y1] 5))
      refine hK.out _ _ (fun _ => HK2.out) ?_
      clear hK K
      obtain ⟨b1, hb1⟩ : ∃ b, wA.heap.size = b := ⟨_, rfl⟩
      rw [hb1] at HK1 ⊢
      clear hb1 HC3 HM3 HMA HCA
      generalize wA.alloc (.cells #[.int .u8 y1] 5) = wF at HK1 HK2 HMF HCF ⊢
      refine wpAnyF_mono (S' := fun w' => ByB w' b1 y1 ∧ ByB w' b2 y2) (fun _ h => h.2) _ ?_
      have HKK := Lib.hid (And.intro HK1.out HK2.out)
      refine wpAnyF_take 6 (v := ?v6LD) (by rfl) (by kernel_rfl) (by intro _ _ _ h; exact h) HKK.out (by rfl) ?hy6LD ?rest6LD
      case hy6LD =>
        intro w' hSw
        have cb := conv_byte w' _ _ ((fun h => ByB.cell h.1) hSw)
        clear hSw
        go_simp
        try with_reducible rfl
      simp only [Act.put, List.setIfInBounds_toArray]
      all_goals
        rw [HT1.out, HT2.out]
        refine wpAnyF_one 13 (by rfl) (by kernel_rfl) rfl ?_
        intro K hK
        go_simp
        refine hK.out _ _ (fun _ => HKK.out) ?_
        clear hK K
        refine wpAnyF_one 14 (by rfl) (by kernel_rfl) rfl ?_
        intro K hK
        go_simp
        refine hK.out _ _ (fun _ => ⟨HKK.out.1.alloc _, HKK.out.2.alloc _⟩) ?_
        clear hK K
        refine wpAnyF_one 15 (by rfl) (by kernel_rfl) rfl ?_
        intro K hK
        have hsz : w.heap.size ≤ wF.heap.size := (HM.out.trans HMF.out).bl.size
        refine wp_appendG _ _ _ 36 (by rfl) w.heap.size 40 _ 2 32 1 Tryz.underlying36 i_var' rfl (by omega) _ L.length (varC L) (varC (L ++ [drawVar x1 x2])) (by rfl)
          ((HO.out.mv HMF.out (by decide)).later (bl_alloc (Below.refl _ _) _)) [.string (drawVar x1 x2).nm, .string (drawVar x1 x2).tx] rfl (by omega) (by simp [Value.oneCell']) wF.heap.size 0 1 (by rfl)
          (new_at wF [.string (drawVar x1 x2).nm, .string (drawVar x1 x2).tx] 40) (fun i hi j _ => varC_old L _ hi j)
          (fun i hi j hj => by
            obtain rfl : i = 0 := by omega
            rw [Nat.zero_mul, Nat.zero_add, Nat.add_zero]; exact varC_new L (drawVar x1 x2) hj) (by simp; omega) (by have := HLN.out; omega) (by have := HLN.out; omega) ?_
        intro gv capv w9 hO9 hG9 _ _
        have hm9 : Mv [72] g w w9 := mv_grownNew ((HM.out.trans HMF.out).alloc (by omega) _) (by omega) hG9 (fun b hb => (HO.out.lt b hb).1)
        have hmv : Mv [40] w.heap.size (wF.alloc (.cells #[.string (drawVar x1 x2).nm, .string (drawVar x1 x2).tx] 40)) w9 := (Mv.refl _ _ _).grown (by simp; omega) hG9 (fun b hb => by obtain ⟨N, F, hB⟩ := HO.out.block hb; exact ⟨(HO.out.lt b hb).1, _, N, F, (hB.mv HMF.out (by decide)).later (bl_alloc (Below.refl _ _) _), by decide⟩)
        have HC9 := Lib.hid ((HCF.out.later (bl_alloc (Below.refl _ _) _)).mv hmv (by decide))
        have HK9 := Lib.hid (And.intro ((HKK.out.1.alloc _).mv hmv (by decide)) ((HKK.out.2.alloc _).mv hmv (by decide)))
        have HO9 := Lib.hid hO9
        have HM9 := Lib.hid hm9
        have hlL : (L ++ [drawVar x1 x2]).length = L.length + 1 := by simp
        rw [← hlL] at HO9 ⊢
        obtain ⟨L2, hL2⟩ : ∃ l, L ++ [drawVar x1 x2] = l := ⟨_, rfl⟩
        have HS2 : Hid (varsN code c1 (i + 1) = (L2, ck)) := Lib.hid (by rw [HS.out, hL2])
        rw [hL2] at HO9 ⊢
        clear hO9 hG9 hm9 hmv hsz hlL hL2
        refine hK.out _ _ (fun _ => HK9.out) ?_
        clear hK K
        simp only [Act.put, List.setIfInBounds_toArray]
        refine wpAnyF_one 16 (by rfl) (by kernel_rfl) rfl ?_
        intro K hK
        go_simp
        refine hK.out _ _ (fun h => absurd rfl h) ?_
        clear hK K
        refine wpAnyF_done (by kernel_rfl) ?_ _
        go_wp2
        go_roundw
        case rel => exact ⟨i + 1, m - 1, by omega, by rw [Int.natCast_sub (by omega)]; rfl, by rw [HS2.out]; exact HO9.out, by rw [HS2.out]; exact HC9.out, HM9.out⟩
        case measure => simp [intOf]; omega
    · obtain rfl : m = 0 := by omega
      obtain rfl : n0 = i := by omega
      clear hO hC hM hL hpi hs hLL hci
      go_wp2
      go_ret
      exact ⟨_, rfl, by rw [HQ.out.1]; exact HO.out, by rw [HQ.out.2]; exact HC.out, HM.out⟩
end Go.Proofs.YtcklnjjbhngbcaaGreatDoor
