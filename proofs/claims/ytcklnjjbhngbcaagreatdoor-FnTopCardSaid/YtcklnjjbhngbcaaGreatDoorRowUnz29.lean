/- Lemmas and contracts of functions that the theorem of this claim leans on (texts G4). -/
import Derived.Test.YtcklnjjbhngbcaaGreatDoorRowUnz28
import Derived.Test.YtcklnjjbhngbcaaGreatDoorRowUnz04
namespace Go.Proofs.YtcklnjjbhngbcaaGreatDoor
open Go.RowKit Go.Proofs.Lens

theorem drawn_rd {w : World} {gs lo : Nat} {v2 : Value} {code : List Nat} (hS : Blk w gs 9 4 strsF) (hM : BMoms w lo v2 (drawnT code).moms) : RdTr w (.slice (some ⟨gs, 0, none⟩) 4 4) v2 (drawnT code) := by
  refine ⟨?_, hM.rd⟩
  show RdSl w 1 4 (strC dFns) _
  refine RdSl.congr (hS.rd (n := 4) (sz := 1) (c := 4) (by omega) (by omega)) fun i hi j hj => ?_
  obtain rfl : j = 0 := by omega
  match i, hi with
  | 0, _ => rfl
  | 1, _ => rfl
  | 2, _ => rfl
  | 3, _ => rfl

theorem cu_new (W : World) (cv : Value) : CuAt (W.alloc (.cells #[cv, .int .i64 0, .int .u64 0] 72)) W.heap.size cv cu0 :=
  ⟨(Blk.made W #[cv, .int .i64 0, .int .u64 0] 72).congr fun j hj => by
    have hj : j < 3 := hj
    match j, hj with
    | 0, _ => rfl
    | 1, _ => rfl
    | 2, _ => rfl, by decide⟩

set_option maxRecDepth 100000 in
set_option maxHeartbeats 1000000 in
theorem drawn_calls (v : Value) (code : List Nat) (w : World) (hr : RdBytes w v code) (hcode : code.length ≤ 1048576) :
    Calls Tryz.prog 7 #[v] w fun e w' => ∃ gs v2, e = .returned (.agg #[.slice (some ⟨gs, 0, none⟩) 4 4, v2]) ∧ w.heap.size ≤ gs ∧ Blk w' gs 9 4 strsF ∧ BMoms w' w.heap.size v2 (drawnT code).moms ∧ Below w.heap.size w w' := by
  have HR := Lib.hid hr
  obtain ⟨A0, c0, rfl, hn0, -⟩ := hr.open'
  have hn := pickP_lt code cu0 (n := 90) (by omega)
  have hpp := (pick_adv code (n := 90) (by omega) cu0).1
  have hd : (drawnT code).moms = (trEnd code (pickP code 90 cu0).2 (pickP code 90 cu0).1).ms := rfl
  obtain ⟨n, hne⟩ : ∃ x, (pickP code 90 cu0).1 = x := ⟨_, rfl⟩
  obtain ⟨c1, hce⟩ : ∃ x, (pickP code 90 cu0).2 = x := ⟨_, rfl⟩
  rw [hne, hce] at hd
  rw [hne] at hn
  rw [hce] at hpp
  have h0 : cu0.pos = 0 := rfl
  have HD := Lib.hid hd
  have HE := Lib.hid (And.intro hne hce)
  clear hr hd hne hce
  go_enter Tryz.func7, Tryz.ntmps7
  go_wp2_with fail
  have HC := Lib.hid (cu_new (w.alloc (.cells #[.slice none 0 0, .slice none 0 0] 26)) (.slice A0 code.length c0))
  have HX := Lib.hid ((Blk.made w #[.slice none 0 0, .slice none 0 0] 26).alloc (.cells #[.slice A0 code.length c0, .int .i64 0, .int .u64 0] 72))
  have HB := Lib.hid (bl_alloc (bl_alloc (Below.refl _ w) (.cells #[.slice none 0 0, .slice none 0 0] 26)) (.cells #[.slice A0 code.length c0, .int .i64 0, .int .u64 0] 72))
  rw [World.size_alloc] at HC
  generalize hW : World.alloc (World.alloc w _) _ = W at HC HX HB ⊢
  have hsz : W.heap.size = w.heap.size + 2 := by rw [← hW]; simp
  have hsz1 : w.heap.size + 2 ≤ W.heap.size := by omega
  clear hW hsz
  refine (pick_calls _ _ code cu0 90 _ (HR.out.later HB.out) HC.out (by omega) (by omega)).mono ?_; rintro e w1 ⟨rfl, hC, hm⟩
  rw [HE.out.1]
  rw [HE.out.2] at hC
  have HC1 := Lib.hid hC
  have HX1 := Lib.hid (HX.out.mv hm (by decide))
  have HB1 := Lib.hid (bl_trans9 HB.out (bl_low9 hm.bl (by omega)))
  have hsz2 : w.heap.size + 2 ≤ w1.heap.size := by have := hm.bl.size; omega
  clear hC hm HC HX HB
  go_wp2_with fail
  refine (trace_calls w _ _ code c1 n _ HR.out (by omega) HB1.out HC1.out (by omega) (by omega) hcode).mono ?_; rintro e w2 ⟨gs, v2, rfl, hgs, hS, hM, hC, -, hm⟩
  rw [← HD.out] at hM
  obtain ⟨A2, c2, rfl, -⟩ := hM.cap
  have HS2 := Lib.hid hS
  have HM2 := Lib.hid hM
  have HX2 := Lib.hid (HX1.out.mv hm (by decide))
  have HB2 := Lib.hid (bl_trans9 HB1.out (bl_low9 hm.bl (by omega)))
  clear hC hm hS hM HC1 HX1 HB1 HD
  have y1 : w2.cell? ⟨w.heap.size, 0, none⟩ = some (.slice none 0 0) := HX2.out.cell (j := 0) (by simp)
  have y2 : w2.cell? ⟨w.heap.size, 1, none⟩ = some (.slice none 0 0) := HX2.out.cell (j := 1) (by simp)
  have f0 := HX2.out.free 0
  have f1 := HX2.out.free 1
  go_wp2_with fail
  refine bodyPost_ret (v := .agg #[.slice (some ⟨gs, 0, none⟩) 4 4, .slice A2 (drawnT code).moms.length c2]) (by simp [results, Tryz.results7, go_sem, y1, y2]) rfl ⟨_, _, rfl, by omega, ?_, ?_, ?_⟩
  · exact (HS2.out.far (by dsimp only; omega) _).far (by dsimp only; omega) _
  · refine BMoms.lower ?_ (lo := w1.heap.size) (by omega)
    have h1 := hM_far0 HM2.out HX2.out 0 (by simp) (.slice (some ⟨gs, 0, none⟩) 4 4)
    exact hM_far0 h1 (HX2.out.set (j := 0) (by simp) (.slice (some ⟨gs, 0, none⟩) 4 4)) 1 (by simp) _
  · exact bl_set (bl_set HB2.out (by dsimp only; omega) _) (by dsimp only; omega) _
end Go.Proofs.YtcklnjjbhngbcaaGreatDoor
