/- FnDeep's walk. -/
import Derived.Test.YtcklnjjbhngbcaaL11
import Derived.Test.YtcklnjjbhngbcaaL12
import Derived.Test.YtcklnjjbhngbcaaP11
import Derived.Test.YtcklnjjbhngbcaaB9
import Derived.Test.YtcklnjjbhngbcaaI8
import Derived.Test.YtcklnjjbhngbcaaI5
namespace Go.Proofs.Ytcklnjjbhngbcaa
open Go.RowKit Go.Proofs.Lens Go.ChangeShapes Go.WideShapes

theorem strs_main (w : World) : RdStrs (w.alloc (.cells #[.string ⟨#[109, 97, 105, 110]⟩, .string ⟨#[102]⟩] 9)) (.slice (some ⟨w.heap.size, 0, none⟩) 2 2) [⟨#[109, 97, 105, 110]⟩, ⟨#[102]⟩] := by
  have h := Blk.made w #[.string ⟨#[109, 97, 105, 110]⟩, .string ⟨#[102]⟩] 9
  refine RdSl.congr (h.rd (n := 2) (sz := 1) (c := 2) (by simp) (by omega)) fun i hi j hj => ?_
  obtain rfl : j = 0 := by omega
  match i, hi with
  | 0, _ => rfl
  | 1, _ => rfl

theorem hM_far {w : World} {lo lo2 g : Nat} {v : Value} {ms : List PMom} {a b : Value} (h : BMoms w lo v ms) (hX : Blk w g 35 2 (trF a b)) (u : Value) (hl : lo2 ≤ g) : BMoms (w.setCell ⟨g, 1, none⟩ u) lo v ms :=
  h.mv ((Mv.refl [35] lo2 w).set hl hX (by simp) u) (by decide) (by decide)

set_option maxRecDepth 100000 in
set_option maxHeartbeats 4000000 in
theorem deep_law (v : Value) (code : List Nat) (w : World) (hr : RdBytes w v code) :
    Calls Try.prog 6 #[v] w fun e w' => e = .returned (.bool true) ∧ Below w.heap.size w w' := by
  have HT := Lib.hid hr
  obtain ⟨A0, c0, rfl, hn0, -⟩ := hr.open'
  by_cases hbig : 1048576 < code.length
  · have hd : decide ((code.length : Int) > 1048576) = true := by simp; omega
    clear hr
    go_enter Try.func6, Try.ntmps6
    go_wp2
    go_ret
    exact ⟨rfl, Below.refl _ _⟩
  have hd : decide ((code.length : Int) > 1048576) = false := by simp; omega
  have h256 : wb code 0 < 256 := by
    unfold wb
    split
    · omega
    · exact hr.2 _
  clear hr hbig
  go_enter Try.func6, Try.ntmps6
  go_wp2_with fail
  refine (wByte_calls _ code 0 _ HT.out (by omega)).mono ?_; rintro e w1 ⟨rfl, rfl⟩
  generalize wb code 0 = x at h256 ⊢
  obtain ⟨n, hn⟩ : ∃ n, n = 1 + x % 150 := ⟨_, rfl⟩
  have en : 1 + (x : Int) % 150 = (n : Int) := by omega
  have n0 : 1 ≤ n := by omega
  have n1 : n ≤ 150 := by omega
  clear hn
  go_wp2_with fail
  have HX0 := Lib.hid (show Blk ((w.alloc (.cells #[.string ⟨#[109, 97, 105, 110]⟩, .string ⟨#[102]⟩] 9)).alloc (.cells #[.slice (some ⟨w.heap.size, 0, none⟩) 2 2, .slice none 0 0] 35)) (w.heap.size + 1) 35 2 (trF (.slice (some ⟨w.heap.size, 0, none⟩) 2 2) (.slice none 0 0)) from by
    have h := Blk.made (w.alloc (.cells #[.string ⟨#[109, 97, 105, 110]⟩, .string ⟨#[102]⟩] 9)) #[.slice (some ⟨w.heap.size, 0, none⟩) 2 2, .slice none 0 0] 35
    rw [World.size_alloc] at h
    exact h.congr fun j hj => by match j, hj with | 0, _ => rfl | 1, _ => rfl)
  have HS0 := Lib.hid ((Blk.made w #[.string ⟨#[109, 97, 105, 110]⟩, .string ⟨#[102]⟩] 9).alloc (.cells #[.slice (some ⟨w.heap.size, 0, none⟩) 2 2, .slice none 0 0] 35))
  have HB0 := Lib.hid (bl_alloc (bl_alloc (Below.refl _ w) (.cells #[.string ⟨#[109, 97, 105, 110]⟩, .string ⟨#[102]⟩] 9)) (.cells #[.slice (some ⟨w.heap.size, 0, none⟩) 2 2, .slice none 0 0] 35))
  generalize hW : World.alloc (World.alloc w _) _ = W0 at HX0 HS0 HB0 ⊢
  have hs0 : w.heap.size + 2 ≤ W0.heap.size := by rw [← hW]; simp
  clear hW
  go_loopw [5] (fun i wr => ∃ (k : Nat) (vM : Value), k ≤ n ∧ i = .int .i64 k ∧ BMoms wr (w.heap.size + 2) vM (upD k) ∧ Blk wr (w.heap.size + 1) 35 2 (trF (.slice (some ⟨w.heap.size, 0, none⟩) 2 2) vM) ∧
    Blk wr w.heap.size 9 2 (fun j => #[Value.string ⟨#[109, 97, 105, 110]⟩, .string ⟨#[102]⟩].getD j undef) ∧ Below w.heap.size w wr ∧ w.heap.size + 2 ≤ wr.heap.size) (fun i _ => n - (intOf i).toNat)
  case atStart => exact ⟨0, _, Nat.zero_le _, rfl, BMoms.nil, HX0.out, HS0.out, HB0.out, hs0⟩
  case round =>
    obtain ⟨k, vM, hk, rfl, hM, hX, hS, hB, hsr⟩ := hrel
    clear HX0 HS0 HB0 hs0
    have HM := Lib.hid hM
    have HX := Lib.hid hX
    have HS := Lib.hid hS
    have HB := Lib.hid hB
    obtain ⟨A3, c3, rfl, -⟩ := hM.cap
    have hl := upD_len k
    have HU : Hid (upD (k + 1) = upD k ++ [cM] ++ [lM]) := Lib.hid rfl
    generalize hms : upD (k + 1) = ms5 at HU
    have HMS := Lib.hid hms
    clear hM hX hS hB hms
    have x1 : wr.cell? ⟨w.heap.size + 1, 1, none⟩ = some (.slice A3 (upD k).length c3) := HX.out.cell (j := 1) (by omega)
    by_cases hlt : k < n
    · have hl' : (upD k).length ≤ 1048576 := by omega
      clear hl
      go_wp2_with (at_builtin; refine stopped ?_)
      unfold Stopped
      refine wpList_appendM2 _ (by rfl) _ _ (by rfl) (w.heap.size + 2) _ (upD k) cM lM (.slice none 0 0) (.slice none 0 0) (by rfl) HM.out OwR.nil OwR.nil rfl rfl _ (by rfl) (by rfl) hsr hl' ?_
      rw [← HU.out]
      intro ga cap w5 hM5 hm5 hs5
      have HM5 := Lib.hid hM5
      have HX5 := Lib.hid (HX.out.mv hm5 (by decide))
      have HS5 := Lib.hid (HS.out.mv hm5 (by decide))
      have HB5 := Lib.hid (bl_trans9 HB.out (bl_low9 hm5.bl (by omega)))
      clear hM5 hm5 x1
      have x1 : w5.cell? ⟨w.heap.size + 1, 1, none⟩ = some (.slice A3 (upD k).length c3) := HX5.out.cell (j := 1) (by omega)
      have f1 := HX5.out.free 1
      go_wp2
      go_roundw
      case rel => exact ⟨k + 1, _, by omega, by go_num, by rw [HMS.out]; exact hM_far (lo2 := 0) HM5.out HX5.out _ (by omega), trF_set HX5.out _, HS5.out.far (by dsimp only; omega) _, bl_set HB5.out (by dsimp only; omega) _, by rw [World.size_setCell]; omega⟩
      case measure => simp [intOf]; omega
    · obtain rfl : n = k := by omega
      clear HU HMS x1
      go_wp2_with fail
      go_loopw [6] (fun i wr => ∃ (k : Nat) (vM : Value), k ≤ n ∧ i = .int .i64 k ∧ BMoms wr (w.heap.size + 2) vM (bkD n k) ∧ Blk wr (w.heap.size + 1) 35 2 (trF (.slice (some ⟨w.heap.size, 0, none⟩) 2 2) vM) ∧
        Blk wr w.heap.size 9 2 (fun j => #[Value.string ⟨#[109, 97, 105, 110]⟩, .string ⟨#[102]⟩].getD j undef) ∧ Below w.heap.size w wr ∧ w.heap.size + 2 ≤ wr.heap.size) (fun i _ => n - (intOf i).toNat)
      case atStart => exact ⟨0, _, Nat.zero_le _, rfl, HM.out, HX.out, HS.out, HB.out, hsr⟩
      case round =>
        obtain ⟨k, vM, hk, rfl, hM, hX, hS, hB, hsr⟩ := hrel
        clear HM HX HS HB
        have HM := Lib.hid hM
        have HX := Lib.hid hX
        have HS := Lib.hid hS
        have HB := Lib.hid hB
        obtain ⟨A3, c3, rfl, -⟩ := hM.cap
        have hl := bkD_len n k
        have HU : Hid (bkD n (k + 1) = bkD n k ++ [bM]) := Lib.hid rfl
        generalize hms : bkD n (k + 1) = ms5 at HU
        have HMS := Lib.hid hms
        clear hM hX hS hB hms
        have x1 : wr.cell? ⟨w.heap.size + 1, 1, none⟩ = some (.slice A3 (bkD n k).length c3) := HX.out.cell (j := 1) (by omega)
        by_cases hlt : k < n
        · have hl' : (bkD n k).length ≤ 1048576 := by omega
          clear hl
          go_wp2_with (at_builtin; refine stopped ?_)
          unfold Stopped
          refine wpList_appendM _ (by rfl) _ _ (by rfl) (w.heap.size + 2) _ (bkD n k) bM (.slice none 0 0) (by rfl) HM.out OwR.nil rfl _ (by rfl) (by rfl) hsr hl' ?_
          rw [← HU.out]
          intro ga cap w5 hM5 hm5 hs5
          have HM5 := Lib.hid hM5
          have HX5 := Lib.hid (HX.out.mv hm5 (by decide))
          have HS5 := Lib.hid (HS.out.mv hm5 (by decide))
          have HB5 := Lib.hid (bl_trans9 HB.out (bl_low9 hm5.bl (by omega)))
          clear hM5 hm5 x1
          have x1 : w5.cell? ⟨w.heap.size + 1, 1, none⟩ = some (.slice A3 (bkD n k).length c3) := HX5.out.cell (j := 1) (by omega)
          have f1 := HX5.out.free 1
          go_wp2
          go_roundw
          case rel => exact ⟨k + 1, _, by omega, by go_num, by rw [HMS.out]; exact hM_far (lo2 := 0) HM5.out HX5.out _ (by omega), trF_set HX5.out _, HS5.out.far (by dsimp only; omega) _, bl_set HB5.out (by dsimp only; omega) _, by rw [World.size_setCell]; omega⟩
          case measure => simp [intOf]; omega
        · obtain rfl : n = k := by omega
          clear HU HMS x1
          have hln : (deepT n).moms.length = 3 * n := deepMs_len n
          have hbk : bkD n n = (deepT n).moms := bkD_deep n
          have hso := deep_sound n1
          have hfc := deep_fcP n1
          have hct := deep_ctP n1
          have HOV := Lib.hid (deep_over n1 n0)
          have HO1 := Lib.hid (deep_out1 n1 n0)
          have HO0 := Lib.hid (deep_out0 n1 n0)
          have hfl : (deepT n).fns = [⟨#[109, 97, 105, 110]⟩, ⟨#[102]⟩] := rfl
          rw [hbk] at HM HX
          generalize deepT n = t at hln hbk hso hfc hct HOV HO1 HO0 hfl HM HX
          have HSM := Lib.hid (sm_sound hso)
          have hrt : ∀ W : World, Below wr.heap.size wr W → RdTr W (.slice (some ⟨w.heap.size, 0, none⟩) 2 2) (.slice A3 t.moms.length c3) t := fun W hW => by
            refine ⟨?_, HM.out.rd.later hW⟩
            unfold RdStrs
            rw [hfl]
            refine RdSl.congr (((HS.out.later hW).rd (n := 2) (sz := 1) (c := 2) (by simp) (by omega))) fun i hi j hj => ?_
            obtain rfl : j = 0 := by omega
            match i, hi with
            | 0, _ => rfl
            | 1, _ => rfl
          have HRT := Lib.hid hrt
          have HFC := Lib.hid hfc
          have HCT := Lib.hid hct
          clear hln hbk hso hfc hct hfl hrt
          have x0 : wr.cell? ⟨w.heap.size + 1, 0, none⟩ = some (.slice (some ⟨w.heap.size, 0, none⟩) 2 2) := HX.out.cell (j := 0) (by omega)
          have x1 : wr.cell? ⟨w.heap.size + 1, 1, none⟩ = some (.slice A3 t.moms.length c3) := HX.out.cell (j := 1) (by omega)
          go_wp2_with fail
          clear x0 x1
          refine (impl_FnCounts_calls _ _ t _ (HRT.out _ (Below.refl _ _)) HSM.out).mono ?_; rintro e w1 ⟨u1, rfl, hO, hb⟩
          rw [HFC.out, fcList_len] at hO
          have hO := hO.congr (C' := fcC (fcN (deepMs n) (2 * n))) fun i hi j hj => fcList_row _ hi
          obtain ⟨A5, c5, rfl, -⟩ := hO.cap
          have HO := Lib.hid hO
          have HW1 := Lib.hid hb
          clear hO
          replace HB := Lib.hid (bl_then HB.out hb); replace HX := Lib.hid (HX.out.later hb); clear hb
          have x0 : w1.cell? ⟨w.heap.size + 1, 0, none⟩ = some (.slice (some ⟨w.heap.size, 0, none⟩) 2 2) := HX.out.cell (j := 0) (by omega)
          have x1 : w1.cell? ⟨w.heap.size + 1, 1, none⟩ = some (.slice A3 t.moms.length c3) := HX.out.cell (j := 1) (by omega)
          go_wp2_with fail
          clear x0 x1
          refine (impl_CallTree_calls _ _ t _ (HRT.out _ HW1.out) HSM.out).mono ?_; rintro e w2 ⟨u2, rfl, hO2, hb⟩
          rw [HCT.out, dBr_len] at hO2
          obtain ⟨A6, c6, rfl, -⟩ := hO2.cap
          have HO2 := Lib.hid hO2
          replace HW1 := Lib.hid (bl_then HW1.out hb)
          clear hO2
          replace HB := Lib.hid (bl_then HB.out hb); replace HX := Lib.hid (HX.out.later hb); replace HO := Lib.hid (HO.out.later hb); clear hb
          obtain ⟨b5, e5, hc5⟩ : ∃ b5, A5 = some ⟨b5, 0, none⟩ ∧ ∀ i, i < 2 → ∀ j, j < 4 → w2.cell? ⟨b5, i * 4 + j, none⟩ = some (fcC (fcN (deepMs n) (2 * n)) i j) := by
            obtain ⟨A7, c7, e7, hop⟩ := HO.out.open'
            obtain ⟨b7, e8, -, -, hc, -⟩ := hop (by omega)
            cases e7
            exact ⟨b7, e8, hc⟩
          subst e5
          obtain ⟨d1, d2, d3, d4, d5, d6⟩ := deep_fc n n (Nat.le_refl _)
          have z0 : w2.cell? ⟨b5, 0, none⟩ = some (.int .i64 0) := hc5 0 (by omega) 0 (by omega)
          have z1 : w2.cell? ⟨b5, 1, none⟩ = some (.int .i64 1) := by have := hc5 0 (by omega) 1 (by omega); simp only [fcC, d1] at this; exact this
          have z2 : w2.cell? ⟨b5, 2, none⟩ = some (.int .i64 0) := by have := hc5 0 (by omega) 2 (by omega); simp only [fcC, d3] at this; exact this
          have z3 : w2.cell? ⟨b5, 3, none⟩ = some (.int .i64 n) := by have := hc5 0 (by omega) 3 (by omega); simp only [fcC, d5] at this; exact this
          have z4 : w2.cell? ⟨b5, 4, none⟩ = some (.int .i64 1) := hc5 1 (by omega) 0 (by omega)
          have z5 : w2.cell? ⟨b5, 5, none⟩ = some (.int .i64 n) := by have := hc5 1 (by omega) 1 (by omega); simp only [fcC, d2] at this; exact this
          have z6 : w2.cell? ⟨b5, 6, none⟩ = some (.int .i64 n) := by have := hc5 1 (by omega) 2 (by omega); simp only [fcC, d4] at this; exact this
          have z7 : w2.cell? ⟨b5, 7, none⟩ = some (.int .i64 n) := by have := hc5 1 (by omega) 3 (by omega); simp only [fcC, d6] at this; exact this
          obtain ⟨n1', hn1⟩ : ∃ n1', n + 1 = n1' := ⟨_, rfl⟩
          have hdn : ((n1' : Int) != (n : Int) + 1) = false := by simp; omega
          rw [hn1] at HO2 ⊢
          have HN1 := Lib.hid hn1
          clear d1 d2 d3 d4 d5 d6 hc5 hn1
          go_wp2_with fail
          clear z0 z1 z2 z3 z4 z5 z6 z7
          go_loop [9] (fun i => ∃ k : Nat, 1 ≤ k ∧ k ≤ n + 1 ∧ i = .int .i64 k) (fun i => n + 1 - (intOf i).toNat)
          case atStart => exact ⟨1, by omega, by omega, rfl⟩
          case round =>
            obtain ⟨k, hk0, hk1, rfl⟩ := hrel
            by_cases hlt : k < n + 1
            · obtain ⟨b6, e6, hc6⟩ : ∃ b6, A6 = some ⟨b6, 0, none⟩ ∧ ∀ i, i < n1' → ∀ j, j < 4 → w2.cell? ⟨b6, i * 4 + j, none⟩ = some (brC (dBr n) i j) := by
                obtain ⟨A7, c7, e7, hop⟩ := HO2.out.open'
                obtain ⟨b7, e8, -, -, hc, -⟩ := hop (by have := HN1.out; omega)
                cases e7
                exact ⟨b7, e8, hc⟩
              subst e6
              have hkn : k < n1' := by have := HN1.out; omega
              have hkn' : (k : Int) < (n1' : Int) := by omega
              have he := dBr_elt n k hk0 (by omega)
              have z0 : w2.cell? ⟨b6, k * 4, none⟩ = some (.int .i64 1) := by have := hc6 k hkn 0 (by omega); simp only [brC, he] at this; exact this
              have z1 : w2.cell? ⟨b6, k * 4 + 1, none⟩ = some (.int .i64 ((k : Int) - 1)) := by have := hc6 k hkn 1 (by omega); simp only [brC, he] at this; exact this
              have z2 : w2.cell? ⟨b6, k * 4 + 2, none⟩ = some (.int .i64 1) := by have := hc6 k hkn 2 (by omega); simp only [brC, he] at this; exact this
              have z3 : w2.cell? ⟨b6, k * 4 + 3, none⟩ = some (.int .i64 1) := by have := hc6 k hkn 3 (by omega); simp only [brC, he] at this; exact this
              clear hc6 he
              go_wp2
              go_round
              case rel => exact ⟨k + 1, by omega, by omega, by go_num⟩
              case measure => simp [intOf]; omega
            · obtain rfl : k = n + 1 := by omega
              have x0 : w2.cell? ⟨w.heap.size + 1, 0, none⟩ = some (.slice (some ⟨w.heap.size, 0, none⟩) 2 2) := HX.out.cell (j := 0) (by omega)
              have x1 : w2.cell? ⟨w.heap.size + 1, 1, none⟩ = some (.slice A3 t.moms.length c3) := HX.out.cell (j := 1) (by omega)
              go_wp2_with fail
              clear x0 x1
              refine (impl_Over_calls _ _ t 0 _ (HRT.out _ HW1.out) HSM.out).mono ?_; rintro e w3 ⟨rfl, hb⟩
              rw [HOV.out]
              replace HW1 := Lib.hid (bl_then HW1.out hb)
              replace HB := Lib.hid (bl_then HB.out hb); replace HX := Lib.hid (HX.out.later hb); clear hb
              have x0 : w3.cell? ⟨w.heap.size + 1, 0, none⟩ = some (.slice (some ⟨w.heap.size, 0, none⟩) 2 2) := HX.out.cell (j := 0) (by omega)
              have x1 : w3.cell? ⟨w.heap.size + 1, 1, none⟩ = some (.slice A3 t.moms.length c3) := HX.out.cell (j := 1) (by omega)
              go_wp2_with fail
              clear x0 x1
              refine (impl_Out_calls _ _ t (2 * (n : Int) - 1) _ (HRT.out _ HW1.out) HSM.out).mono ?_; rintro e w4 ⟨rfl, hb⟩
              rw [HO1.out]
              replace HW1 := Lib.hid (bl_then HW1.out hb)
              replace HB := Lib.hid (bl_then HB.out hb); replace HX := Lib.hid (HX.out.later hb); clear hb
              have x0 : w4.cell? ⟨w.heap.size + 1, 0, none⟩ = some (.slice (some ⟨w.heap.size, 0, none⟩) 2 2) := HX.out.cell (j := 0) (by omega)
              have x1 : w4.cell? ⟨w.heap.size + 1, 1, none⟩ = some (.slice A3 t.moms.length c3) := HX.out.cell (j := 1) (by omega)
              go_wp2_with fail
              clear x0 x1
              refine (impl_Out_calls _ _ t 0 _ (HRT.out _ HW1.out) HSM.out).mono ?_; rintro e w5 ⟨rfl, hb⟩
              rw [HO0.out]
              replace HB := Lib.hid (bl_then HB.out hb); clear hb
              go_wp2
              go_ret
              exact ⟨rfl, HB.out⟩

set_option maxRecDepth 100000 in
theorem deep_walk (H : Type) (enc : TypeId × Value → H) (W : World) (base : Nat) (args : Array Value) (ds : List (DataW H)) (ps : List MemPlace)
    (hval : ∀ (j : Nat) t v, Try.f6.params[j]? = some t → args[j]? = some v → Value.okWide Try.prog W .any base t v)
    (h : DataW.TrodAll enc Try.prog W 0 (fun _ => true) true Try.f6.params.toList args.toList ds ps) :
    Calls Try.prog 6 args W fun e W' => e = .returned (.bool true) ∧ Below W.heap.size W W' := by
  rw [Try.params6] at h hval
  obtain ⟨v0, d0, ha, _, h0⟩ := trodAll_one h
  have ha' : args = #[v0] := by simpa using ha
  subst ha'
  obtain ⟨code, hr⟩ := rd_bytes (hval 0 _ _ rfl rfl) h0
  exact deep_law v0 code W hr
end Go.Proofs.Ytcklnjjbhngbcaa
