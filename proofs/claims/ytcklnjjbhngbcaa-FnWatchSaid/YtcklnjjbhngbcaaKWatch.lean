/- FnWatch's walk. -/
import Derived.Test.YtcklnjjbhngbcaaL11
import Derived.Test.YtcklnjjbhngbcaaL12
import Derived.Test.YtcklnjjbhngbcaaB9
import Derived.Test.YtcklnjjbhngbcaaB4
import Derived.Test.YtcklnjjbhngbcaaI11
import Derived.Deep.DeepCutAuto
import Derived.Deep.CutBlock
import Derived.IntWalk
namespace Go.Proofs.Ytcklnjjbhngbcaa
open Go.RowKit Go.Proofs.Lens Go.ChangeShapes Go.WideShapes

set_option maxRecDepth 100000 in
set_option maxHeartbeats 4000000 in
theorem watch_law (v : Value) (code : List Nat) (w : World) (hr : RdBytes w v code) :
    Calls Try.prog 5 #[v] w fun e w' => e = .returned (.bool true) ∧ Below w.heap.size w w' := by
  have HT := Lib.hid hr
  obtain ⟨A0, c0, rfl, hn0, -⟩ := hr.open'
  by_cases hbig : 1048576 < code.length
  · have hd : decide ((code.length : Int) > 1048576) = true := by simp; omega
    clear hr
    go_enter Try.func5, Try.ntmps5
    go_wp2
    go_ret
    exact ⟨rfl, Below.refl _ _⟩
  have hd : decide ((code.length : Int) > 1048576) = false := by simp; omega
  have h256 : ∀ i, wb code i < 256 := by
    intro i
    unfold wb
    split
    · omega
    · exact hr.2 _
  have H256 := Lib.hid h256
  obtain ⟨n, hn⟩ : ∃ n, n = 1 + wb code 0 % 60 := ⟨_, rfl⟩
  have en : 1 + ((wb code 0 : Nat) : Int) % 60 = (n : Int) := by omega
  have n0 : 1 ≤ n := by omega
  have n1 : n ≤ 60 := by omega
  have hx := h256 0
  clear hr hbig hn h256
  go_enter Try.func5, Try.ntmps5
  go_wp2_with fail
  refine (wByte_calls _ code 0 _ HT.out (by omega)).mono ?_; rintro e w1 ⟨rfl, rfl⟩
  generalize wb code 0 = x at hx en ⊢
  go_wp2_with (at_builtin; refine stopped ?_)
  unfold Stopped
  have HX0 := Lib.hid (show Blk ((w.alloc (.cells #[.string ⟨#[109, 97, 105, 110]⟩, .string ⟨#[102]⟩] 9)).alloc (.cells #[.slice (some ⟨w.heap.size, 0, none⟩) 2 2, .slice none 0 0] 35)) (w.heap.size + 1) 35 2 (trF (.slice (some ⟨w.heap.size, 0, none⟩) 2 2) (.slice none 0 0)) from by
    have h := Blk.made (w.alloc (.cells #[.string ⟨#[109, 97, 105, 110]⟩, .string ⟨#[102]⟩] 9)) #[.slice (some ⟨w.heap.size, 0, none⟩) 2 2, .slice none 0 0] 35
    rw [World.size_alloc] at h
    exact h.congr fun j hj => by match j, hj with | 0, _ => rfl | 1, _ => rfl)
  have HS0 := Lib.hid ((Blk.made w #[.string ⟨#[109, 97, 105, 110]⟩, .string ⟨#[102]⟩] 9).alloc (.cells #[.slice (some ⟨w.heap.size, 0, none⟩) 2 2, .slice none 0 0] 35))
  have HB0 := Lib.hid (bl_alloc (bl_alloc (Below.refl _ w) (.cells #[.string ⟨#[109, 97, 105, 110]⟩, .string ⟨#[102]⟩] 9)) (.cells #[.slice (some ⟨w.heap.size, 0, none⟩) 2 2, .slice none 0 0] 35))
  generalize hW : World.alloc (World.alloc w _) (.cells _ 35) = W0 at HX0 HS0 HB0 ⊢
  have hsz : W0.heap.size = w.heap.size + 1 + 1 := by rw [← hW]; simp
  have hs0 : w.heap.size + 2 ≤ W0.heap.size := by omega
  have HSZ := Lib.hid hsz
  clear hW hsz
  refine wpList_appendM _ (by rfl) _ _ (by rfl) (w.heap.size + 2) _ [] cM (.slice none 0 0) (by rfl) BMoms.nil OwR.nil _ (by rfl) (by rw [HSZ.out]; rfl) hs0 (by simp) ?_
  rw [show ([] ++ [cM] : List PMom) = wMs code 0 from rfl]
  intro ga cap w5 hM5 hm5 hs5
  have HM5 := Lib.hid hM5
  have HX5 := Lib.hid (HX0.out.mv hm5 (by decide))
  have HS5 := Lib.hid (HS0.out.mv hm5 (by decide))
  have HB5 := Lib.hid (bl_trans9 HB0.out (bl_low9 hm5.bl (by omega)))
  clear hM5 hm5 HX0 HS0 HB0
  have x1 : w5.cell? ⟨w.heap.size + 1, 1, none⟩ = some (.slice none 0 0) := HX5.out.cell (j := 1) (by omega)
  have f1 := HX5.out.free 1
  go_wp2_with fail
  clear x1 f1
  go_loopw [5, 6, 7] (fun ov lv i wr => ∃ (k q : Nat) (vM : Value), q = k + 1 ∧ k ≤ n ∧ i = .int .i64 q ∧ lv = .int .i64 (wLast code k) ∧ BMoms wr (w.heap.size + 2) vM (wMs code k) ∧ Blk wr (w.heap.size + 1) 35 2 (trF (.slice (some ⟨w.heap.size, 0, none⟩) 2 2) vM) ∧
    Blk wr w.heap.size 9 2 (fun j => #[Value.string ⟨#[109, 97, 105, 110]⟩, .string ⟨#[102]⟩].getD j undef) ∧ OwR wr (w.heap.size + 2) 3 1 (wWant code k).length (intC (wWant code k)) ov ∧ Below w.heap.size w wr ∧ w.heap.size + 2 ≤ wr.heap.size) (fun _ _ i _ => n + 1 - (intOf i).toNat)
  case atStart => exact ⟨0, 1, _, rfl, Nat.zero_le _, rfl, rfl, hM_far (lo2 := 0) HM5.out HX5.out _ (by omega), trF_set HX5.out _, HS5.out.far (by dsimp only; omega) _, OwR.nil, bl_set HB5.out (by dsimp only; omega) _, by rw [World.size_setCell]; omega⟩
  case round =>
    obtain ⟨k, q, vM, hq, hk, rfl, rfl, hM, hX, hS, hO, hB, hsr⟩ := hrel
    clear HM5 HX5 HS5 HB5 hs5
    have HQ := Lib.hid hq
    have HM := Lib.hid hM
    have HX := Lib.hid hX
    have HS := Lib.hid hS
    have HO := Lib.hid hO
    have HB := Lib.hid hB
    obtain ⟨A3, c3, rfl, -⟩ := hM.cap
    obtain ⟨A4, c4, rfl, -⟩ := hO.cap
    have hl := wMs_len code k
    have hl2 := wWant_len code k
    clear hM hX hS hO hB
    have x1 : wr.cell? ⟨w.heap.size + 1, 1, none⟩ = some (.slice A3 (wMs code k).length c3) := HX.out.cell (j := 1) (by omega)
    have f1 := HX.out.free 1
    by_cases hlt : q < n + 1
    · have hqn : decide ((q : Int) ≤ (n : Int)) = true := by simp; omega
      clear hq
      go_wp2_with fail
      refine (wByte_calls _ code q _ (HT.out.later HB.out) (by omega)).mono ?_; rintro e w1 ⟨rfl, rfl⟩
      obtain ⟨v, hv⟩ : ∃ v, wv code q = v := ⟨_, rfl⟩
      have ev : ((wb code q : Nat) : Int) % 3 = (v : Int) := by rw [← hv]; unfold wv; omega
      have hv3 : v < 3 := by rw [← hv]; exact Nat.mod_lt _ (by omega)
      have hxq := H256.out q
      generalize wb code q = xq at ev hxq ⊢
      obtain ⟨lst, hlst⟩ : ∃ l, wLast code k = l := ⟨_, rfl⟩
      rw [hlst]
      have HV := Lib.hid hv
      have HLST := Lib.hid hlst
      clear hv hlst
      go_upto_if 37 with fail
      generalize (xq : Int) % 3 = y at ev ⊢
      subst ev
      obtain ⟨W1, hW1⟩ : ∃ l, wW1 code (wWant code k) k (wMs code k).length = l := ⟨_, rfl⟩
      have hvv : wv code (k + 1) = v := by rw [← HQ.out]; exact HV.out
      have hw1 : W1 = if (v : Int) = lst then wWant code k else wWant code k ++ [((wMs code k).length : Int)] := by rw [← hW1, ← hvv, ← HLST.out]; rfl
      have HW1 := Lib.hid hW1
      have hlW : W1.length ≤ 121 := by
        rw [hw1]
        split
        · omega
        · rw [List.length_append]; simp; omega
      clear hvv hW1
      obtain ⟨ms, hms⟩ : ∃ l, wMs code k = l := ⟨_, rfl⟩
      obtain ⟨Wk, hWk⟩ : ∃ l, wWant code k = l := ⟨_, rfl⟩
      rw [hms] at hw1 HM HX hl x1
      rw [hWk] at hw1 HO hl2 ⊢
      have HW2 := Lib.hid hw1
      have HMS := Lib.hid hms
      have HWK := Lib.hid hWk
      clear hms hWk hw1
      go_cut [5] (fun s5 wx => OwR wx (w.heap.size + 2) 3 1 W1.length (intC W1) s5 ∧ Mv [3] (w.heap.size + 2) wr wx)
      case first =>
        by_cases hvl : (v : Int) = lst
        · have hd37 : ((v : Int) != lst) = false := by simp [hvl]
          have hR : W1 = Wk := by rw [HW2.out, if_pos hvl]
          have HR := Lib.hid hR
          clear hvl hR
          go_wp2_with fail
          go_meet
          rw [HR.out]
          exact ⟨HO.out, Mv.refl _ _ _⟩
        · have hd37 : ((v : Int) != lst) = true := by simp [hvl]
          have hR : W1 = Wk ++ [(ms.length : Int)] := by rw [HW2.out, if_neg hvl]
          have HR := Lib.hid hR
          clear hvl hR
          go_wp2_with (at_builtin; refine stopped ?_)
          unfold Stopped
          refine wpList_append1 _ (by rfl) _ _ 39 (by rfl) (w.heap.size + 2) 3 _ 1 8 Try.underlying39 i_int rfl (by omega) _ Wk.length _ (intC (Wk ++ [(ms.length : Int)])) (by rfl) HO.out [.int .i64 (ms.length : Int)] rfl (by simp [Value.oneCell']) (by rfl) (fun i hi j _ => (intC_old Wk _ hi j).symm) ?hN hsr (by omega) (by omega) ?_
          case hN =>
            intro j hj
            obtain rfl : j = 0 := by omega
            rw [intC_last]; rfl
          intro ga cap w6 hO6 hG6 _ _
          have hm : Mv [3] (w.heap.size + 2) wr w6 := (Mv.refl _ _ _).grown hsr hG6 (fun b hb => by obtain ⟨N, F, hBk⟩ := HO.out.block hb; exact ⟨(HO.out.lt b hb).1, _, N, F, hBk, by decide⟩)
          have HM6 := Lib.hid hm
          have HO6 := Lib.hid hO6
          clear hm hO6 hG6
          go_wp2_with fail
          go_meet
          rw [HR.out, List.length_append]
          exact ⟨HO6.out, HM6.out⟩
      case rest =>
        obtain ⟨hO5, hm5⟩ := hcut
        have hs5 := hm5.size
        have HM5 := Lib.hid (HM.out.mv hm5 (by decide) (by decide))
        have HX5 := Lib.hid (HX.out.mv hm5 (by decide))
        have HS5 := Lib.hid (HS.out.mv hm5 (by decide))
        have HB5 := Lib.hid (bl_trans9 HB.out (bl_low9 hm5.bl (by omega)))
        have HO5 := Lib.hid hO5
        obtain ⟨A5, c5, rfl, -⟩ := hO5.cap
        have hsr5 : w.heap.size + 2 ≤ wc.heap.size := by omega
        clear hO5 hm5 x1 f1 HM HX HS HB HO HW2 hs5
        go_upto_region 15 with fail
        have x1 : wc.drew.cell? ⟨w.heap.size + 1, 1, none⟩ = some (.slice A3 ms.length c3) := HX5.out.cell (j := 1) (by omega)
        have HS0 := Lib.hid x1
        clear x1
        refine wp_region_F 11 (fun w' : World => w'.cell? ⟨w.heap.size + 1, 1, none⟩ = some (.slice A3 ms.length c3)) (by kernel_rfl) ?_
        refine wpAnyF_take 0 (v := ?v0W) (by rfl) (by kernel_rfl) (by intro _ _ _ h; exact h) HS0.out (by rfl) ?hy0W ?rest0W
        case hy0W =>
          intro w' hSw
          have s0 : w'.cell? ⟨w.heap.size + 1, 1, none⟩ = some (.slice A3 ms.length c3) := hSw
          go_simp
          try with_reducible rfl
        simp only [Act.put, List.setIfInBounds_toArray]
        refine wpAnyF_take 1 (v := ?v1W) (by rfl) (by kernel_rfl) (by intro _ _ _ h; exact h) HS0.out (by rfl) ?hy1W ?rest1W
        case hy1W =>
          intro w' hSw
          have s0 : w'.cell? ⟨w.heap.size + 1, 1, none⟩ = some (.slice A3 ms.length c3) := hSw
          go_simp
          try with_reducible rfl
        simp only [Act.put]
        refine wpAnyF_take 2 (v := ?v2W) (by rfl) (by kernel_rfl) (by intro _ _ _ h; exact h) HS0.out (by rfl) ?hy2W ?rest2W
        case hy2W =>
          intro w' hSw
          have s0 : w'.cell? ⟨w.heap.size + 1, 1, none⟩ = some (.slice A3 ms.length c3) := hSw
          go_simp
          try with_reducible rfl
        simp only [Act.put]
        refine wpAnyF_take 3 (v := ?v3W) (by rfl) (by kernel_rfl) (by intro _ _ _ h; exact h) HS0.out (by rfl) ?hy3W ?rest3W
        case hy3W =>
          intro w' hSw
          have s0 : w'.cell? ⟨w.heap.size + 1, 1, none⟩ = some (.slice A3 ms.length c3) := hSw
          go_simp
          try with_reducible rfl
        simp only [Act.put]
        refine wpAnyF_one 4 (by rfl) (by kernel_rfl) rfl ?_
        intro K hK
        go_simp
        refine (wDigit_calls v _ (by omega)).mono ?_; rintro e w6 ⟨rfl, hb6⟩
        dsimp only
        have hx6 : w6.cell? ⟨w.heap.size + 1, 1, none⟩ = some (.slice A3 ms.length c3) := (HX5.out.later (bl_then (bl_drew (Below.refl _ _)) hb6)).cell (j := 1) (by omega)
        have HX6 := Lib.hid hx6
        have HB6 := Lib.hid (bl_then (bl_drew (Below.refl _ wc)) hb6)
        clear hx6 hb6
        refine hK.out _ _ (fun _ => HX6.out) ?_
        clear hK K
        refine wpAnyF_one 5 (by rfl) (by kernel_rfl) rfl ?_
        intro K hK
        go_simp
        refine hK.out _ _ (fun _ => HX6.out) ?_
        clear hK K
        refine wpAnyF_one 6 (by rfl) (by kernel_rfl) rfl ?_
        intro K hK
        go_simp
        refine hK.out _ _ (fun _ => cell_later (bl_alloc (Below.refl _ _) _) HX6.out) ?_
        clear hK K
        have hV7 : OwR (w6.alloc (.cells #[.string xNm, .string (dg v)] 42)) (w.heap.size + 2) 42 2 (wLn q v).vars.length (varC (wLn q v).vars) (.slice (some ⟨w6.heap.size, 0, none⟩) 1 1) := by
          refine .inr ⟨w6.heap.size, 1, _, rfl, by have := HB6.out.size; omega, by simp [wLn], by simp [maxLen], Blk.made w6 #[.string xNm, .string (dg v)] 42, fun i hi j hj => ?_⟩
          obtain rfl : i = 0 := by simp [wLn] at hi; omega
          match j, hj with
          | 0, _ => rfl
          | 1, _ => rfl
        have HV7 := Lib.hid hV7
        have HB7 := Lib.hid (bl_alloc HB6.out (.cells #[.string xNm, .string (dg v)] 42))
        have HX7 := Lib.hid (cell_later (bl_alloc (Below.refl _ _) (.cells #[.string xNm, .string (dg v)] 42)) HX6.out)
        clear hV7
        change wpAnyF Try.prog _ _ _ _ _ _ _ _ (w6.alloc (.cells #[.string xNm, .string (dg v)] 42))
        generalize hw7 : w6.alloc (.cells #[.string xNm, .string (dg v)] 42) = w7 at HV7 HB7 HX7 ⊢
        clear hw7
        refine wpAnyF_one 7 (by rfl) (by kernel_rfl) rfl ?_
        intro K hK
        go_simp
        refine hK.out _ _ (fun _ => HX7.out) ?_
        clear hK K
        refine wpAnyF_one 8 (by rfl) (by kernel_rfl) rfl ?_
        intro K hK
        go_simp
        refine hK.out _ _ (fun _ => cell_later (bl_alloc (Below.refl _ _) _) HX7.out) ?_
        clear hK K
        refine wpAnyF_one 9 (by rfl) (by kernel_rfl) rfl ?_
        intro K hK
        have hs7 := HB7.out.size
        refine wp_appendM _ _ _ (by rfl) (w.heap.size + 2) _ ms (wLn q v) (.slice (some ⟨w6.heap.size, 0, none⟩) 1 1) (by rfl) ((HM5.out.later HB7.out).later (bl_alloc (Below.refl _ _) _)) (HV7.out.later (bl_alloc (Below.refl _ _) _)) w7.heap.size 1 (new_at w7 (momV (wLn q v) (.slice (some ⟨w6.heap.size, 0, none⟩) 1 1)) 38) (by rfl) (by simp; omega) (by omega) ?_
        intro gb capb w9 hM9 hm9 hs9
        have hl9 : (ms ++ [wLn q v]).length = ms.length + 1 := by simp
        obtain ⟨ms9, hms9⟩ : ∃ l, ms ++ [wLn q v] = l := ⟨_, rfl⟩
        rw [hms9] at hM9 hl9 ⊢
        have HL9 := Lib.hid hl9
        clear hl9
        have hm79 : Mv [38] (w.heap.size + 2) w7 w9 := ((Mv.refl _ _ _).alloc (by omega) _).trans hm9
        have HX9 := Lib.hid ((HX5.out.later HB7.out).mv hm79 (by decide))
        have HS9 := Lib.hid ((HS5.out.later HB7.out).mv hm79 (by decide))
        have HO9 := Lib.hid ((HO5.out.later HB7.out).mv hm79 (by decide))
        have HB9 := Lib.hid (bl_trans9 (bl_then HB5.out HB7.out) (bl_low9 hm79.bl (by omega)))
        have HM9 := Lib.hid hM9
        have HMS9 := Lib.hid hms9
        have hsr9 : w.heap.size + 2 ≤ w9.heap.size := by simp at hs9; omega
        have hx9 : w9.cell? ⟨w.heap.size + 1, 1, none⟩ = some (.slice A3 ms.length c3) := HX9.out.cell (j := 1) (by omega)
        have HXC := Lib.hid hx9
        clear hM9 hms9 hm79 hm9 hs9 hs7 hx9 HX7 HX6 HB6 HB7 HV7 HM5 HX5 HS5 HO5 HB5
        refine hK.out _ _ (fun _ => HXC.out) ?_
        clear hK K
        simp only [Act.put, List.setIfInBounds_toArray]
        refine wpAnyF_one 10 (by rfl) (by kernel_rfl) rfl ?_
        intro K hK
        go_simp
        refine hK.out _ _ (fun _ => HXC.out) ?_
        clear hK K
        refine wpAnyF_one 11 (by rfl) (by kernel_rfl) rfl ?_
        intro K hK
        have x1 := HXC.out
        have f1 := HX9.out.free 1
        go_simp
        refine hK.out _ _ (fun h => absurd rfl h) ?_
        clear hK K x1 f1
        refine wpAnyF_done (by kernel_rfl) ?_ _
        have hX := trF_set HX9.out (.slice (some ⟨gb, 0, none⟩) ms9.length capb)
        have hM := hM_far (lo2 := 0) HM9.out HX9.out (.slice (some ⟨gb, 0, none⟩) ms9.length capb) (by omega)
        have hS := HS9.out.far (p := ⟨w.heap.size + 1, 1, none⟩) (by dsimp only; omega) (.slice (some ⟨gb, 0, none⟩) ms9.length capb)
        have hO := HO9.out.other HX9.out (by decide) 1 (.slice (some ⟨gb, 0, none⟩) ms9.length capb)
        have hB := bl_set HB9.out (p := ⟨w.heap.size + 1, 1, none⟩) (by dsimp only; omega) (.slice (some ⟨gb, 0, none⟩) ms9.length capb)
        have hsz : w.heap.size + 2 ≤ (w9.setCell ⟨w.heap.size + 1, 1, none⟩ (.slice (some ⟨gb, 0, none⟩) ms9.length capb)).heap.size := by rw [World.size_setCell]; omega
        have HM := Lib.hid hM
        have HX := Lib.hid hX
        have HS := Lib.hid hS
        have HO := Lib.hid hO
        have HB := Lib.hid hB
        clear hM hX hS hO hB HM9 HX9 HS9 HO9 HB9 HXC hsr9
        generalize w9.setCell ⟨w.heap.size + 1, 1, none⟩ (.slice (some ⟨gb, 0, none⟩) ms9.length capb) = w10 at HM HX HS HO HB hsz ⊢
        go_wp2_with fail
        refine (wByte_succ _ code q _ (HT.out.later HB.out) (by omega)).mono ?_; rintro e w11 ⟨rfl, rfl⟩
        obtain ⟨xa, hxa⟩ : ∃ x, wb code (q + 1) = x := ⟨_, rfl⟩
        have hxb : xa < 256 := by rw [← hxa]; exact H256.out _
        have hask : wAsk code k = decide (xa % 4 = 0) := by unfold wAsk; rw [← hxa, HQ.out]
        rw [hxa]
        have hms9 : wMs code k ++ [wLn (k + 1) (wv code (k + 1))] = ms9 := by rw [HMS.out, ← HQ.out, HV.out]; exact HMS9.out
        have HM9 := Lib.hid hms9
        have HL10 : Hid (wLast code (k + 1) = (v : Int)) := Lib.hid (by show ((wv code (k + 1) : Nat) : Int) = _; rw [← HQ.out, HV.out])
        clear hxa hms9
        by_cases h4 : xa % 4 = 0
        · have hd4 : (((xa : Int) % 4) == 0) = true := by simp; omega
          have hd5 : decide ((xa : Int) % 4 = 0) = true := by simp; omega
          have hA : wAsk code k = true := by rw [hask]; simp [h4]
          have HMN : Hid (wMs code (k + 1) = ms9 ++ [cM] ++ [wIn v] ++ [bM]) := Lib.hid (by
            show (if _ then _ else _) = _
            rw [if_pos hA, HM9.out, ← HQ.out, HV.out])
          have HWN : Hid (wWant code (k + 1) = W1 ++ [((ms.length + 2 : Nat) : Int)]) := Lib.hid (by
            show (if _ then _ else _) = _
            rw [if_pos hA, HW1.out, HMS.out])
          clear hA hask h4
          have x1 : w10.cell? ⟨w.heap.size + 1, 1, none⟩ = some (.slice (some ⟨gb, 0, none⟩) ms9.length capb) := HX.out.cell (j := 1) (by omega)
          have f1 := HX.out.free 1
          have hl9 : ms9.length ≤ 1048576 := by have := HL9.out; omega
          go_wp2_with (at_builtin; refine stopped ?_)
          unfold Stopped
          refine wpList_appendM _ (by rfl) _ _ (by rfl) (w.heap.size + 2) _ ms9 cM (.slice none 0 0) (by rfl) HM.out OwR.nil _ (by rfl) (by rfl) hsz hl9 ?_
          intro gc capc w12 hM12 hm12 hs12
          have hlc : (ms9 ++ [cM]).length = ms.length + 2 := by rw [List.length_append, HL9.out]; rfl
          obtain ⟨msc, hmsc⟩ : ∃ l, ms9 ++ [cM] = l := ⟨_, rfl⟩
          rw [hmsc] at hM12 hlc HMN ⊢
          have HLC := Lib.hid hlc
          replace HX := Lib.hid (HX.out.mv hm12 (by decide))
          replace HS := Lib.hid (HS.out.mv hm12 (by decide))
          replace HO := Lib.hid (HO.out.mv hm12 (by decide))
          replace HB := Lib.hid (bl_trans9 HB.out (bl_low9 hm12.bl (by omega)))
          replace HM := Lib.hid hM12
          have hsz12 : w.heap.size + 2 ≤ w12.heap.size := by omega
          clear hM12 hm12 hs12 hlc hmsc x1 f1 hsz
          have x1 : w12.cell? ⟨w.heap.size + 1, 1, none⟩ = some (.slice (some ⟨gb, 0, none⟩) ms9.length capb) := HX.out.cell (j := 1) (by omega)
          have f1 := HX.out.free 1
          go_wp2_with (at_builtin; refine stopped ?_)
          unfold Stopped
          have hX := trF_set HX.out (.slice (some ⟨gc, 0, none⟩) msc.length capc)
          have hM := hM_far (lo2 := 0) HM.out HX.out (.slice (some ⟨gc, 0, none⟩) msc.length capc) (by omega)
          have hS := HS.out.far (p := ⟨w.heap.size + 1, 1, none⟩) (by dsimp only; omega) (.slice (some ⟨gc, 0, none⟩) msc.length capc)
          have hO := HO.out.other HX.out (by decide) 1 (.slice (some ⟨gc, 0, none⟩) msc.length capc)
          have hB := bl_set HB.out (p := ⟨w.heap.size + 1, 1, none⟩) (by dsimp only; omega) (.slice (some ⟨gc, 0, none⟩) msc.length capc)
          have hsz : w.heap.size + 2 ≤ (w12.setCell ⟨w.heap.size + 1, 1, none⟩ (.slice (some ⟨gc, 0, none⟩) msc.length capc)).heap.size := by rw [World.size_setCell]; omega
          replace HM := Lib.hid hM
          replace HX := Lib.hid hX
          replace HS := Lib.hid hS
          replace HO := Lib.hid hO
          replace HB := Lib.hid hB
          clear hM hX hS hO hB x1 f1 hsz12
          have HSZ13 := Lib.hid (World.size_setCell w12 ⟨w.heap.size + 1, 1, none⟩ (.slice (some ⟨gc, 0, none⟩) msc.length capc))
          generalize w12.setCell ⟨w.heap.size + 1, 1, none⟩ (.slice (some ⟨gc, 0, none⟩) msc.length capc) = w13 at HM HX HS HO HB hsz HSZ13 ⊢
          refine wpList_append1 w13 (by rfl) _ _ 39 (by rfl) (w.heap.size + 2) 3 _ 1 8 Try.underlying39 i_int rfl (by omega) _ W1.length _ (intC (W1 ++ [(msc.length : Int)])) (by rfl) HO.out [.int .i64 (msc.length : Int)] rfl (by simp [Value.oneCell']) (by rw [HSZ13.out]; rfl) (fun i hi j _ => (intC_old W1 _ hi j).symm) ?hN2 hsz (by omega) (by omega) ?_
          case hN2 =>
            intro j hj
            obtain rfl : j = 0 := by omega
            rw [intC_last]; rfl
          intro gd capd w14 hO14 hG14 _ _
          have hm : Mv [3] (w.heap.size + 2) w13 w14 := (Mv.refl _ _ _).grown hsz hG14 (fun b hb => by obtain ⟨N, F, hBk⟩ := HO.out.block hb; exact ⟨(HO.out.lt b hb).1, _, N, F, hBk, by decide⟩)
          have hs14 := hm.size
          obtain ⟨W2, hW2⟩ : ∃ l, W1 ++ [(msc.length : Int)] = l := ⟨_, rfl⟩
          have hl2' : (W1 ++ [(msc.length : Int)]).length = W1.length + 1 := by simp
          rw [← hl2', hW2] at hO14
          have HWN2 : Hid (wWant code (k + 1) = W2) := Lib.hid (by rw [HWN.out, ← hW2, HLC.out])
          have hW2l : W1.length + 1 = W2.length := by rw [← hW2]; simp
          rw [hW2l]
          have HX5 := Lib.hid (HX.out.mv hm (by decide))
          have HS5 := Lib.hid (HS.out.mv hm (by decide))
          have HB5 := Lib.hid (bl_trans9 HB.out (bl_low9 hm.bl (by omega)))
          have HM5 := Lib.hid (HM.out.mv hm (by decide) (by decide))
          have HO5 := Lib.hid hO14
          have hsz14 : w.heap.size + 2 ≤ w14.heap.size := by omega
          clear hm hO14 hG14 hs14 hW2 hl2' hW2l HX HS HB HM HO
          go_upto_region 19 with fail
          have x1 : w14.drew.cell? ⟨w.heap.size + 1, 1, none⟩ = some (.slice (some ⟨gc, 0, none⟩) msc.length capc) := HX5.out.cell (j := 1) (by omega)
          have HSB := Lib.hid x1
          clear x1
          refine wp_region_F 13 (fun w' : World => w'.cell? ⟨w.heap.size + 1, 1, none⟩ = some (.slice (some ⟨gc, 0, none⟩) msc.length capc)) (by kernel_rfl) ?_
          refine wpAnyF_take 0 (v := ?v0Z) (by rfl) (by kernel_rfl) (by intro _ _ _ h; exact h) HSB.out (by rfl) ?hy0Z ?rest0Z
          case hy0Z =>
            intro w' hSw
            have s0 : w'.cell? ⟨w.heap.size + 1, 1, none⟩ = some (.slice (some ⟨gc, 0, none⟩) msc.length capc) := hSw
            go_simp
            try with_reducible rfl
          simp only [Act.put, List.setIfInBounds_toArray]
          refine wpAnyF_take 1 (v := ?v1Z) (by rfl) (by kernel_rfl) (by intro _ _ _ h; exact h) HSB.out (by rfl) ?hy1Z ?rest1Z
          case hy1Z =>
            intro w' hSw
            have s0 : w'.cell? ⟨w.heap.size + 1, 1, none⟩ = some (.slice (some ⟨gc, 0, none⟩) msc.length capc) := hSw
            go_simp
            try with_reducible rfl
          simp only [Act.put]
          refine wpAnyF_take 2 (v := ?v2Z) (by rfl) (by kernel_rfl) (by intro _ _ _ h; exact h) HSB.out (by rfl) ?hy2Z ?rest2Z
          case hy2Z =>
            intro w' hSw
            have s0 : w'.cell? ⟨w.heap.size + 1, 1, none⟩ = some (.slice (some ⟨gc, 0, none⟩) msc.length capc) := hSw
            go_simp
            try with_reducible rfl
          simp only [Act.put]
          refine wpAnyF_take 3 (v := ?v3Z) (by rfl) (by kernel_rfl) (by intro _ _ _ h; exact h) HSB.out (by rfl) ?hy3Z ?rest3Z
          case hy3Z =>
            intro w' hSw
            have s0 : w'.cell? ⟨w.heap.size + 1, 1, none⟩ = some (.slice (some ⟨gc, 0, none⟩) msc.length capc) := hSw
            go_simp
            try with_reducible rfl
          simp only [Act.put]
          refine wpAnyF_take 4 (v := ?v4Z) (by rfl) (by kernel_rfl) (by intro _ _ _ h; exact h) HSB.out (by rfl) ?hy4Z ?rest4Z
          case hy4Z =>
            intro w' hSw
            have s0 : w'.cell? ⟨w.heap.size + 1, 1, none⟩ = some (.slice (some ⟨gc, 0, none⟩) msc.length capc) := hSw
            go_simp
            try with_reducible rfl
          simp only [Act.put]
          refine wpAnyF_take 9 (v := ?v9Z) (by rfl) (by kernel_rfl) (by intro _ _ _ h; exact h) HSB.out (by rfl) ?hy9Z ?rest9Z
          case hy9Z =>
            intro w' hSw
            have s0 : w'.cell? ⟨w.heap.size + 1, 1, none⟩ = some (.slice (some ⟨gc, 0, none⟩) msc.length capc) := hSw
            go_simp
            try with_reducible rfl
          simp only [Act.put]
          refine wpAnyF_one 5 (by rfl) (by kernel_rfl) rfl ?_
          intro K hK
          go_simp
          rw [IntWalk.i64_in ((v : Int) + 1) (by omega)]
          refine (wDigit_succ v _ (by omega)).mono ?_; rintro e w6 ⟨rfl, hb6⟩
          dsimp only
          have hx6 : w6.cell? ⟨w.heap.size + 1, 1, none⟩ = some (.slice (some ⟨gc, 0, none⟩) msc.length capc) := (HX5.out.later (bl_then (bl_drew (Below.refl _ _)) hb6)).cell (j := 1) (by omega)
          have HX6 := Lib.hid hx6
          have HB6 := Lib.hid (bl_then (bl_drew (Below.refl _ w14)) hb6)
          clear hx6 hb6
          refine hK.out _ _ (fun _ => HX6.out) ?_
          clear hK K
          refine wpAnyF_one 6 (by rfl) (by kernel_rfl) rfl ?_
          intro K hK
          go_simp
          refine hK.out _ _ (fun _ => HX6.out) ?_
          clear hK K
          refine wpAnyF_one 7 (by rfl) (by kernel_rfl) rfl ?_
          intro K hK
          go_simp
          refine hK.out _ _ (fun _ => cell_later (bl_alloc (Below.refl _ _) _) HX6.out) ?_
          clear hK K
          have hV7 : OwR (w6.alloc (.cells #[.string yNm, .string qTx, .string xNm, .string (dg (v + 1))] 42)) (w.heap.size + 2) 42 2 (wIn v).vars.length (varC (wIn v).vars) (.slice (some ⟨w6.heap.size, 0, none⟩) 2 2) := by
            refine .inr ⟨w6.heap.size, 2, _, rfl, by have := HB6.out.size; omega, by simp [wIn], by simp [maxLen], Blk.made w6 #[.string yNm, .string qTx, .string xNm, .string (dg (v + 1))] 42, fun i hi j hj => ?_⟩
            have hi2 : i < 2 := hi
            match i, hi2, j, hj with
            | 0, _, 0, _ => rfl
            | 0, _, 1, _ => rfl
            | 1, _, 0, _ => rfl
            | 1, _, 1, _ => rfl
          have HV7 := Lib.hid hV7
          have HB7 := Lib.hid (bl_alloc HB6.out (.cells #[.string yNm, .string qTx, .string xNm, .string (dg (v + 1))] 42))
          have HX7 := Lib.hid (cell_later (bl_alloc (Below.refl _ _) (.cells #[.string yNm, .string qTx, .string xNm, .string (dg (v + 1))] 42)) HX6.out)
          clear hV7
          change wpAnyF Try.prog _ _ _ _ _ _ _ _ (w6.alloc (.cells #[.string yNm, .string qTx, .string xNm, .string (dg (v + 1))] 42))
          generalize hw7 : w6.alloc (.cells #[.string yNm, .string qTx, .string xNm, .string (dg (v + 1))] 42) = w7 at HV7 HB7 HX7 ⊢
          clear hw7
          refine wpAnyF_one 8 (by rfl) (by kernel_rfl) rfl ?_
          intro K hK
          go_simp
          refine hK.out _ _ (fun _ => HX7.out) ?_
          clear hK K
          refine wpAnyF_one 10 (by rfl) (by kernel_rfl) rfl ?_
          intro K hK
          go_simp
          refine hK.out _ _ (fun _ => cell_later (bl_alloc (Below.refl _ _) _) HX7.out) ?_
          clear hK K
          refine wpAnyF_one 11 (by rfl) (by kernel_rfl) rfl ?_
          intro K hK
          have hs7 := HB7.out.size
          refine wp_appendM2 _ _ _ (by rfl) (w.heap.size + 2) _ msc (wIn v) bM (.slice (some ⟨w6.heap.size, 0, none⟩) 2 2) (.slice none 0 0) (by rfl) ((HM5.out.later HB7.out).later (bl_alloc (Below.refl _ _) _)) (HV7.out.later (bl_alloc (Below.refl _ _) _)) OwR.nil w7.heap.size 2 (new_at w7 (momV (wIn v) (.slice (some ⟨w6.heap.size, 0, none⟩) 2 2) ++ momV bM (.slice none 0 0)) 38) (by rfl) (by simp; omega) (by have := HLC.out; omega) ?_
          intro ge cape w9 hM9 hm9 hs9
          have hle : (msc ++ [wIn v] ++ [bM]).length = msc.length + 2 := by simp
          rw [← HMN.out] at hM9 hle ⊢
          obtain ⟨ms5, hms5⟩ : ∃ l, wMs code (k + 1) = l := ⟨_, rfl⟩
          rw [hms5] at hM9 ⊢
          have HMS5 := Lib.hid hms5
          have hm79 : Mv [38] (w.heap.size + 2) w7 w9 := ((Mv.refl _ _ _).alloc (by omega) _).trans hm9
          have HX9 := Lib.hid ((HX5.out.later HB7.out).mv hm79 (by decide))
          have HS9 := Lib.hid ((HS5.out.later HB7.out).mv hm79 (by decide))
          have HO9 := Lib.hid ((HO5.out.later HB7.out).mv hm79 (by decide))
          have HB9 := Lib.hid (bl_trans9 (bl_then HB5.out HB7.out) (bl_low9 hm79.bl (by omega)))
          have HM9' := Lib.hid hM9
          have hsr9 : w.heap.size + 2 ≤ w9.heap.size := by simp at hs9; omega
          have hx9 : w9.cell? ⟨w.heap.size + 1, 1, none⟩ = some (.slice (some ⟨gc, 0, none⟩) msc.length capc) := HX9.out.cell (j := 1) (by omega)
          have HXC := Lib.hid hx9
          clear hM9 hms5 hle hm79 hm9 hs9 hs7 hx9 HX7 HX6 HB6 HB7 HV7 HM5 HX5 HS5 HO5 HB5
          refine hK.out _ _ (fun _ => HXC.out) ?_
          clear hK K
          simp only [Act.put, List.setIfInBounds_toArray]
          refine wpAnyF_one 12 (by rfl) (by kernel_rfl) rfl ?_
          intro K hK
          go_simp
          refine hK.out _ _ (fun _ => HXC.out) ?_
          clear hK K
          refine wpAnyF_one 13 (by rfl) (by kernel_rfl) rfl ?_
          intro K hK
          have x1 := HXC.out
          have f1 := HX9.out.free 1
          go_simp
          refine hK.out _ _ (fun h => absurd rfl h) ?_
          clear hK K x1 f1
          refine wpAnyF_done (by kernel_rfl) ?_ _
          have hX := trF_set HX9.out (.slice (some ⟨ge, 0, none⟩) ms5.length cape)
          have hM := hM_far (lo2 := 0) HM9'.out HX9.out (.slice (some ⟨ge, 0, none⟩) ms5.length cape) (by omega)
          have hS := HS9.out.far (p := ⟨w.heap.size + 1, 1, none⟩) (by dsimp only; omega) (.slice (some ⟨ge, 0, none⟩) ms5.length cape)
          have hO := HO9.out.other HX9.out (by decide) 1 (.slice (some ⟨ge, 0, none⟩) ms5.length cape)
          have hB := bl_set HB9.out (p := ⟨w.heap.size + 1, 1, none⟩) (by dsimp only; omega) (.slice (some ⟨ge, 0, none⟩) ms5.length cape)
          have hsz2 : w.heap.size + 2 ≤ (w9.setCell ⟨w.heap.size + 1, 1, none⟩ (.slice (some ⟨ge, 0, none⟩) ms5.length cape)).heap.size := by rw [World.size_setCell]; omega
          have HM := Lib.hid hM
          have HX := Lib.hid hX
          have HS := Lib.hid hS
          have HO := Lib.hid hO
          have HB := Lib.hid hB
          clear hM hX hS hO hB HM9' HX9 HS9 HO9 HB9 HXC hsr9
          generalize w9.setCell ⟨w.heap.size + 1, 1, none⟩ (.slice (some ⟨ge, 0, none⟩) ms5.length cape) = w15 at HM HX HS HO HB hsz2 ⊢
          go_wp2
          go_roundw
          case rel => exact ⟨k + 1, q + 1, _, by have := HQ.out; omega, by have := HQ.out; omega, by go_num, by rw [HL10.out], by rw [HMS5.out]; exact HM.out, HX.out, HS.out, by rw [HWN2.out]; exact HO.out, HB.out, hsz2⟩
          case measure => simp [intOf]; omega
        · have hd4 : (((xa : Int) % 4) == 0) = false := by simp; omega
          have hd5 : decide ((xa : Int) % 4 = 0) = false := by simp; omega
          have hA : ¬ wAsk code k = true := by rw [hask]; simp [h4]
          have HMN : Hid (wMs code (k + 1) = ms9) := Lib.hid (by
            show (if _ then _ else _) = _
            rw [if_neg hA, HM9.out])
          have HWN : Hid (wWant code (k + 1) = W1) := Lib.hid (by
            show (if _ then _ else _) = _
            rw [if_neg hA, HW1.out])
          clear hA hask h4
          go_wp2
          go_roundw
          case rel => exact ⟨k + 1, q + 1, _, by have := HQ.out; omega, by have := HQ.out; omega, by go_num, by rw [HL10.out], by rw [HMN.out]; exact HM.out, HX.out, HS.out, by rw [HWN.out]; exact HO.out, HB.out, hsz⟩
          case measure => simp [intOf]; omega
    · obtain rfl : n = k := by omega
      have hqn : decide ((q : Int) ≤ (n : Int)) = false := by simp; omega
      have hwh := watch_hits code n1
      obtain ⟨t, ht⟩ : ∃ t, watT code n = t := ⟨_, rfl⟩
      have hmt : wMs code n = t.moms := by rw [← ht]; rfl
      have hfl : t.fns = [⟨#[109, 97, 105, 110]⟩, ⟨#[102]⟩] := by rw [← ht]; rfl
      have hso : Sound t := by rw [← ht]; exact watch_sound code n1
      rw [ht] at hwh
      rw [hmt] at HM HX x1
      have hrt : RdTr wr (.slice (some ⟨w.heap.size, 0, none⟩) 2 2) (.slice A3 t.moms.length c3) t := by
        refine ⟨?_, HM.out.rd⟩
        unfold RdStrs
        rw [hfl]
        refine RdSl.congr ((HS.out.rd (n := 2) (sz := 1) (c := 2) (by simp) (by omega))) fun i hi j hj => ?_
        obtain rfl : j = 0 := by omega
        match i, hi with
        | 0, _ => rfl
        | 1, _ => rfl
      have HRT := Lib.hid hrt
      have HSM := Lib.hid (sm_sound hso)
      have HWH := Lib.hid hwh
      have x0 : wr.cell? ⟨w.heap.size + 1, 0, none⟩ = some (.slice (some ⟨w.heap.size, 0, none⟩) 2 2) := HX.out.cell (j := 0) (by omega)
      clear hq hwh ht hmt hfl hso hrt
      go_wp2_with fail
      clear x0 x1 f1
      refine (impl_Hits_calls _ _ t wS _ HRT.out HSM.out).mono ?_; rintro e w1 ⟨u1, rfl, hO1, hb⟩
      rw [HWH.out] at hO1
      have hO0 := HO.out.later hb
      obtain ⟨Wn, hWn⟩ : ∃ l, wWant code n = l := ⟨_, rfl⟩
      rw [hWn] at hO1 hO0 hl2 ⊢
      obtain ⟨A6, c6, rfl, -⟩ := hO1.cap
      have HO1 := Lib.hid hO1
      have HO0 := Lib.hid hO0
      have HB1 := Lib.hid (bl_then HB.out hb)
      clear hO1 hO0 hb hWn
      have hd7 : ((Wn.length : Int) != (Wn.length : Int)) = false := by simp
      go_wp2_with fail
      go_loopw [97] (fun i wx => ∃ (j : Nat), j ≤ Wn.length ∧ i = .int .i64 j ∧ Below w1.heap.size w1 wx) (fun i _ => Wn.length - (intOf i).toNat)
      case atStart => exact ⟨0, Nat.zero_le _, rfl, Below.refl _ _⟩
      case round =>
        obtain ⟨j, hj, rfl, hbx⟩ := hrel
        by_cases hlt2 : j < Wn.length
        · obtain ⟨b6, rfl, hc6⟩ : ∃ b6, A6 = some ⟨b6, 0, none⟩ ∧ ∀ i, i < Wn.length → wr.cell? ⟨b6, i, none⟩ = some (.int .i64 (elt Wn i)) := by
            obtain ⟨A7, c7, e7, hop⟩ := (HO1.out.later hbx).open'
            obtain ⟨b7, e8, -, -, hc, -⟩ := hop (by omega)
            cases e7
            exact ⟨b7, e8, fun i hi => by have := hc i hi 0 (by omega); rw [Nat.mul_one, Nat.add_zero] at this; exact this⟩
          obtain ⟨b4, rfl, hc4⟩ : ∃ b6, A4 = some ⟨b6, 0, none⟩ ∧ ∀ i, i < Wn.length → wr.cell? ⟨b6, i, none⟩ = some (.int .i64 (elt Wn i)) := by
            obtain ⟨A7, c7, e7, hop⟩ := (HO0.out.later hbx).open'
            obtain ⟨b7, e8, -, -, hc, -⟩ := hop (by omega)
            cases e7
            exact ⟨b7, e8, fun i hi => by have := hc i hi 0 (by omega); rw [Nat.mul_one, Nat.add_zero] at this; exact this⟩
          have z0 := hc6 j hlt2
          have z1 := hc4 j hlt2
          have HBX := Lib.hid hbx
          have hlt3 : (j : Int) < (Wn.length : Int) := by omega
          clear hc6 hc4 hbx
          go_wp2_with fail
          go_quiet (fail)
          go_wp2
          go_roundw
          case rel => exact ⟨j + 1, by omega, by go_num, bl_drewN HBX.out _⟩
          case measure => simp [intOf]; omega
        · have HBX := Lib.hid hbx
          clear hbx
          go_wp2
          go_ret
          exact ⟨rfl, bl_then HB1.out HBX.out⟩

set_option maxRecDepth 100000 in
theorem watch_walk (H : Type) (enc : TypeId × Value → H) (W : World) (base : Nat) (args : Array Value) (ds : List (DataW H)) (ps : List MemPlace)
    (hval : ∀ (j : Nat) t v, Try.f5.params[j]? = some t → args[j]? = some v → Value.okWide Try.prog W .any base t v)
    (h : DataW.TrodAll enc Try.prog W 0 (fun _ => true) true Try.f5.params.toList args.toList ds ps) :
    Calls Try.prog 5 args W fun e W' => e = .returned (.bool true) ∧ Below W.heap.size W W' := by
  rw [Try.params5] at h hval
  obtain ⟨v0, d0, ha, _, h0⟩ := trodAll_one h
  have ha' : args = #[v0] := by simpa using ha
  subst ha'
  obtain ⟨code, hr⟩ := rd_bytes (hval 0 _ _ rfl rfl) h0
  exact watch_law v0 code W hr
end Go.Proofs.Ytcklnjjbhngbcaa
