/- The reference's choices: some variables. (Written by G2.py from G2.in.) -/
import Derived.Test.YtcklnjjbhngbcaaGreatDoorG1
import Derived.Test.YtcklnjjbhngbcaaGreatDoorB9
import Derived.Test.YtcklnjjbhngbcaaGreatDoorB11
import Derived.Laws.BytesArg
import Derived.Deep.DeepCutAuto
import Derived.Deep.CutBlock
namespace Go.Proofs.YtcklnjjbhngbcaaGreatDoor
open Go.RowKit Go.Proofs.Lens

theorem chr_nums {k : Int} (n : Nat) (h : k = (n : Int)) : strOfNums [k] = chr1 n := by
  subst h
  unfold strOfNums chr1
  simp
theorem conv_byte (w : World) (b : Nat) (y : Int) (h : w.cell? ⟨b, 0, none⟩ = some (.int .u8 y)) : (convert 22 9 (.slice (some ⟨b, 0, none⟩) 1 1)).run Tryz.prog w = .ok (.string (strOfNums [y])) w :=
  run_convert_bytes_arg _ 22 5 Tryz.underlying22 Tryz.underlying5 _ 0 1 1 [y] rfl (fun i hi => by
    obtain rfl : i = 0 := by omega
    exact h) 9 Tryz.underlying9
/-- A list that is new grows. -/
theorem mv_grownNew {ts : List TypeId} {lo : Nat} {w W W' : World} (h : Mv ts lo w W) (hl : lo ≤ w.heap.size) {r : Option Nat} (hg : W.grownBy W' r) (hr : ∀ b, r = some b → w.heap.size ≤ b) : Mv ts lo w W' :=
  ⟨⟨hg.os.trans h.bl.os, hg.tape.trans h.bl.tape, hg.output.trans h.bl.output, Nat.le_trans h.bl.size hg.size, fun k hk => (hg.block k (Nat.lt_of_lt_of_le hk (Nat.le_trans hl h.bl.size)) (fun hh => by have := hr k hh.symm; omega)).trans (h.bl.block k hk)⟩,
    fun b o hb hn => by
      have h1 := h.kp b o hb hn
      rw [hg.block b (Array.getElem?_eq_some_iff.1 h1).1 (fun hh => by have := hr b hh.symm; have := (Array.getElem?_eq_some_iff.1 hb).1; omega)]
      exact h1⟩
theorem varC_old (r : List PVar) (x : PVar) {i : Nat} (hi : i < r.length) (j : Nat) : varC r i j = varC (r ++ [x]) i j := by
  unfold varC; rw [elt_app _ _ hi]
theorem varC_new (r : List PVar) (x : PVar) {j : Nat} (hj : j < 2) : [Value.string x.nm, .string x.tx][j]? = some (varC (r ++ [x]) r.length j) := by
  unfold varC; rw [elt_last]
  match j, hj with
  | 0, _ => rfl
  | 1, _ => rfl

/-- A byte in a block of its own. -/
def ByB (w : World) (b : Nat) (y : Int) : Prop := Blk w b 5 1 (fun _ => .int .u8 y)
theorem ByB.cell {w : World} {b : Nat} {y : Int} (h : ByB w b y) : w.cell? ⟨b, 0, none⟩ = some (.int .u8 y) := Blk.cell h (j := 0) (by omega)
theorem ByB.new (w : World) (y : Int) : ByB (w.alloc (.cells #[.int .u8 y] 5)) w.heap.size y := (Blk.made w #[.int .u8 y] 5).congr fun j hj => by
  obtain rfl : j = 0 := by simp at hj; omega
  rfl
theorem ByB.mv {ts : List TypeId} {lo : Nat} {w w' : World} {b : Nat} {y : Int} (h : ByB w b y) (hm : Mv ts lo w w') (hn : 5 ∉ ts) : ByB w' b y := Blk.mv h hm hn
theorem ByB.alloc {w : World} {b : Nat} {y : Int} (h : ByB w b y) (o : Obj) : ByB (w.alloc o) b y := Blk.alloc h o

set_option maxRecDepth 100000 in
set_option maxHeartbeats 4000000 in
theorem vars_calls (w0 : World) (g : Nat) (cv : Value) (code : List Nat) (c : Cu) (w : World) (hr : RdBytes w0 cv code) (hg : w0.heap.size ≤ g) (hb0 : Below w0.heap.size w0 w) (h : CuAt w g cv c) (hp : c.pos ≤ 1000000000000000000) :
    Calls Tryz.prog 83 #[.pointer (some ⟨g, 0, none⟩)] w fun e w' => ∃ v, e = .returned v ∧ OwR w' w.heap.size 40 2 (varsP code c).1.length (varC (varsP code c).1) v ∧ CuAt w' g cv (varsP code c).2 ∧ Mv [72] g w w' := by
  have HR := Lib.hid hr
  have HC := Lib.hid h
  have HB0 := Lib.hid hb0
  have hgw : g < w.heap.size := h.blk.lt
  have hv : varsP code c = varsN code (pickP code 4 c).2 (pickP code 4 c).1 := rfl
  have hn := pickP_lt code c (n := 4) (by omega)
  have hpa := (pick_adv code (n := 4) (by omega) c).1
  obtain ⟨n0, hn0⟩ : ∃ n0, (pickP code 4 c).1 = n0 := ⟨_, rfl⟩
  obtain ⟨c1, hc1⟩ : ∃ c1, (pickP code 4 c).2 = c1 := ⟨_, rfl⟩
  rw [hn0, hc1] at hv
  rw [hn0] at hn
  rw [hc1] at hpa
  rw [hv]
  have HN0 := Lib.hid hn0
  have HC1E := Lib.hid hc1
  clear h hr hb0 hv hn0 hc1
  go_enter Tryz.func83, Tryz.ntmps83
  go_wp2_with fail
  refine (pick_calls g cv code c 4 _ (HR.out.later HB0.out) HC.out (by omega) (by omega)).mono ?_; rintro e w1 ⟨rfl, hC, hm⟩
  rw [HN0.out]
  rw [HC1E.out] at hC
  have HC1 := Lib.hid hC
  have HM1 := Lib.hid hm
  clear hC hm HC
  go_wp2_with fail
  go_loopw [3, 4] (fun ov nv wr => ∃ i m : Nat, i + m = n0 ∧ nv = .int .i64 m ∧ OwR wr w.heap.size 40 2 (varsN code c1 i).1.length (varC (varsN code c1 i).1) ov ∧ CuAt wr g cv (varsN code c1 i).2 ∧ Mv [72] g w wr) (fun _ nv _ => (intOf nv).toNat)
  case atStart => exact ⟨0, n0, by omega, rfl, OwR.nil, HC1.out, HM1.out⟩
  case round =>
    obtain ⟨i, m, him, rfl, hO, hC, hM⟩ := hrel
    clear HC1 HM1
    have HO := Lib.hid hO
    have HC := Lib.hid hC
    have HM := Lib.hid hM
    obtain ⟨A3, c3, rfl, -⟩ := hO.cap
    have hL : (varsN code c1 i).1.length = i := varsN_len code c1 i
    have hpi := (varsN_adv code c1 i).1
    have hs : varsN code c1 (i + 1) = ((varsN code c1 i).1 ++ [drawVar (pickP code 3 (varsN code c1 i).2).1 (pickP code 3 (pickP code 3 (varsN code c1 i).2).2).1], (pickP code 3 (pickP code 3 (varsN code c1 i).2).2).2) := rfl
    obtain ⟨L, hLL⟩ : ∃ L, (varsN code c1 i).1 = L := ⟨_, rfl⟩
    obtain ⟨ci, hci⟩ : ∃ ci, (varsN code c1 i).2 = ci := ⟨_, rfl⟩
    rw [hLL] at HO hL hs ⊢
    rw [hci] at HC hpi hs
    have HQ : Hid ((varsN code c1 i).1 = L ∧ (varsN code c1 i).2 = ci) := Lib.hid ⟨hLL, hci⟩
    have HLN := Lib.hid hL
    by_cases hm0 : 0 < m
    · have hd : decide ((m : Int) > 0) = true := by simp; omega
      have hx1 := pickP_lt code ci (n := 3) (by omega)
      have hp1 := (pick_adv code (n := 3) (by omega) ci).1
      have hx2 := pickP_lt code (pickP code 3 ci).2 (n := 3) (by omega)
      have e1 : pickP code 3 ci = ((pickP code 3 ci).1, (pickP code 3 ci).2) := rfl
      obtain ⟨x1, h1⟩ : ∃ x, (pickP code 3 ci).1 = x := ⟨_, rfl⟩
      obtain ⟨cj, h2⟩ : ∃ x, (pickP code 3 ci).2 = x := ⟨_, rfl⟩
      have hcip : ci.pos ≤ 1152921504606846976 := by omega
      rw [h2] at hs hp1 hx2
      have hcj : cj.pos ≤ 1152921504606846976 := by omega
      rw [h1] at hs hx1
      obtain ⟨x2, h3⟩ : ∃ x, (pickP code 3 cj).1 = x := ⟨_, rfl⟩
      obtain ⟨ck, h4⟩ : ∃ x, (pickP code 3 cj).2 = x := ⟨_, rfl⟩
      rw [h3] at hs hx2
      rw [h4] at hs
      have HS := Lib.hid hs
      have H12 : Hid ((pickP code 3 ci).1 = x1 ∧ (pickP code 3 ci).2 = cj ∧ (pickP code 3 cj).1 = x2 ∧ (pickP code 3 cj).2 = ck) := Lib.hid ⟨h1, h2, h3, h4⟩
      have w1r : IntKind.i64.wrap (97 + (x1 : Int)) = 97 + (x1 : Int) := IntWalk.i64_in _ (by omega)
      have w2r : IntKind.i64.wrap (48 + (x2 : Int)) = 48 + (x2 : Int) := IntWalk.i64_in _ (by omega)
      have HW1 := Lib.hid w1r
      have HW2 := Lib.hid w2r
      clear hO hC hM hL hpi hs hLL hci e1 h1 h2 h3 h4 w1r w2r hp1
      go_upto_region 5 with fail
      refine wp_region_F 16 (fun _ : World => True) (by kernel_rfl) ?_
      refine wpAnyF_take 0 (v := ?v0A) (by rfl) (by kernel_rfl) (by intro _ _ _ h; exact h) trivial (by rfl) ?hy0A ?rest0A
      case hy0A =>
        intro w' hSw
        have s0 := id hSw
        clear hSw
        go_simp
        try with_reducible rfl
      simp only [Act.put, List.setIfInBounds_toArray]
      refine wpAnyF_take 1 (v := ?v1A) (by rfl) (by kernel_rfl) (by intro _ _ _ h; exact h) trivial (by rfl) ?hy1A ?rest1A
      case hy1A =>
        intro w' hSw
        have s0 := id hSw
        clear hSw
        go_simp
        try with_reducible rfl
      simp only [Act.put]
      refine wpAnyF_take 7 (v := ?v7A) (by rfl) (by kernel_rfl) (by intro _ _ _ h; exact h) trivial (by rfl) ?hy7A ?rest7A
      case hy7A =>
        intro w' hSw
        have s0 := id hSw
        clear hSw
        go_simp
        try with_reducible rfl
      simp only [Act.put]
      refine wpAnyF_one 2 (by rfl) (by kernel_rfl) rfl ?_
      intro K hK
      go_simp
      have hbr : Below w0.heap.size w0 wr.drew := bl_trans9 HB0.out (bl_low9 (HM.out.bl.drew) hg)
      refine (pick_calls g cv code ci 3 _ (HR.out.later hbr) (HC.out.later (bl_drew (Below.refl _ _))) hcip (by omega)).mono ?_; rintro e w2 ⟨rfl, hC2, hm2⟩
      rw [H12.out.1]
      rw [H12.out.2.1] at hC2
      have HC2 := Lib.hid hC2
      have HM2 := Lib.hid (HM.out.drew.trans hm2)
      have HM2r := Lib.hid ((Mv.refl [72] g wr).drew.trans hm2)
      clear hC2 hm2 hbr
      dsimp only
      refine hK.out _ _ (fun _ => trivial) ?_
      clear hK K
      refine wpAnyF_take 3 (v := ?v3B) (by rfl) (by kernel_rfl) (by intro _ _ _ h; exact h) trivial (by rfl) ?hy3B ?rest3B
      case hy3B =>
        intro w' hSw
        have s0 := id hSw
        clear hSw
        go_simp
        try with_reducible rfl
      simp only [Act.put, List.setIfInBounds_toArray]
      refine wpAnyF_take 4 (v := ?v4B) (by rfl) (by kernel_rfl) (by intro _ _ _ h; exact h) trivial (by rfl) ?hy4B ?rest4B
      case hy4B =>
        intro w' hSw
        have s0 := id hSw
        clear hSw
        go_simp
        try with_reducible rfl
      simp only [Act.put]
      have HU1 : Hid (IntKind.u8.wrap (97 + (x1 : Int)) = 97 + (x1 : Int)) := Lib.hid (IntWalk.u8_in _ (by omega))
      have HU2 : Hid (IntKind.u8.wrap (48 + (x2 : Int)) = 48 + (x2 : Int)) := Lib.hid (IntWalk.u8_in _ (by omega))
      have HT1 : Hid (strOfNums [97 + (x1 : Int)] = (drawVar x1 x2).nm) := Lib.hid (chr_nums (97 + x1) (by omega))
      have HT2 : Hid (strOfNums [48 + (x2 : Int)] = (drawVar x1 x2).tx) := Lib.hid (chr_nums (48 + x2) (by omega))
      rw [HW1.out, HU1.out]
      generalize hy1 : 97 + (x1 : Int) = y1 at HT1 ⊢
      clear hy1
      refine wpAnyF_two 5 8 (by rfl) (by rfl) (by kernel_rfl) rfl rfl ?_ ?_
      intro K hK
      go_simp
      have HK1 := Lib.hid (ByB.new w2 y1)
      have HMA := Lib.hid (HM2r.out.alloc (by have := HC2.out.blk.lt; omega) (.cells #[.int .u8 y1] 5))
      have HCA := Lib.hid (HC2.out.later (bl_alloc (Below.refl _ _) (.cells #[.int .u8 y1] 5)))
      refine hK.out _ _ (fun _ => trivial) ?_
      clear hK K
      obtain ⟨b1, hb1⟩ : ∃ b, w2.heap.size = b := ⟨_, rfl⟩
      rw [hb1] at HK1 ⊢
      clear hb1
      generalize w2.alloc (.cells #[.int .u8 y1] 5) = wA at HK1 HMA HCA ⊢
      refine wpAnyF_mono (S' := fun w' => ByB w' b1 y1) (fun _ _ => trivial) _ ?_
      refine wpAnyF_take 6 (v := ?v6LA) (by rfl) (by kernel_rfl) (by intro _ _ _ h; exact h) HK1.out (by rfl) ?hy6LA ?rest6LA
      case hy6LA =>
        intro w' hSw
        have cb := conv_byte w' _ _ (ByB.cell hSw)
        clear hSw
        go_simp
        try with_reducible rfl
      simp only [Act.put, List.setIfInBounds_toArray]
      refine wpAnyF_one 8 (by rfl) (by kernel_rfl) rfl ?_
      intro K hK
      go_simp
      have hbr : Below w0.heap.size w0 wA := bl_trans9 HB0.out (bl_low9 (HM.out.trans HMA.out).bl hg)
      refine (pick_calls g cv code cj 3 _ (HR.out.later hbr) HCA.out hcj (by omega)).mono ?_; rintro e w3 ⟨rfl, hC3, hm3⟩
      rw [H12.out.2.2.1]
      rw [H12.out.2.2.2] at hC3
      have HC3 := Lib.hid hC3
      have HM3 := Lib.hid (HMA.out.trans hm3)
      dsimp only
      replace HK1 := Lib.hid (HK1.out.mv hm3 (by decide))
      clear hC3 hm3 hbr HCA HMA
      refine hK.out _ _ (fun _ => HK1.out) ?_
      clear hK K
      refine wpAnyF_take 9 (v := ?v9LA) (by rfl) (by kernel_rfl) (by intro _ _ _ h; exact h) HK1.out (by rfl) ?hy9LA ?rest9LA
      case hy9LA =>
        intro w' hSw
        have s0 := id hSw
        clear hSw
        go_simp
        try with_reducible rfl
      simp only [Act.put, List.setIfInBounds_toArray]
      refine wpAnyF_take 10 (v := ?v10LA) (by rfl) (by kernel_rfl) (by intro _ _ _ h; exact h) HK1.out (by rfl) ?hy10LA ?rest10LA
      case hy10LA =>
        intro w' hSw
        have s0 := id hSw
        clear hSw
        go_simp
        try with_reducible rfl
      simp only [Act.put]
      rw [HW2.out, HU2.out]
      generalize hy2 : 48 + (x2 : Int) = y2 at HT2 ⊢
      clear hy2
      refine wpAnyF_one 11 (by rfl) (by kernel_rfl) rfl ?_
      intro K hK
      go_simp
      have HK2 := Lib.hid (ByB.new w3 y2)
      have HMF := Lib.hid (HM3.out.alloc (by have := HC3.out.blk.lt; omega) (.cells #[.int .u8 y2] 5))
      have HCF := Lib.hid (HC3.out.later (bl_alloc (Below.refl _ _) (.cells #[.int .u8 y2] 5)))
      replace HK1 := Lib.hid (HK1.out.alloc (.cells #[.int .u8 y2] 5))
      refine hK.out _ _ (fun _ => HK1.out) ?_
      clear hK K
      obtain ⟨b2, hb2⟩ : ∃ b, w3.heap.size = b := ⟨_, rfl⟩
      rw [hb2] at HK2 ⊢
      clear hb2 HC3 HM3 HC2 HM2 HM2r
      generalize w3.alloc (.cells #[.int .u8 y2] 5) = wF at HK1 HK2 HMF HCF ⊢
      refine wpAnyF_mono (S' := fun w' => ByB w' b1 y1 ∧ ByB w' b2 y2) (fun _ h => h.1) _ ?_
      have HKK := Lib.hid (And.intro HK1.out HK2.out)
      refine wpAnyF_take 12 (v := ?v12LA) (by rfl) (by kernel_rfl) (by intro _ _ _ h; exact h) HKK.out (by rfl) ?hy12LA ?rest12LA
      case hy12LA =>
        intro w' hSw
        have cb := conv_byte w' _ _ ((fun h => ByB.cell h.2) hSw)
        clear hSw
        go_simp
        try with_reducible rfl
      simp only [Act.put, List.setIfInBounds_toArray]
      rotate_left
      intro K hK
      go_simp
      have hbr : Below w0.heap.size w0 w2 := bl_trans9 HB0.out (bl_low9 (HM.out.trans HM2r.out).bl hg)
      refine (pick_calls g cv code cj 3 _ (HR.out.later hbr) HC2.out hcj (by omega)).mono ?_; rintro e w3 ⟨rfl, hC3, hm3⟩
      rw [H12.out.2.2.1]
      rw [H12.out.2.2.2] at hC3
      have HC3 := Lib.hid hC3
      have HM3 := Lib.hid (HM2r.out.trans hm3)
      dsimp only
      clear hC3 hm3 hbr HC2 HM2 HM2r
      refine hK.out _ _ (fun _ => trivial) ?_
      clear hK K
      refine wpAnyF_take 9 (v := ?v9LB) (by rfl) (by kernel_rfl) (by intro _ _ _ h; exact h) trivial (by rfl) ?hy9LB ?rest9LB
      case hy9LB =>
        intro w' hSw
        have s0 := id hSw
        clear hSw
        go_simp
        try with_reducible rfl
      simp only [Act.put, List.setIfInBounds_toArray]
      refine wpAnyF_take 10 (v := ?v10LB) (by rfl) (by kernel_rfl) (by intro _ _ _ h; exact h) trivial (by rfl) ?hy10LB ?rest10LB
      case hy10LB =>
        intro w' hSw
        have s0 := id hSw
        clear hSw
        go_simp
        try with_reducible rfl
      simp only [Act.put]
      rw [HW2.out, HU2.out]
      generalize hy2 : 48 + (x2 : Int) = y2 at HT2 ⊢
      clear hy2
      refine wpAnyF_two 5 11 (by rfl) (by rfl) (by kernel_rfl) rfl rfl ?_ ?_
      intro K hK
      go_simp
      have HK1 := Lib.hid (ByB.new w3 y1)
      have HMA := Lib.hid (HM3.out.alloc (by have := HC3.out.blk.lt; omega) (.cells #[.int .u8 y1] 5))
      have HCA := Lib.hid (HC3.out.later (bl_alloc (Below.refl _ _) (.cells #[.int .u8 y1] 5)))
      refine hK.out _ _ (fun _ => trivial) ?_
      clear hK K
      obtain ⟨b1, hb1⟩ : ∃ b, w3.heap.size = b := ⟨_, rfl⟩
      rw [hb1] at HK1 ⊢
      clear hb1
      generalize w3.alloc (.cells #[.int .u8 y1] 5) = wA at HK1 HMA HCA ⊢
      refine wpAnyF_mono (S' := fun w' => ByB w' b1 y1) (fun _ _ => trivial) _ ?_
      refine wpAnyF_take 6 (v := ?v6LC) (by rfl) (by kernel_rfl) (by intro _ _ _ h; exact h) HK1.out (by rfl) ?hy6LC ?rest6LC
      case hy6LC =>
        intro w' hSw
        have cb := conv_byte w' _ _ (ByB.cell hSw)
        clear hSw
        go_simp
        try with_reducible rfl
      simp only [Act.put, List.setIfInBounds_toArray]
      refine wpAnyF_one 11 (by rfl) (by kernel_rfl) rfl ?_
      intro K hK
      go_simp
      have HK2 := Lib.hid (ByB.new wA y2)
      have HMF := Lib.hid (HMA.out.alloc (by have := HCA.out.blk.lt; omega) (.cells #[.int .u8 y2] 5))
      have HCF := Lib.hid (HCA.out.later (bl_alloc (Below.refl _ _) (.cells #[.int .u8 y2] 5)))
      replace HK1 := Lib.hid (HK1.out.alloc (.cells #[.int .u8 y2] 5))
      refine hK.out _ _ (fun _ => HK1.out) ?_
      clear hK K
      obtain ⟨b2, hb2⟩ : ∃ b, wA.heap.size = b := ⟨_, rfl⟩
      rw [hb2] at HK2 ⊢
      clear hb2 HC3 HM3 HMA HCA
      generalize wA.alloc (.cells #[.int .u8 y2] 5) = wF at HK1 HK2 HMF HCF ⊢
      refine wpAnyF_mono (S' := fun w' => ByB w' b1 y1 ∧ ByB w' b2 y2) (fun _ h => h.1) _ ?_
      have HKK := Lib.hid (And.intro HK1.out HK2.out)
      refine wpAnyF_take 12 (v := ?v12LC) (by rfl) (by kernel_rfl) (by intro _ _ _ h; exact h) HKK.out (by rfl) ?hy12LC ?rest12LC
      case hy12LC =>
        intro w' hSw
        have cb := conv_byte w' _ _ ((fun h => ByB.cell h.2) hSw)
        clear hSw
        go_simp
        try with_reducible rfl
      simp only [Act.put, List.setIfInBounds_toArray]
      rotate_left
      intro K hK
      go_simp
      have HK2 := Lib.hid (ByB.new w3 y2)
      have HMA := Lib.hid (HM3.out.alloc (by have := HC3.out.blk.lt; omega) (.cells #[.int .u8 y2] 5))
      have HCA := Lib.hid (HC3.out.later (bl_alloc (Below.refl _ _) (.cells #[.int .u8 y2] 5)))
      refine hK.out _ _ (fun _ => trivial) ?_
      clear hK K
      obtain ⟨b2, hb2⟩ : ∃ b, w3.heap.size = b := ⟨_, rfl⟩
      rw [hb2] at HK2 ⊢
      clear hb2
      generalize w3.alloc (.cells #[.int .u8 y2] 5) = wA at HK2 HMA HCA ⊢
      refine wpAnyF_mono (S' := fun w' => ByB w' b2 y2) (fun _ _ => trivial) _ ?_
      refine wpAnyF_take 12 (v := ?v12LD) (by rfl) (by kernel_rfl) (by intro _ _ _ h; exact h) HK2.out (by rfl) ?hy12LD ?rest12LD
      case hy12LD =>
        intro w' hSw
        have cb := conv_byte w' _ _ (ByB.cell hSw)
        clear hSw
        go_simp
        try with_reducible rfl
      simp only [Act.put, List.setIfInBounds_toArray]
      refine wpAnyF_one 5 (by rfl) (by kernel_rfl) rfl ?_
      intro K hK
      go_simp
      have HK1 := Lib.hid (ByB.new wA y1)
      have HMF := Lib.hid (HMA.out.alloc (by have := HCA.out.blk.lt; omega) (.cells #[.int .u8 y1] 5))
      have HCF := Lib.hid (HCA.out.later (bl_alloc (Below.refl _ _) (.cells #[.int .u8 y1] 5)))
      replace HK2 := Lib.hid (HK2.out.alloc (.cells #[.int .u8 y1] 5))
      refine hK.out _ _ (fun _ => HK2.out) ?_
      clear hK K
      obtain ⟨b1, hb1⟩ : ∃ b, wA.heap.size = b := ⟨_, rfl⟩
      rw [hb1] at HK1 ⊢
      clear hb1 HC3 HM3 HMA HCA
      generalize wA.alloc (.cells #[.int .u8 y1] 5) = wF at HK1 HK2 HMF HCF ⊢
      refine wpAnyF_mono (S' := fun w' => ByB w' b1 y1 ∧ ByB w' b2 y2) (fun _ h => h.2) _ ?_
      have HKK := Lib.hid (And.intro HK1.out HK2.out)
      refine wpAnyF_take 6 (v := ?v6LD) (by rfl) (by kernel_rfl) (by intro _ _ _ h; exact h) HKK.out (by rfl) ?hy6LD ?rest6LD
      case hy6LD =>
        intro w' hSw
        have cb := conv_byte w' _ _ ((fun h => ByB.cell h.1) hSw)
        clear hSw
        go_simp
        try with_reducible rfl
      simp only [Act.put, List.setIfInBounds_toArray]
      all_goals
        rw [HT1.out, HT2.out]
        refine wpAnyF_one 13 (by rfl) (by kernel_rfl) rfl ?_
        intro K hK
        go_simp
        refine hK.out _ _ (fun _ => HKK.out) ?_
        clear hK K
        refine wpAnyF_one 14 (by rfl) (by kernel_rfl) rfl ?_
        intro K hK
        go_simp
        refine hK.out _ _ (fun _ => ⟨HKK.out.1.alloc _, HKK.out.2.alloc _⟩) ?_
        clear hK K
        refine wpAnyF_one 15 (by rfl) (by kernel_rfl) rfl ?_
        intro K hK
        have hsz : w.heap.size ≤ wF.heap.size := (HM.out.trans HMF.out).bl.size
        refine wp_appendG _ _ _ 36 (by rfl) w.heap.size 40 _ 2 32 1 Tryz.underlying36 i_var' rfl (by omega) _ L.length (varC L) (varC (L ++ [drawVar x1 x2])) (by rfl)
          ((HO.out.mv HMF.out (by decide)).later (bl_alloc (Below.refl _ _) _)) [.string (drawVar x1 x2).nm, .string (drawVar x1 x2).tx] rfl (by omega) (by simp [Value.oneCell']) wF.heap.size 0 1 (by rfl)
          (new_at wF [.string (drawVar x1 x2).nm, .string (drawVar x1 x2).tx] 40) (fun i hi j _ => varC_old L _ hi j)
          (fun i hi j hj => by
            obtain rfl : i = 0 := by omega
            rw [Nat.zero_mul, Nat.zero_add, Nat.add_zero]; exact varC_new L (drawVar x1 x2) hj) (by simp; omega) (by have := HLN.out; omega) (by have := HLN.out; omega) ?_
        intro gv capv w9 hO9 hG9 _ _
        have hm9 : Mv [72] g w w9 := mv_grownNew ((HM.out.trans HMF.out).alloc (by omega) _) (by omega) hG9 (fun b hb => (HO.out.lt b hb).1)
        have hmv : Mv [40] w.heap.size (wF.alloc (.cells #[.string (drawVar x1 x2).nm, .string (drawVar x1 x2).tx] 40)) w9 := (Mv.refl _ _ _).grown (by simp; omega) hG9 (fun b hb => by obtain ⟨N, F, hB⟩ := HO.out.block hb; exact ⟨(HO.out.lt b hb).1, _, N, F, (hB.mv HMF.out (by decide)).later (bl_alloc (Below.refl _ _) _), by decide⟩)
        have HC9 := Lib.hid ((HCF.out.later (bl_alloc (Below.refl _ _) _)).mv hmv (by decide))
        have HK9 := Lib.hid (And.intro ((HKK.out.1.alloc _).mv hmv (by decide)) ((HKK.out.2.alloc _).mv hmv (by decide)))
        have HO9 := Lib.hid hO9
        have HM9 := Lib.hid hm9
        have hlL : (L ++ [drawVar x1 x2]).length = L.length + 1 := by simp
        rw [← hlL] at HO9 ⊢
        obtain ⟨L2, hL2⟩ : ∃ l, L ++ [drawVar x1 x2] = l := ⟨_, rfl⟩
        have HS2 : Hid (varsN code c1 (i + 1) = (L2, ck)) := Lib.hid (by rw [HS.out, hL2])
        rw [hL2] at HO9 ⊢
        clear hO9 hG9 hm9 hmv hsz hlL hL2
        refine hK.out _ _ (fun _ => HK9.out) ?_
        clear hK K
        simp only [Act.put, List.setIfInBounds_toArray]
        refine wpAnyF_one 16 (by rfl) (by kernel_rfl) rfl ?_
        intro K hK
        go_simp
        refine hK.out _ _ (fun h => absurd rfl h) ?_
        clear hK K
        refine wpAnyF_done (by kernel_rfl) ?_ _
        go_wp2
        go_roundw
        case rel => exact ⟨i + 1, m - 1, by omega, by rw [Int.natCast_sub (by omega)]; rfl, by rw [HS2.out]; exact HO9.out, by rw [HS2.out]; exact HC9.out, HM9.out⟩
        case measure => simp [intOf]; omega
    · obtain rfl : m = 0 := by omega
      obtain rfl : n0 = i := by omega
      clear hO hC hM hL hpi hs hLL hci
      go_wp2
      go_ret
      exact ⟨_, rfl, by rw [HQ.out.1]; exact HO.out, by rw [HQ.out.2]; exact HC.out, HM.out⟩
end Go.Proofs.YtcklnjjbhngbcaaGreatDoor
