/- The specification's CallTree. -/
import Derived.Test.YtcklnjjbhngbcaaT13
import Derived.Test.YtcklnjjbhngbcaaT12
namespace Go.Proofs.Ytcklnjjbhngbcaa
open Go.RowKit Go.Proofs.Lens

theorem i_int : (Try.prog.info? 3).map (fun i => (i.zero, i.size, i.bytes)) = some (some (.int .i64 0), 1, 8) := by kernel_rfl
theorem i_ints : (Try.prog.info? 39).map (fun i => (i.zero, i.size, i.bytes)) = some (some (.slice none 0 0), 1, 24) := by kernel_rfl
def natC (xs : List Nat) (i _j : Nat) : Value := .int .i64 (elt xs i : Nat)
/-- The reference's branches of the open calls of each task. -/
structure IsA (w : World) (lo T : Nat) (s : Int → List Nat) (f : Nat → Value) : Prop where
  lo2 : lo ≤ T
  tb : Blk w T 39 101 f
  row : ∀ i : Nat, i < 101 → OwR w lo 3 1 (s i).length (natC (s i).reverse) (f i)
  ne : ∀ i j : Nat, i < 101 → j < 101 → i ≠ j → ∀ b, (f i).ownBlock = some b → (f j).ownBlock ≠ some b
section
variable {w w' : World} {lo T : Nat} {s : Int → List Nat} {f : Nat → Value}
theorem IsA.later (h : IsA w lo T s f) (hb : Below w.heap.size w w') : IsA w' lo T s f := ⟨h.lo2, h.tb.later hb, fun i hi => (h.row i hi).later hb, h.ne⟩
theorem IsA.mv {ts : List TypeId} {lo' : Nat} (h : IsA w lo T s f) (hm : Mv ts lo' w w') (h1 : 39 ∉ ts) (h2 : 3 ∉ ts) : IsA w' lo T s f := ⟨h.lo2, h.tb.mv hm h1, fun i hi => (h.row i hi).mv hm h2, h.ne⟩
theorem IsA.at (h : IsA w lo T s f) {i : Int} (h0 : 0 ≤ i) (h1 : i ≤ 100) : ∃ A cap, f i.toNat = .slice A (s i).length cap ∧ w.cell? ⟨T, i.toNat, none⟩ = some (.slice A (s i).length cap) ∧ (s i).length ≤ cap ∧ cap ≤ 9223372036854775807 ∧
    OwR w lo 3 1 (s i).length (natC (s i).reverse) (.slice A (s i).length cap) := by
  have hr := h.row i.toNat (by omega)
  rw [Int.toNat_of_nonneg h0] at hr
  obtain ⟨A, cap, hv, hc1, hc2⟩ := hr.cap
  rw [hv] at hr
  exact ⟨A, cap, hv, (h.tb.cell (by omega)).trans (by rw [hv]), hc1, hc2, hr⟩
/-- What an append leaves, and the store behind it. -/
theorem IsA.put (h : IsA w lo T s f) {i : Int} (h0 : 0 ≤ i) (h1 : i ≤ 100) {w1 : World} (hg : w.grownBy w1 (f i.toNat).ownBlock) {v : Value} {l : List Nat} (hv : OwR w1 lo 3 1 l.length (natC l.reverse) v)
    (hne : ∀ j : Nat, j < 101 → j ≠ i.toNat → ∀ b, v.ownBlock = some b → (f j).ownBlock ≠ some b) : IsA (w1.setCell ⟨T, i.toNat, none⟩ v) lo T (fun k => if k = i then l else s k) (upd f i.toNat v) := by
  have hi : i.toNat < 101 := by omega
  have htb : Blk w1 T 39 101 f := h.tb.keep (hg.block T h.tb.lt (fun hh => by
    obtain ⟨N, F, hB⟩ := (h.row i.toNat hi).block hh.symm
    exact hB.ne h.tb (by decide) rfl))
  refine ⟨h.lo2, htb.set hi _, fun j hj => ?_, fun j k hj hk hjk b hb => ?_⟩
  · by_cases hc : j = i.toNat
    · rw [hc, upd_same]
      rw [if_pos (Int.toNat_of_nonneg h0)]
      exact hv.other htb (by decide) _ _
    · rw [upd_ne _ _ hc]
      rw [if_neg (by omega)]
      exact ((h.row j hj).grown hg (fun b hb hh => h.ne j i.toNat hj hi hc b hb hh)).other htb (by decide) _ _
  · by_cases hc : j = i.toNat
    · rw [hc, upd_same] at hb
      rw [upd_ne _ _ (by omega)]
      exact hne k hk (by omega) b hb
    · rw [upd_ne _ _ hc] at hb
      by_cases hd : k = i.toNat
      · rw [hd, upd_same]; exact fun hh => hne j hj hc b hh hb
      · rw [upd_ne _ _ hd]; exact h.ne j k hj hk hjk b hb
end
/-- The types of the blocks that the specification's CallTree turns. -/
def ctTys : List TypeId := [39, 3, 52]
theorem brC0 {w : World} : OwR (w.alloc (.cells #[.int .i64 0, .int .i64 (-1), .int .i64 1, .int .i64 0] 52)) w.heap.size 52 4 ct0.br.length (brC ct0.br) (.slice (some ⟨w.heap.size, 0, none⟩) 1 1) := by
  refine .inr ⟨w.heap.size, 1, _, rfl, Nat.le_refl _, by simp [ct0], by simp [maxLen], Blk.made w #[.int .i64 0, .int .i64 (-1), .int .i64 1, .int .i64 0] 52, fun i hi j hj => ?_⟩
  obtain rfl : i = 0 := by simp [ct0] at hi; omega
  match j, hj with
  | 0, _ => rfl
  | 1, _ => rfl
  | 2, _ => rfl
  | 3, _ => rfl

theorem chk_ne {s : PS} {m : PMom} (hc : checkP s m = 0) (hk : m.kind = 1 ∨ m.kind = 3) : s.top ≠ [] := by
  intro h2
  unfold checkP at hc
  rw [if_neg (by omega), h2] at hc
  by_cases ht : m.task ≠ s.cur
  · rw [if_pos ht] at hc; cases hc
  · rw [if_neg ht, if_neg (by omega)] at hc
    simp only at hc
    rw [if_pos (by omega)] at hc
    cases hc
theorem step_cur {s : PS} {m : PMom} {n : Nat} (h : m.kind ≠ 7) : (stepP s m n).cur = s.cur := by
  unfold stepP
  rw [if_neg h]
  split
  · rfl
  · split
    · rfl
    · split <;> rfl
theorem natC_last (x : Nat) (r : List Nat) (j : Nat) : natC (x :: r).reverse r.length j = .int .i64 (x : Nat) := by
  unfold natC
  rw [elt_eq (by simp)]; simp
theorem natC_old (x : Nat) (r : List Nat) {i : Nat} (hi : i < r.length) (j : Nat) : natC (x :: r).reverse i j = natC r.reverse i j := by
  unfold natC
  rw [elt_eq (by simp; omega), elt_eq (by simpa using hi)]
  simp [List.reverse_cons, hi]
set_option maxRecDepth 100000 in
set_option maxHeartbeats 2000000 in
theorem spec_CallTree_bad (v1 v2 : Value) (t : PTr) (w : World) (h : RdTr w v1 v2 t) (hsm : smTr t) (hs : soundP t = false) :
    Calls Try.prog 68 #[.agg #[v1, v2]] w (OwRet w 52 4 (ctP t).length (brC (ctP t))) := by
  have HT := Lib.hid h
  have HS := Lib.hid hsm
  obtain ⟨⟨A1, c1, rfl, hn1, -⟩, ⟨vv, ⟨A2, c2, rfl, hn2, -⟩, -⟩⟩ := h
  have HR : Hid (ctP t = []) := Lib.hid (by unfold ctP; rw [hs]; rfl)
  have HQ := Lib.hid hs
  clear hs hsm
  go_enter Try.func68, Try.ntmps68
  go_wp2_with fail
  refine (l1ok_is _ _ t _ (HT.out.later (by repeat (with_reducible first | exact Below.refl _ _ | exact HL.out | refine bl_drewN ?_ _ | refine bl_drew ?_ | refine bl_alloc ?_ _ | refine bl_set ?_ (by dsimp only; omega) _))) HS.out HQ.out).mono ?_; rintro e w1 ⟨rfl, hb⟩
  have HB := Lib.hid (bl_then (bl_alloc (Below.refl _ w) _) hb)
  clear hb
  go_wp2
  go_ret
  rw [HR.out]
  exact ⟨_, rfl, OwR.nil, HB.out⟩

set_option maxRecDepth 100000 in
set_option maxHeartbeats 8000000 in
theorem spec_CallTree_good (v1 v2 : Value) (t : PTr) (w : World) (h : RdTr w v1 v2 t) (hsm : smTr t) (hs : soundP t = true) :
    Calls Try.prog 68 #[.agg #[v1, v2]] w (OwRet w 52 4 (ctP t).length (brC (ctP t))) := by
  have HT := Lib.hid h
  have HS := Lib.hid hsm
  obtain ⟨⟨A1, c1, rfl, hn1, -⟩, ⟨vv, ⟨A2, c2, rfl, hn2, -⟩, -⟩⟩ := h
  have HR : Hid (ctP t = (ctN t.moms t.moms.length).br) := Lib.hid (by unfold ctP; rw [hs]; rfl)
  have HQ := Lib.hid hs
  have hso := sound_iff hs
  obtain ⟨nf0, nf1, nm1⟩ := sound_fns hso
  have SO := Lib.hid hso
  obtain ⟨C, hC, hc, hmk⟩ := make_law (P := Try.prog) 149 39 Try.underlying149 i_ints 101 (by omega) (by omega)
  have hmk' : ∀ w : World, (Instr.makeSlice 149 (.int .i64 101) (.int .i64 101)).run Try.prog w = .ok (.slice (some ⟨w.heap.size, 0, none⟩) 101 101) (w.alloc (.cells C 39)) := hmk
  have HC := Lib.hid hC
  have Hc := Lib.hid hc
  clear hs hsm hso hC hc hmk
  go_enter Try.func68, Try.ntmps68
  go_wp2_with fail
  refine (l1ok_is _ _ t _ (HT.out.later (by repeat (with_reducible first | exact Below.refl _ _ | exact HL.out | refine bl_drewN ?_ _ | refine bl_drew ?_ | refine bl_alloc ?_ _ | refine bl_set ?_ (by dsimp only; omega) _))) HS.out HQ.out).mono ?_; rintro e w1 ⟨rfl, hb⟩
  have HX := Lib.hid ((Blk.made w #[.slice A1 t.fns.length c1, .slice A2 t.moms.length c2] 35).later hb)
  have HM := Lib.hid (Mv.then (ts := ctTys) ((Mv.refl _ _ w).alloc (Nat.le_refl _) _) (by simp) hb)
  have hw1 : w.heap.size < w1.heap.size := HX.out.lt
  clear hb
  go_upto_region 5 with fail
  generalize hW : World.alloc (World.alloc _ _) _ = W
  have hO : OwR W w1.heap.size 52 4 ct0.br.length (brC ct0.br) (.slice (some ⟨w1.heap.size, 0, none⟩) 1 1) := by rw [← hW]; exact brC0.later (bl_alloc (Below.refl _ _) _)
  have hX := HX.out.later (w' := W) (by rw [← hW]; exact (by repeat (with_reducible first | exact Below.refl _ _ | exact HL.out | refine bl_drewN ?_ _ | refine bl_drew ?_ | refine bl_alloc ?_ _ | refine bl_set ?_ (by dsimp only; omega) _)))
  have hM := HM.out.then HM.out.size (w2 := W) (by rw [← hW]; exact (by repeat (with_reducible first | exact Below.refl _ _ | exact HL.out | refine bl_drewN ?_ _ | refine bl_drew ?_ | refine bl_alloc ?_ _ | refine bl_set ?_ (by dsimp only; omega) _)))
  have hB : Blk W (w1.heap.size + 1) 39 101 (fun _ => .slice none 0 0) := by
    rw [← hW]
    have := (Blk.new (w1.alloc (.cells #[.int .i64 0, .int .i64 (-1), .int .i64 1, .int .i64 0] 52)) C 39 (fun _ => .slice none 0 0) (fun j hj => by
      have := Hc.out j (by rw [← HC.out]; exact hj)
      rw [this]
      show some ((Value.slice none 0 0).cells[j % 1]!) = _
      rw [Nat.mod_one]
      rfl))
    rw [World.size_alloc, show C.size = 101 from HC.out] at this
    exact this
  have hsz : W.heap.size = w1.heap.size + 2 := by rw [← hW]; simp
  have x0 := hX.cell (j := 1) (by simp)
  have x1 := hB.cell (j := 0) (by omega)
  have x2 := hB.free 0
  have y1 : w1.heap.size + 1 < W.heap.size := by omega
  have HSZ := Lib.hid hsz
  clear hW hsz
  go_upto_region 6 with fail
  generalize hW5 : World.alloc (World.setCell W _ _) _ = W5
  have hA5 : IsA W5 w1.heap.size (w1.heap.size + 1) ct0.stk (upd (fun _ => .slice none 0 0) 0 (.slice (some ⟨W.heap.size, 0, none⟩) 1 1)) := by
    rw [← hW5, ← World.setCell_alloc_past _ _ _ _ y1]
    have hnew := Blk.made W #[.int .i64 0] 3
    refine ⟨by omega, (hB.alloc _).set (by omega) _, fun i hi => ?_, fun i j hi hj hne b hb => ?_⟩
    · by_cases h0 : i = 0
      · subst h0
        rw [upd_same]
        refine .inr ⟨W.heap.size, 1, _, rfl, by omega, by simp [ct0], by simp [maxLen], hnew.far (by dsimp only; omega) _, fun i hi j hj => ?_⟩
        obtain rfl : i = 0 := by simp [ct0] at hi; omega
        obtain rfl : j = 0 := by omega
        rfl
      · rw [upd_ne _ _ h0]
        refine .inl ⟨rfl, ?_⟩
        simp [ct0, h0]
    · by_cases h0 : i = 0
      · subst h0
        rw [upd_ne _ _ (fun h => hne h.symm)]
        simp [Value.ownBlock]
      · rw [upd_ne _ _ h0] at hb
        cases hb
  have hm5 : Mv [39] w.heap.size W W5 := by
    rw [← hW5, ← World.setCell_alloc_past _ _ _ _ y1]
    exact ((Mv.refl _ _ _).alloc hM.size _).set (by dsimp only; omega) (hB.alloc _) (by decide) _
  have HA := Lib.hid hA5
  have HO := Lib.hid (hO.mv hm5 (by decide))
  have HX5 := Lib.hid (hX.mv hm5 (by decide))
  have HM5 := Lib.hid (hM.trans (hm5.mono (by decide)))
  clear hW5 hA5 hm5 hO hX hM hB x0 x1 x2 y1 HX HM
  have x0 : W5.cell? ⟨w.heap.size, 1, none⟩ = some (.slice A2 t.moms.length c2) := HX5.out.cell (j := 1) (by simp)
  go_wp2_with fail
  clear x0
  go_loopw [3, 5, 23] (fun ov cv i wr => ∃ (n bo cap : Nat) (f : Nat → Value), n ≤ t.moms.length ∧ i = .int .i64 n ∧ cv = .int .i64 (stN t.moms n).cur ∧ ov = .slice (some ⟨bo, 0, none⟩) (ctN t.moms n).br.length cap ∧
    OwR wr w1.heap.size 52 4 (ctN t.moms n).br.length (brC (ctN t.moms n).br) (.slice (some ⟨bo, 0, none⟩) (ctN t.moms n).br.length cap) ∧ IsA wr w1.heap.size (w1.heap.size + 1) (ctN t.moms n).stk f ∧ Mv ctTys w.heap.size w wr ∧
    Blk wr w.heap.size 35 2 (fun j => #[Value.slice A1 t.fns.length c1, .slice A2 t.moms.length c2].getD j undef)) (fun _ _ i _ => t.moms.length - (intOf i).toNat)
  case atStart => exact ⟨0, w1.heap.size, 1, _, Nat.zero_le _, rfl, rfl, rfl, HO.out, HA.out, HM5.out, HX5.out⟩
  case round =>
    obtain ⟨n, bo, cap, f, hn, rfl, rfl, rfl, hO, hA, hM, hX⟩ := hrel
    clear HO HA HM5 HX5
    have HO := Lib.hid hO
    have HAA := Lib.hid hA
    have HM := Lib.hid hM
    have HX := Lib.hid hX
    clear hO hA hM hX
    by_cases h2 : n < t.moms.length
    · obtain ⟨b, o, vk, hA, d0, d1, d2, d3, d4, d5, hvk⟩ := rd_moment (HT.out.2.later HM.out.bl) h2
      obtain ⟨Av, cv, rfl, -⟩ := hvk
      subst hA
      have hlo := HM.out.size
      have HI := SO.out.inv n hn
      have i0 := HI.lo
      have i1 := HI.hi
      have hcx : (stN t.moms n).cur < 101 := by omega
      have CI := SO.out.ctInv n hn
      have hlen := CI.len (stN t.moms n).cur
      have hmx := CI.max
      have hps := CI.pos
      have CX := Lib.hid CI
      have hdp := HI.deep (stN t.moms n).cur
      clear HI CI
      go_upto_region 10 with fail
      have HMB : Hid (Blk (wr.alloc _) wr.heap.size 38 6 _) := Lib.hid (Blk.made wr #[.int .i64 (elt t.moms n).kind, .int .i64 (elt t.moms n).task, .int .i64 (elt t.moms n).fn, .int .i64 (elt t.moms n).line, .string (elt t.moms n).text, .slice Av (elt t.moms n).vars.length cv] 38)
      generalize hW2 : World.alloc wr _ = W2 at HMB ⊢
      have hbl : Below wr.heap.size wr W2 := by rw [← hW2]; exact bl_alloc (Below.refl _ _) _
      have hmb : w.heap.size < wr.heap.size := HX.out.lt
      clear hW2 d0 d1 d2 d3 d4 d5
      have y0 : W2.cell? ⟨wr.heap.size, 0, none⟩ = some (.int .i64 (elt t.moms n).kind) := HMB.out.cell (j := 0) (by omega)
      have y1 : W2.cell? ⟨wr.heap.size, 1, none⟩ = some (.int .i64 (elt t.moms n).task) := HMB.out.cell (j := 1) (by omega)
      have y2 : W2.cell? ⟨wr.heap.size, 2, none⟩ = some (.int .i64 (elt t.moms n).fn) := HMB.out.cell (j := 2) (by omega)
      replace HM := Lib.hid (HM.out.then HM.out.size hbl)
      replace HX := Lib.hid (HX.out.later hbl)
      replace HO := Lib.hid (HO.out.later hbl)
      replace HAA := Lib.hid (HAA.out.later hbl)
      obtain ⟨Aa, ca, hfa, xa, hca1, hca2, hra⟩ := HAA.out.at i0 i1
      have HFA := Lib.hid hfa
      have HRA := Lib.hid hra
      clear hbl hfa hra
      generalize hll : ((ctN t.moms n).stk (stN t.moms n).cur) = L at HRA hlen xa hca1 HFA
      have HLL := Lib.hid hll
      clear hll
      have hLl : L.length ≤ 200 := by omega
      generalize hnl : L.length = nL at HRA hlen xa hca1 HFA hLl
      have HNL := Lib.hid hnl
      have HLEN := Lib.hid hlen
      clear hnl hlen
      by_cases k7 : (elt t.moms n).kind = 7
      · have hd1 : ((elt t.moms n).kind == 7) = true := by simp [k7]
        have HK := Lib.hid k7
        clear k7
        go_wp2
        go_roundw
        case rel =>
          have e1 : (stN t.moms (n + 1)).cur = (elt t.moms n).task := by show (stepP _ _ _).cur = _; unfold stepP; rw [if_pos HK.out]
          have e2 : ctN t.moms (n + 1) = ctN t.moms n := by show ctStep _ _ _ = _; unfold ctStep; rw [if_neg (by rw [HK.out]; decide), if_neg (by rw [HK.out]; decide), if_neg (by rw [HK.out]; decide)]
          exact ⟨n + 1, bo, cap, f, by omega, by go_num, by rw [e1], by rw [e2], by rw [e2]; exact HO.out, by rw [e2]; exact HAA.out, HM.out, HX.out⟩
        case measure => simp [intOf]; omega
      · have hd7 : ((elt t.moms n).kind == 7) = false := by simp [k7]
        have HK7 := Lib.hid k7
        have hcu := Lib.hid (show (stN t.moms (n + 1)).cur = (stN t.moms n).cur from step_cur k7)
        clear k7
        by_cases k2 : (elt t.moms n).kind = 2
        · have hd2 : ((elt t.moms n).kind == 2) = true := by simp [k2]
          have HK2 := Lib.hid k2
          clear k2
          by_cases h0 : nL = 0
          · have hd3 : decide (0 < nL) = false := by simp [h0]
            have HPV : Hid (ctPar L = -1) := Lib.hid (by have : L = [] := List.eq_nil_of_length_eq_zero (by rw [HNL.out, h0]); rw [this]; rfl)
            clear h0
            go_wp2_with fail
            refine (l2branch_calls w1.heap.size bo cap (ctN t.moms n).br (-1) (elt t.moms n).fn W2 HO.out (by omega) (by have := HO.out.blt; omega)).mono ?_
            rintro e w2 ⟨b1, cap1, rfl, hO, hg⟩
            have hmv : Mv [52] w.heap.size W2 w2 := (Mv.refl _ _ _).grown HM.out.size hg (fun b hb => by obtain ⟨N, F, hBk⟩ := HO.out.block hb; exact ⟨by have := (HO.out.lt b hb).1; omega, _, N, F, hBk, by decide⟩)
            replace HX := Lib.hid (HX.out.mv hmv (by decide))
            replace HAA := Lib.hid (HAA.out.mv hmv (by decide) (by decide))
            replace HM := Lib.hid (HM.out.trans (hmv.mono (by decide)))
            clear HO hmv hg y0 y1 y2 HMB xa HRA
            have HO := Lib.hid hO
            have hbd := brAdd_bd (p := (-1)) (fn := (elt t.moms n).fn) (n := (n : Int) + 1) (by omega) CX.out.bd
            have hk := brAt_lt_add (ctN t.moms n).br (-1) (elt t.moms n).fn
            have hl1 := brAdd_len (ctN t.moms n).br (-1) (elt t.moms n).fn
            clear hO
            have HE : Hid (ctN t.moms (n + 1) = ⟨brCal (brAdd (ctN t.moms n).br (-1) (elt t.moms n).fn) (brAt (ctN t.moms n).br (-1) (elt t.moms n).fn), (ctN t.moms n).put (stN t.moms n).cur (brAt (ctN t.moms n).br (-1) (elt t.moms n).fn :: L)⟩) := Lib.hid (by
              show ctStep _ _ _ = _
              unfold ctStep; rw [if_pos HK2.out, HLL.out, HPV.out])
            generalize brAdd (ctN t.moms n).br (-1) (elt t.moms n).fn = br1 at HO hbd hk hl1 HE ⊢
            generalize brAt (ctN t.moms n).br (-1) (elt t.moms n).fn = k1 at hk HE ⊢
            obtain ⟨⟨cz0, cz1⟩, -⟩ := hbd k1 hk
            have z3 : w2.cell? ⟨b1, k1 * 4 + 2, none⟩ = some (.int .i64 (elt br1 k1).cal) := HO.out.cells hk (j := 2) (by omega)
            have z2 := HO.out.free (k1 * 4 + 2)
            have hkk : (k1 : Int) < (br1.length : Int) := by omega
            have hsz2 := HM.out.size
            clear hbd
            go_upto_region 21 with fail
            have hO3 := brC_cal HO.out hk
            have hset := (Mv.refl [52] w.heap.size w2).setO HO.out (by omega) (by decide) (k1 * 4 + 2) (.int .i64 ((elt br1 k1).cal + 1))
            have hA3 := HAA.out.mv hset (by decide) (by decide)
            have hX3 := HX.out.mv hset (by decide)
            have hM3 := HM.out.trans (hset.mono (by decide))
            have hbl3 := HO.out.blt
            generalize hW3 : World.setCell w2 _ _ = W3 at hO3 hset hA3 hX3 hM3 ⊢
            have hs3 : W3.heap.size = w2.heap.size := by rw [← hW3, World.size_setCell]
            obtain ⟨Ab, cb, hfb, xb, hcb1, hcb2, hrb⟩ := hA3.at i0 i1
            rw [HLL.out, HNL.out] at hfb xb hcb1 hrb
            have HFB := Lib.hid hfb
            have HRB := Lib.hid hrb
            have HO3 := Lib.hid hO3
            have HA3 := Lib.hid hA3
            have HX3 := Lib.hid hX3
            have HM3 := Lib.hid hM3
            have hsl : w1.heap.size ≤ W3.heap.size := by omega
            clear hW3 hset z3 z2 hO3 hA3 hX3 hM3 hfb hrb HO HAA HX HM hs3
            go_wp2_with (at_builtin; refine stopped ?_)
            unfold Stopped
            refine wpList_append1 _ (by rfl) _ _ 39 (by rfl) w1.heap.size 3 _ 1 8 Try.underlying39 i_int rfl (by omega) _ nL _ (natC (k1 :: L).reverse) (by rfl) HRB.out [.int .i64 (k1 : Nat)] rfl (by simp [Value.oneCell']) (by rfl) (fun i hi j _ => (natC_old k1 L (by rw [HNL.out]; exact hi) j).symm) ?hN hsl (by omega) (by omega) ?_
            case hN =>
              intro j hj
              obtain rfl : j = 0 := by omega
              have := natC_last k1 L 0
              rw [HNL.out] at this
              rw [this]; rfl
            intro ga cg w4 hO4 hG4 hat hlt4
            have hput := HA3.out.put i0 i1 (w1 := w4) (by rw [HFB.out]; exact hG4) (l := k1 :: L) (v := .slice (some ⟨ga, 0, none⟩) (nL + 1) cg) (by rw [List.length_cons, HNL.out]; exact hO4) (fun j hj hjc b' hb' hfj => by
              cases hb'
              rcases hat with hat | hat
              · exact HA3.out.ne j (stN t.moms n).cur.toNat hj (by omega) hjc ga hfj (by rw [HFB.out]; exact hat)
              · have := ((HA3.out.row j hj).lt ga hfj).2
                omega)
            have htb4 : Blk w4 (w1.heap.size + 1) 39 101 f := HA3.out.tb.keep (hG4.block _ HA3.out.tb.lt (fun hh => by
              obtain ⟨N, F, hB⟩ := HRB.out.block hh.symm
              exact hB.ne HA3.out.tb (by decide) rfl))
            have hm4 : Mv [3, 39] w.heap.size W3 w4 := (Mv.refl _ _ _).grown HM3.out.size hG4 (fun b hb => by obtain ⟨N, F, hBk⟩ := HRB.out.block hb; exact ⟨by have := (HRB.out.lt b hb).1; omega, _, N, F, hBk, by decide⟩)
            have hm5 := hm4.set (p := ⟨w1.heap.size + 1, (stN t.moms n).cur.toNat, none⟩) (by dsimp only; omega) htb4 (by decide) (.slice (some ⟨ga, 0, none⟩) (nL + 1) cg)
            have xT := htb4.cell (j := (stN t.moms n).cur.toNat) (by omega)
            have xF := htb4.free (stN t.moms n).cur.toNat
            have HP := Lib.hid hput
            have HM5 := Lib.hid hm5
            clear hput htb4 hm4 hm5 hO4 hG4 hat xb
            go_wp2
            go_roundw
            case rel =>
              refine ⟨n + 1, b1, cap1, upd f (stN t.moms n).cur.toNat (.slice (some ⟨ga, 0, none⟩) (nL + 1) cg), by omega, by go_num, by rw [hcu.out], by rw [HE.out]; dsimp only; rw [brCal_len], ?_, ?_, HM3.out.trans (HM5.out.mono (by decide)), HX3.out.mv HM5.out (by decide)⟩
              · rw [HE.out]
                have := HO3.out.mv HM5.out (by decide)
                dsimp only
                rw [brCal_len] at this ⊢
                exact this
              · rw [HE.out]
                exact HP.out
            case measure => simp [intOf]; omega
          · obtain ⟨x, r, hxr⟩ : ∃ x r, L = x :: r := by
              cases hL : L with
              | nil => exact absurd (by rw [← HNL.out, hL]; rfl) h0
              | cons x r => exact ⟨x, r, rfl⟩
            have hd3 : decide (0 < nL) = true := by simp; omega
            have HPV : Hid (ctPar L = (x : Int)) := Lib.hid (by rw [hxr]; rfl)
            have hr1 : nL = r.length + 1 := by rw [← HNL.out, hxr]; rfl
            have xr : ∃ ba, Aa = some ⟨ba, 0, none⟩ ∧ W2.cell? ⟨ba, nL - 1, none⟩ = some (.int .i64 (x : Nat)) := by
              obtain ⟨A7, c7, e7, hop⟩ := HRA.out.open'
              obtain ⟨b7, e8, -, -, hc, -⟩ := hop (by omega)
              cases e7
              refine ⟨b7, e8, ?_⟩
              have h1 := hc r.length (by omega) 0 (by omega)
              rw [show nL - 1 = r.length * 1 + 0 by omega, h1, hxr, natC_last]
            obtain ⟨ba, rfl, xr⟩ := xr
            have hn1 : 1 ≤ (nL : Int) := by omega
            have hn2' : (0 : Int) ≤ (nL : Int) - 1 := by omega
            have hn3 : (nL : Int) - 1 < (nL : Int) := by omega
            clear h0 hr1
            go_wp2_with fail
            refine (l2branch_calls w1.heap.size bo cap (ctN t.moms n).br (x : Int) (elt t.moms n).fn W2 HO.out (by omega) (by have := HO.out.blt; omega)).mono ?_
            rintro e w2 ⟨b1, cap1, rfl, hO, hg⟩
            have hmv : Mv [52] w.heap.size W2 w2 := (Mv.refl _ _ _).grown HM.out.size hg (fun b hb => by obtain ⟨N, F, hBk⟩ := HO.out.block hb; exact ⟨by have := (HO.out.lt b hb).1; omega, _, N, F, hBk, by decide⟩)
            replace HX := Lib.hid (HX.out.mv hmv (by decide))
            replace HAA := Lib.hid (HAA.out.mv hmv (by decide) (by decide))
            replace HM := Lib.hid (HM.out.trans (hmv.mono (by decide)))
            clear HO hmv hg y0 y1 y2 HMB xa HRA
            have HO := Lib.hid hO
            have hbd := brAdd_bd (p := (x : Int)) (fn := (elt t.moms n).fn) (n := (n : Int) + 1) (by omega) CX.out.bd
            have hk := brAt_lt_add (ctN t.moms n).br (x : Int) (elt t.moms n).fn
            have hl1 := brAdd_len (ctN t.moms n).br (x : Int) (elt t.moms n).fn
            clear hO
            have HE : Hid (ctN t.moms (n + 1) = ⟨brCal (brAdd (ctN t.moms n).br (x : Int) (elt t.moms n).fn) (brAt (ctN t.moms n).br (x : Int) (elt t.moms n).fn), (ctN t.moms n).put (stN t.moms n).cur (brAt (ctN t.moms n).br (x : Int) (elt t.moms n).fn :: L)⟩) := Lib.hid (by
              show ctStep _ _ _ = _
              unfold ctStep; rw [if_pos HK2.out, HLL.out, HPV.out])
            generalize brAdd (ctN t.moms n).br (x : Int) (elt t.moms n).fn = br1 at HO hbd hk hl1 HE ⊢
            generalize brAt (ctN t.moms n).br (x : Int) (elt t.moms n).fn = k1 at hk HE ⊢
            obtain ⟨⟨cz0, cz1⟩, -⟩ := hbd k1 hk
            have z3 : w2.cell? ⟨b1, k1 * 4 + 2, none⟩ = some (.int .i64 (elt br1 k1).cal) := HO.out.cells hk (j := 2) (by omega)
            have z2 := HO.out.free (k1 * 4 + 2)
            have hkk : (k1 : Int) < (br1.length : Int) := by omega
            have hsz2 := HM.out.size
            clear hbd
            go_upto_region 21 with fail
            have hO3 := brC_cal HO.out hk
            have hset := (Mv.refl [52] w.heap.size w2).setO HO.out (by omega) (by decide) (k1 * 4 + 2) (.int .i64 ((elt br1 k1).cal + 1))
            have hA3 := HAA.out.mv hset (by decide) (by decide)
            have hX3 := HX.out.mv hset (by decide)
            have hM3 := HM.out.trans (hset.mono (by decide))
            have hbl3 := HO.out.blt
            generalize hW3 : World.setCell w2 _ _ = W3 at hO3 hset hA3 hX3 hM3 ⊢
            have hs3 : W3.heap.size = w2.heap.size := by rw [← hW3, World.size_setCell]
            obtain ⟨Ab, cb, hfb, xb, hcb1, hcb2, hrb⟩ := hA3.at i0 i1
            rw [HLL.out, HNL.out] at hfb xb hcb1 hrb
            have HFB := Lib.hid hfb
            have HRB := Lib.hid hrb
            have HO3 := Lib.hid hO3
            have HA3 := Lib.hid hA3
            have HX3 := Lib.hid hX3
            have HM3 := Lib.hid hM3
            have hsl : w1.heap.size ≤ W3.heap.size := by omega
            clear hW3 hset z3 z2 hO3 hA3 hX3 hM3 hfb hrb HO HAA HX HM hs3
            go_wp2_with (at_builtin; refine stopped ?_)
            unfold Stopped
            refine wpList_append1 _ (by rfl) _ _ 39 (by rfl) w1.heap.size 3 _ 1 8 Try.underlying39 i_int rfl (by omega) _ nL _ (natC (k1 :: L).reverse) (by rfl) HRB.out [.int .i64 (k1 : Nat)] rfl (by simp [Value.oneCell']) (by rfl) (fun i hi j _ => (natC_old k1 L (by rw [HNL.out]; exact hi) j).symm) ?hN hsl (by omega) (by omega) ?_
            case hN =>
              intro j hj
              obtain rfl : j = 0 := by omega
              have := natC_last k1 L 0
              rw [HNL.out] at this
              rw [this]; rfl
            intro ga cg w4 hO4 hG4 hat hlt4
            have hput := HA3.out.put i0 i1 (w1 := w4) (by rw [HFB.out]; exact hG4) (l := k1 :: L) (v := .slice (some ⟨ga, 0, none⟩) (nL + 1) cg) (by rw [List.length_cons, HNL.out]; exact hO4) (fun j hj hjc b' hb' hfj => by
              cases hb'
              rcases hat with hat | hat
              · exact HA3.out.ne j (stN t.moms n).cur.toNat hj (by omega) hjc ga hfj (by rw [HFB.out]; exact hat)
              · have := ((HA3.out.row j hj).lt ga hfj).2
                omega)
            have htb4 : Blk w4 (w1.heap.size + 1) 39 101 f := HA3.out.tb.keep (hG4.block _ HA3.out.tb.lt (fun hh => by
              obtain ⟨N, F, hB⟩ := HRB.out.block hh.symm
              exact hB.ne HA3.out.tb (by decide) rfl))
            have hm4 : Mv [3, 39] w.heap.size W3 w4 := (Mv.refl _ _ _).grown HM3.out.size hG4 (fun b hb => by obtain ⟨N, F, hBk⟩ := HRB.out.block hb; exact ⟨by have := (HRB.out.lt b hb).1; omega, _, N, F, hBk, by decide⟩)
            have hm5 := hm4.set (p := ⟨w1.heap.size + 1, (stN t.moms n).cur.toNat, none⟩) (by dsimp only; omega) htb4 (by decide) (.slice (some ⟨ga, 0, none⟩) (nL + 1) cg)
            have xT := htb4.cell (j := (stN t.moms n).cur.toNat) (by omega)
            have xF := htb4.free (stN t.moms n).cur.toNat
            have HP := Lib.hid hput
            have HM5 := Lib.hid hm5
            clear hput htb4 hm4 hm5 hO4 hG4 hat xb
            go_wp2
            go_roundw
            case rel =>
              refine ⟨n + 1, b1, cap1, upd f (stN t.moms n).cur.toNat (.slice (some ⟨ga, 0, none⟩) (nL + 1) cg), by omega, by go_num, by rw [hcu.out], by rw [HE.out]; dsimp only; rw [brCal_len], ?_, ?_, HM3.out.trans (HM5.out.mono (by decide)), HX3.out.mv HM5.out (by decide)⟩
              · rw [HE.out]
                have := HO3.out.mv HM5.out (by decide)
                dsimp only
                rw [brCal_len] at this ⊢
                exact this
              · rw [HE.out]
                exact HP.out
            case measure => simp [intOf]; omega
        · have hd2 : ((elt t.moms n).kind == 2) = false := by simp [k2]
          have HK2 := Lib.hid k2
          clear k2
          have hxr : ((elt t.moms n).kind = 1 ∨ (elt t.moms n).kind = 3) → ∃ x r, L = x :: r := fun hk => by
            have hne := chk_ne (SO.out.moves n h2) hk
            cases hL : L with
            | nil =>
              have h0 := HLEN.out
              rw [← HNL.out, hL] at h0
              exact absurd (List.eq_nil_of_length_eq_zero h0.symm) hne
            | cons x r => exact ⟨x, r, rfl⟩
          by_cases k3 : (elt t.moms n).kind = 3
          · have hd3 : ((elt t.moms n).kind == 3) = true := by simp [k3]
            have HK3 := Lib.hid k3
            obtain ⟨x, r, hxr⟩ := hxr (.inr k3)
            have hr1 : nL = r.length + 1 := by rw [← HNL.out, hxr]; rfl
            have HXR := Lib.hid hxr
            have HR1 := Lib.hid hr1
            have hAs : ∃ ba, Aa = some ⟨ba, 0, none⟩ := by
              obtain ⟨A7, c7, e7, hop⟩ := HRA.out.open'
              obtain ⟨b7, e8, -⟩ := hop (by omega)
              cases e7
              exact ⟨b7, e8⟩
            obtain ⟨ba, rfl⟩ := hAs
            have hn1 : 1 ≤ (nL : Int) := by omega
            have hn2' : (0 : Int) ≤ (nL : Int) - 1 := by omega
            have hn3 : (nL : Int) - 1 ≤ (ca : Int) := by omega
            have xF := HAA.out.tb.free (stN t.moms n).cur.toNat
            clear hr1 k3 hxr
            go_wp2
            go_roundw
            case rel =>
              have HE : ctN t.moms (n + 1) = ⟨(ctN t.moms n).br, (ctN t.moms n).put (stN t.moms n).cur r⟩ := by
                show ctStep _ _ _ = _
                unfold ctStep
                rw [if_neg HK2.out, if_pos HK3.out, HLL.out, HXR.out]; rfl
              have hr1 := HR1.out
              have e1 : nL - 1 = r.length := by omega
              have hlo' := HRA.out.lt ba rfl
              have hrow : OwR W2 w1.heap.size 3 1 r.length (natC r.reverse) (.slice (some ⟨ba, 0, none⟩) r.length ca) :=
                (HRA.out.take (m := r.length) (by omega)).congr fun i hi j hj => by rw [HXR.out]; exact natC_old x r hi j
              have hput := HAA.out.put i0 i1 (w1 := W2) (gb_refl _ _) (l := r) (v := .slice (some ⟨ba, 0, none⟩) r.length ca) hrow (fun j hj hjc b' hb' hfj => by
                cases hb'
                exact HAA.out.ne j (stN t.moms n).cur.toNat hj (by omega) hjc ba hfj (by rw [HFA.out]; rfl))
              have hmv : Mv [39] w.heap.size W2 (W2.setCell ⟨w1.heap.size + 1, (stN t.moms n).cur.toNat, none⟩ (.slice (some ⟨ba, 0, none⟩) r.length ca)) := (Mv.refl _ _ _).set (by dsimp only; omega) HAA.out.tb (by decide) _
              rw [e1]
              refine ⟨n + 1, bo, cap, upd f (stN t.moms n).cur.toNat (.slice (some ⟨ba, 0, none⟩) r.length ca), by omega, by go_num, by rw [hcu.out], by rw [HE], ?_, ?_, HM.out.trans (hmv.mono (by decide)), HX.out.mv hmv (by decide)⟩
              · rw [HE]; exact HO.out.mv hmv (by decide)
              · rw [HE]; exact hput
            case measure => simp [intOf]; omega
          · have hd3 : ((elt t.moms n).kind == 3) = false := by simp [k3]
            have HK3 := Lib.hid k3
            clear k3
            by_cases k1 : (elt t.moms n).kind = 1
            · have hd1 : ((elt t.moms n).kind == 1) = true := by simp [k1]
              have HK1 := Lib.hid k1
              obtain ⟨x, r, hxr⟩ := hxr (.inl k1)
              have hr1 : nL = r.length + 1 := by rw [← HNL.out, hxr]; rfl
              have xr : ∃ ba, Aa = some ⟨ba, 0, none⟩ ∧ W2.cell? ⟨ba, nL - 1, none⟩ = some (.int .i64 (x : Nat)) := by
                obtain ⟨A7, c7, e7, hop⟩ := HRA.out.open'
                obtain ⟨b7, e8, -, -, hc, -⟩ := hop (by omega)
                cases e7
                refine ⟨b7, e8, ?_⟩
                have h1 := hc r.length (by omega) 0 (by omega)
                rw [show nL - 1 = r.length * 1 + 0 by omega, h1, hxr, natC_last]
              obtain ⟨ba, rfl, xr⟩ := xr
              have hxl : x < (ctN t.moms n).br.length := CX.out.idx (stN t.moms n).cur x (by rw [HLL.out, hxr]; simp)
              have HXR := Lib.hid hxr
              have hn1 : 1 ≤ (nL : Int) := by omega
              have hn2' : (0 : Int) ≤ (nL : Int) - 1 := by omega
              have hn3 : (nL : Int) - 1 < (nL : Int) := by omega
              have hxi : (x : Int) < ((ctN t.moms n).br.length : Int) := by omega
              obtain ⟨-, cs0, cs1⟩ := CX.out.bd x hxl
              have z3 : W2.cell? ⟨bo, x * 4 + 3, none⟩ = some (.int .i64 (elt (ctN t.moms n).br x).slf) := HO.out.cells hxl (j := 3) (by omega)
              have z2 := HO.out.free (x * 4 + 3)
              clear hr1 k1 hxr
              go_wp2
              go_roundw
              case rel =>
                have HE : ctN t.moms (n + 1) = ⟨brSlf (ctN t.moms n).br x, (ctN t.moms n).stk⟩ := by
                  show ctStep _ _ _ = _
                  unfold ctStep
                  rw [if_neg HK2.out, if_neg HK3.out, if_pos HK1.out, HLL.out, HXR.out]; rfl
                have hmv := (Mv.refl [52] w.heap.size W2).setO HO.out (by omega) (by decide) (x * 4 + 3) (.int .i64 ((elt (ctN t.moms n).br x).slf + 1))
                refine ⟨n + 1, bo, cap, f, by omega, by go_num, by rw [hcu.out], by rw [HE]; dsimp only; rw [brSlf_len], ?_, ?_, HM.out.trans (hmv.mono (by decide)), HX.out.mv hmv (by decide)⟩
                · rw [HE]
                  have := brC_slf HO.out hxl
                  dsimp only
                  rw [brSlf_len] at this ⊢
                  exact this
                · rw [HE]; exact HAA.out.mv hmv (by decide) (by decide)
              case measure => simp [intOf]; omega
            · have hd1 : ((elt t.moms n).kind == 1) = false := by simp [k1]
              have HK1 := Lib.hid k1
              clear k1 hxr
              go_wp2
              go_roundw
              case rel =>
                have HE : ctN t.moms (n + 1) = ctN t.moms n := by
                  show ctStep _ _ _ = _
                  unfold ctStep
                  rw [if_neg HK2.out, if_neg HK3.out, if_neg HK1.out]
                exact ⟨n + 1, bo, cap, f, by omega, by go_num, by rw [hcu.out], by rw [HE], by rw [HE]; exact HO.out, by rw [HE]; exact HAA.out, HM.out, HX.out⟩
              case measure => simp [intOf]; omega
    · obtain rfl : n = t.moms.length := by omega
      go_wp2
      go_ret
      refine ⟨_, rfl, ?_, HM.out.bl⟩
      rw [HR.out]
      exact HO.out.lower (Nat.le_of_lt hw1)
theorem spec_CallTree_calls (v1 v2 : Value) (t : PTr) (w : World) (h : RdTr w v1 v2 t) (hsm : smTr t) :
    Calls Try.prog 68 #[.agg #[v1, v2]] w (OwRet w 52 4 (ctP t).length (brC (ctP t))) := by
  cases hs : soundP t with
  | false => exact spec_CallTree_bad v1 v2 t w h hsm hs
  | true => exact spec_CallTree_good v1 v2 t w h hsm hs
end Go.Proofs.Ytcklnjjbhngbcaa
