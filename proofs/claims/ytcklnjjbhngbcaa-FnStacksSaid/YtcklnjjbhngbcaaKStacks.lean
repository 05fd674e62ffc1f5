/- FnStacks's walk. -/
import Derived.Test.YtcklnjjbhngbcaaG4
import Derived.Test.YtcklnjjbhngbcaaL11
import Derived.Test.YtcklnjjbhngbcaaL12
import Derived.Test.YtcklnjjbhngbcaaL13
import Derived.Test.YtcklnjjbhngbcaaI6
import Derived.Test.YtcklnjjbhngbcaaT1
import Derived.Test.YtcklnjjbhngbcaaB12
namespace Go.Proofs.Ytcklnjjbhngbcaa
open Go.RowKit Go.Proofs.Lens Go.ChangeShapes Go.WideShapes

theorem step_cur (s : PS) (m : PMom) (k : Nat) : (stepP s m k).cur = if m.kind = 7 then m.task else s.cur := by
  unfold stepP
  split
  · rfl
  · split
    · rfl
    · split
      · rfl
      · split <;> rfl
def is7 (m : PMom) : Bool := m.kind == 7
def OwFr (w : World) (v : Value) (xs : List PFr) : Prop := OwR w 0 59 3 xs.length (frC xs) v
def momF (m : PMom) (v : Value) (j : Nat) : Value := match j with | 0 => .int .i64 m.kind | 1 => .int .i64 m.task | 2 => .int .i64 m.fn | 3 => .int .i64 m.line | 4 => .string m.text | _ => v
theorem momF_eq (m : PMom) (v : Value) : ∀ j, j < 6 → (fun j => #[Value.int .i64 m.kind, .int .i64 m.task, .int .i64 m.fn, .int .i64 m.line, .string m.text, v].getD j undef) j = momF m v j := fun j hj => by
  match j, hj with
  | 0, _ => rfl
  | 1, _ => rfl
  | 2, _ => rfl
  | 3, _ => rfl
  | 4, _ => rfl
  | 5, _ => rfl
theorem frC_one (xs : List PFr) (i j : Nat) : (frC xs i j).oneCell' = true := by
  unfold frC
  split <;> rfl
theorem frC_cons (f : PFr) (r : List PFr) (i j : Nat) : frC r i j = frC (f :: r) (1 + i) j := by
  unfold frC
  have e : elt (f :: r) (1 + i) = elt r i := by unfold elt; rw [Nat.add_comm]; rfl
  rw [e]
theorem rd_tail0 {w : World} {A : Option Addr} {nl : Nat} {r : List PFr} (h : nl - 1 = 0) (hn1 : r.length + 1 = nl) : RdFrs w (.slice A (nl - 1) 0) r := by
  have e : r = [] := List.eq_nil_of_length_eq_zero (by omega)
  subst e
  rw [h]
  exact ⟨A, 0, rfl, by show (0 : Nat) ≤ _; omega, fun hh => absurd hh (by show ¬ 0 < 0; omega)⟩
theorem rd_tail {w : World} {bp op nl : Nat} {f : PFr} {r : List PFr} (hn1 : r.length + 1 = nl) (hm : nl ≤ 9223372036854775807) (hc : ∀ i, i < nl → ∀ j, j < 3 → w.cell? ⟨bp, op + (i * 3 + j), none⟩ = some (frC (f :: r) i j)) (c : Nat) :
    RdFrs w (.slice (some ⟨bp, op + 3, none⟩) (nl - 1) c) r := by
  have e : nl - 1 = r.length := by omega
  rw [e]
  refine ⟨_, c, rfl, by omega, fun _ => ⟨bp, op + 3, rfl, fun i hi j hj => ?_⟩⟩
  have h := hc (1 + i) (by omega) j hj
  rw [← frC_cons] at h
  rw [← h]
  congr 2
  omega
/-- Where a line is begun or a call left, a call is open. -/
theorem want_ne {s : PS} {m : PMom} (hc : checkP s m = 0) (hk : m.kind = 1 ∨ m.kind = 3) : ∃ f r, s.stk m.task = f :: r := by
  unfold checkP at hc
  rw [if_neg (by omega)] at hc
  by_cases ht : m.task ≠ s.cur
  · rw [if_pos ht] at hc; cases hc
  rw [if_neg ht, if_neg (by omega)] at hc
  have ht : m.task = s.cur := Decidable.not_not.1 ht
  rw [ht]
  cases hs : s.stk s.cur with
  | nil =>
    have : s.top = [] := hs
    rw [this] at hc
    dsimp only at hc
    rw [if_pos (by omega)] at hc
    cases hc
  | cons f r => exact ⟨f, r, rfl⟩
set_option maxRecDepth 100000 in
set_option maxHeartbeats 20000000 in
theorem stacks_law (u1 : Value) (code : List Nat) (w : World) (hr : RdBytes w u1 code) :
    Calls Try.prog 7 #[u1] w fun e w' => e = .returned (.bool true) ∧ Below w.heap.size w w' := by
  have HR := Lib.hid hr
  obtain ⟨A0, c0, rfl, hn0, -⟩ := hr.open'
  clear hr
  by_cases hbig : 1048576 < code.length
  · have hd : decide ((code.length : Int) > 1048576) = true := by simp; omega
    go_enter Try.func7, Try.ntmps7
    go_wp2
    go_ret
    exact ⟨rfl, Below.refl _ _⟩
  have hd : decide ((code.length : Int) > 1048576) = false := by simp; omega
  obtain ⟨C, hC, hc, hmk⟩ := make_law (P := Try.prog) 55 56 Try.underlying55 i_frames 3 (by omega) (by omega)
  have HCS := Lib.hid hC
  have HCC := Lib.hid hc
  clear hC hc
  have hmk' : ∀ w : World, (Instr.makeSlice 55 (.int .i64 3) (.int .i64 3)).run Try.prog w = .ok (.slice (some ⟨w.heap.size, 0, none⟩) 3 3) (w.alloc (.cells C 56)) := hmk
  clear hmk
  have hcode : code.length ≤ 1048576 := by omega
  have hso := drawnT_sound hcode
  have hn := drawnT_len hcode
  have hsm := sm_sound hso
  have hrd : ∀ (W : World) (gs lo : Nat) (v2 : Value), Blk W gs 9 4 strsF → BMoms W lo v2 (drawnT code).moms → RdTr W (.slice (some ⟨gs, 0, none⟩) 4 4) v2 (drawnT code) := fun W gs lo v2 a b => drawn_rd a b
  have HDC := Lib.hid (drawn_calls _ code w HR.out hcode)
  obtain ⟨t, ht⟩ : ∃ t, drawnT code = t := ⟨_, rfl⟩
  rw [ht] at hso hn hsm hrd HDC
  have HRD := Lib.hid hrd
  have HSM := Lib.hid hsm
  obtain ⟨n, hnn⟩ : ∃ n, t.moms.length = n := ⟨_, rfl⟩
  rw [hnn] at hn
  have HNN := Lib.hid hnn
  have HSO := Lib.hid hso
  clear hso hsm hrd ht hnn hbig
  go_enter Try.func7, Try.ntmps7
  go_wp2_with fail
  refine HDC.out.mono ?_; rintro e w1 ⟨gs, v2, rfl, hgs, hS, hM, hb⟩
  obtain ⟨A2, c2, rfl, -⟩ := hM.cap
  rw [HNN.out] at hM ⊢
  have HRT := Lib.hid (HRD.out _ _ _ _ hS hM)
  have HB := Lib.hid hb
  clear hS hM hb HDC HRD
  go_upto_region 4 with fail
  have HX := Lib.hid (BoxAt.new w1 [.slice (some ⟨gs, 0, none⟩) 4 4, .slice A2 n c2] 35)
  have HQ := Lib.hid (bl_alloc (Below.refl _ w1) (.cells #[.slice (some ⟨gs, 0, none⟩) 4 4, .slice A2 n c2] 35))
  generalize World.alloc w1 _ = W at HX HQ ⊢
  have hlr : Below w1.heap.size w1 W := HQ.out
  clear HQ
  replace HB := Lib.hid (bl_then HB.out hlr); replace HRT := Lib.hid (HRT.out.later hlr); clear hlr
  go_upto_region 6 with fail
  have HU : Hid (Blk (W.alloc (.cells C 56)) W.heap.size 56 3 (fun _ => .slice none 0 0)) := Lib.hid (by
    have := (Blk.new W C 56 (fun _ => .slice none 0 0) (fun j hj => by
      have := HCC.out j (by rw [← HCS.out]; exact hj)
      rw [this]
      show some ((Value.slice none 0 0).cells[j % 1]!) = _
      rw [Nat.mod_one]
      rfl))
    rw [show C.size = 3 from HCS.out] at this
    exact this)
  obtain ⟨bb, hbb⟩ : ∃ b, W.heap.size = b := ⟨_, rfl⟩
  have HQ := Lib.hid (bl_alloc (Below.refl _ W) (.cells C 56))
  have hsz : W.heap.size < (W.alloc (.cells C 56)).heap.size := by simp
  have hsx : w1.heap.size < W.heap.size := World.block_lt_of_cell? _ _ HX.out.open2.1
  generalize World.alloc W _ = W3 at HU HQ hsz ⊢
  rw [hbb] at HU hsz hsx ⊢
  have HBB := Lib.hid hbb
  clear hmk' HCC HCS hbb
  go_wp2_with fail
  go_loopw [20] (fun i wr => ∃ (q : Nat) (u : Nat → Value), q ≤ 3 ∧ i = .int .i64 q ∧ Blk wr bb 56 3 u ∧ (∀ j, j < q → OwFr wr (u j) (ps0.stk j)) ∧ Below W.heap.size W wr) (fun i _ => 3 - (intOf i).toNat)
  case atStart => exact ⟨0, _, by omega, rfl, HU.out, fun j hj => absurd hj (by omega), HQ.out⟩
  case round =>
    obtain ⟨q, u, hq, rfl, hU, hS, hb⟩ := hrel
    have HUr := Lib.hid hU
    have HSr := Lib.hid hS
    have HWr := Lib.hid hb
    have HXr := Lib.hid (HX.out.later hb)
    have HRr := Lib.hid (HRT.out.later hb)
    have hbs : bb < wr.heap.size := hU.lt
    clear hU hS hb
    obtain ⟨x0, x1⟩ := HXr.out.open2
    by_cases hq3 : q < 3
    · go_wp2_with fail
      clear x0 x1
      refine (impl_StackAt_calls _ _ t (-1) q _ HRr.out HSM.out).mono ?_; rintro e w2 ⟨u2, rfl, hO, hb⟩
      have hst : stackP t (-1) (q : Int) = ps0.stk q := by rw [stack_of HSO.out (by omega) (by omega) (by omega) (by omega), at_neg]
      rw [hst] at hO
      have HO := Lib.hid (hO.lower (Nat.zero_le _))
      have HSq := Lib.hid (fun j (hj : j < q) => OwR.later (HSr.out j hj) hb)
      replace hbs := Nat.lt_of_lt_of_le hbs hb.size
      obtain ⟨A3, c3, rfl, -⟩ := hO.cap
      clear hst hO HSr
      have HWr2 := Lib.hid (bl_trans9 HWr.out (bl_low9 hb (by have := HWr.out.size; omega)))
      replace HWr := HWr2
      replace HUr := Lib.hid (HUr.out.later hb); replace HXr := Lib.hid (HXr.out.later hb); replace HRr := Lib.hid (HRr.out.later hb); clear hb
      have c0' : w2.cell? ⟨bb, q, none⟩ = some (u q) := HUr.out.cell (by omega)
      have f0 := HUr.out.free q
      have hqI : (q : Int) < 3 := by omega
      go_wp2
      go_roundw
      case rel =>
        refine ⟨q + 1, _, by omega, by go_num, HUr.out.set (by omega) _, fun j hj => ?_, ?_⟩
        · by_cases hjq : j = q
          · subst hjq
            rw [upd, if_pos rfl]
            exact HO.out.other HUr.out (by decide) _ _
          · rw [upd, if_neg hjq]
            exact (HSq.out j (by omega)).other HUr.out (by decide) _ _
        · exact bl_set HWr.out (by dsimp only; have := HBB.out; omega) _
      case measure => simp [intOf]; omega
    · obtain rfl : q = 3 := by omega
      have hu0 : OwR wr 0 59 3 1 (frC [⟨0, 0, -1⟩]) (u 0) := HSr.out 0 (by omega)
      have hu1 : OwR wr 0 59 3 0 (frC []) (u 1) := HSr.out 1 (by omega)
      have c0' : wr.cell? ⟨bb, 0, none⟩ = some (u 0) := HUr.out.cell (j := 0) (by omega)
      have c1' : wr.cell? ⟨bb, 1, none⟩ = some (u 1) := HUr.out.cell (j := 1) (by omega)
      obtain ⟨B0, k0, e0, hop⟩ := hu0.open'
      obtain ⟨b0, e0', -, hb0, hcw, -⟩ := hop (by omega)
      subst e0'
      obtain ⟨B1, k1, e1, -⟩ := hu1.open'
      have z0 : wr.cell? ⟨b0, 0, none⟩ = some (.int .i64 0) := hcw 0 (by omega) 0 (by omega)
      have z1 : wr.cell? ⟨b0, 1, none⟩ = some (.int .i64 0) := hcw 0 (by omega) 1 (by omega)
      have z2 : wr.cell? ⟨b0, 2, none⟩ = some (.int .i64 (-1)) := hcw 0 (by omega) 2 (by omega)
      rw [e0] at c0'
      rw [e1] at c1'
      clear hu0 hu1 hop hcw e0 e1
      go_wp2_with fail
      clear x0 x1 c0' z0 z1 z2
      refine (impl_RunningAt_calls _ _ t (-1) _ HRr.out HSM.out).mono ?_; rintro e w2 ⟨rfl, hb⟩
      rw [run_of HSO.out (by omega) (by omega), at_neg]
      have hz0 : (ps0.cur != 0) = false := rfl
      replace c1' := cell_later hb c1'
      have HSq := Lib.hid (fun j (hj : j < 3) => OwR.later (HSr.out j hj) hb)
      have HWr2 := Lib.hid (bl_trans9 HWr.out (bl_low9 hb (by have := HWr.out.size; omega)))
      replace HWr := HWr2
      replace HUr := Lib.hid (HUr.out.later hb); replace HXr := Lib.hid (HXr.out.later hb); replace HRr := Lib.hid (HRr.out.later hb); clear hb
      obtain ⟨x0, x1⟩ := HXr.out.open2
      have hr0 : (ps0.cur : Int) = 0 := rfl
      rw [hr0]
      clear hz0 hr0 HSr
      go_wp2_with fail
      clear x0 x1 c1'
      go_loopw [59, 4] (fun i s4 wr => ∃ (q : Nat) (u : Nat → Value), q ≤ n ∧ i = .int .i64 q ∧ s4 = .int .i64 (stN t.moms q).cur ∧ Blk wr bb 56 3 u ∧ (∀ j, j < 3 → OwFr wr (u j) ((stN t.moms q).stk j)) ∧ Below W.heap.size W wr) (fun i _ _ => n - (intOf i).toNat)
      case atStart => exact ⟨0, _, by omega, rfl, rfl, HUr.out, HSq.out, HWr.out⟩
      case round =>
        clear HSq HUr HWr HXr HRr
        obtain ⟨q, u, hq, rfl, rfl, hU, hS, hb⟩ := hrel
        have HUr := Lib.hid hU
        have HSr := Lib.hid hS
        have HWr := Lib.hid hb
        have HXr := Lib.hid (HX.out.later hb)
        have HRr := Lib.hid (HRT.out.later hb)
        have hbs : bb < wr.heap.size := hU.lt
        clear hU hS hb
        obtain ⟨x0, x1⟩ := HXr.out.open2
        by_cases hqn : q < n
        · by_cases hq40 : 40 < q
          · have hd40 : decide ((q : Int) > 40) = true := by simp; omega
            go_wp2
            go_ret
            exact ⟨rfl, bl_then HB.out HWr.out⟩
          have hd40 : decide ((q : Int) > 40) = false := by simp; omega
          obtain ⟨b, o, vk, hA, d0, d1, d2, d3, d4, d5, hvk⟩ := rd_moment HRr.out.2 (by rw [HNN.out]; exact hqn)
          obtain ⟨Av, cv, rfl, -⟩ := hvk
          have HA := Lib.hid hA
          subst hA
          go_upto_region 19 with fail
          have HMB : Hid (Blk (wr.alloc _) wr.heap.size 38 6 _) := Lib.hid (Blk.made wr #[.int .i64 (elt t.moms q).kind, .int .i64 (elt t.moms q).task, .int .i64 (elt t.moms q).fn, .int .i64 (elt t.moms q).line, .string (elt t.moms q).text, .slice Av (elt t.moms q).vars.length cv] 38)
          replace HMB := Lib.hid (HMB.out.congr (momF_eq (elt t.moms q) (.slice Av (elt t.moms q).vars.length cv)))
          generalize hW2 : World.alloc wr _ = W2 at HMB ⊢
          have hbl : Below wr.heap.size wr W2 := by rw [← hW2]; exact bl_alloc (Below.refl _ _) _
          have hsw : wr.heap.size < W2.heap.size := by rw [← hW2]; simp
          have hbm : bb < wr.heap.size := hbs
          clear hW2
          have HWr2 := Lib.hid (bl_trans9 HWr.out (bl_low9 hbl (by have := HWr.out.size; omega)))
          replace HWr := HWr2
          replace HSr := Lib.hid (fun j (hj : j < 3) => OwR.later (HSr.out j hj) hbl)
          replace hbs := Nat.lt_of_lt_of_le hbs hbl.size
          replace HXr := Lib.hid (HXr.out.later hbl); replace HRr := Lib.hid (HRr.out.later hbl); replace HUr := Lib.hid (HUr.out.later hbl); clear hbl
          clear x0 x1 d0 d1 d2 d3 d4 d5 HA HWr2
          have hnx : stN t.moms (q + 1) = stepP (stN t.moms q) (elt t.moms q) q := rfl
          have hck := HSO.out.moves q (by rw [HNN.out]; exact hqn)
          have hcr : (stN t.moms (q + 1)).cur = if (elt t.moms q).kind = 7 then (elt t.moms q).task else (stN t.moms q).cur := step_cur _ _ _
          have hrn : runP t (q : Int) = (stN t.moms (q + 1)).cur := by rw [run_of HSO.out (by omega) (by have := HNN.out; omega), at_nat (by have := HNN.out; omega)]
          have hiv := HSO.out.inv q (by have := HNN.out; omega)
          have hsn : ∀ j : Nat, j < 3 → stackP t (q : Int) (j : Int) = (stN t.moms (q + 1)).stk j := fun j hj => by rw [stack_of HSO.out (by omega) (by have := HNN.out; omega) (by omega) (by omega), at_nat (by have := HNN.out; omega)]
          obtain ⟨m, hm⟩ : ∃ m, elt t.moms q = m := ⟨_, rfl⟩
          obtain ⟨s, hs⟩ : ∃ s, stN t.moms q = s := ⟨_, rfl⟩
          obtain ⟨s', hs'⟩ : ∃ s, stN t.moms (q + 1) = s := ⟨_, rfl⟩
          rw [hm] at hnx hck hcr HMB
          rw [hs] at hnx hck hcr hiv HSr ⊢
          rw [hs'] at hnx hcr hrn hsn
          have HNX := Lib.hid hnx
          have HIV := Lib.hid hiv
          have HCK := Lib.hid hck
          have HRN := Lib.hid hrn
          have HSN := Lib.hid hsn
          have HCR := Lib.hid hcr
          have HSS : Hid (stN t.moms (q + 1) = s') := Lib.hid hs'
          clear hnx hck hrn hsn hcr hs hs' hm hiv
          have y0 : W2.cell? ⟨wr.heap.size, 0, none⟩ = some (.int .i64 m.kind) := HMB.out.cell (j := 0) (by omega)
          have y1 : W2.cell? ⟨wr.heap.size, 1, none⟩ = some (.int .i64 m.task) := HMB.out.cell (j := 1) (by omega)
          have hk : (m.kind == 7) = is7 m := rfl
          go_upto_if 71 with fail
          clear hk
          go_cut [4] (fun s4 wx => s4 = .int .i64 s'.cur ∧ wx = W2)
          case first =>
            cases h7 : is7 m with
            | true =>
              have HC2 : Hid (s'.cur = m.task) := Lib.hid (by rw [HCR.out, if_pos (by simpa [is7] using h7)])
              clear h7
              go_wp2_with fail
              go_meet
              exact ⟨by rw [HC2.out], rfl⟩
            | false =>
              have HC2 : Hid (s'.cur = s.cur) := Lib.hid (by rw [HCR.out, if_neg (by simpa [is7] using h7)])
              clear h7
              go_wp2_with fail
              go_meet
              exact ⟨by rw [HC2.out], rfl⟩
          case rest =>
            obtain ⟨rfl, rfl⟩ := hcut
            clear y0 y1
            obtain ⟨mb, hmb⟩ : ∃ b, wr.heap.size = b := ⟨_, rfl⟩
            rw [hmb] at HMB hbm hsw ⊢
            have HMBB := Lib.hid hmb
            clear hmb
            obtain ⟨x0, x1⟩ := HXr.out.open2
            go_wp2_with fail
            clear x0 x1
            refine (impl_RunningAt_calls _ _ t (q : Int) _ HRr.out HSM.out).mono ?_; rintro e w3 ⟨rfl, hb⟩
            rw [HRN.out]
            have hz : ((s'.cur : Int) != s'.cur) = false := by simp
            replace HSr := Lib.hid (fun j (hj : j < 3) => OwR.later (HSr.out j hj) hb)
            have HWr3 := Lib.hid (bl_trans9 HWr.out (bl_low9 hb (by have := HWr.out.size; omega)))
            replace HWr := HWr3
            clear HWr3
            replace HXr := Lib.hid (HXr.out.later hb); replace HRr := Lib.hid (HRr.out.later hb); replace HUr := Lib.hid (HUr.out.later hb); replace HMB := Lib.hid (HMB.out.later hb); clear hb
            obtain ⟨x0, x1⟩ := HXr.out.open2
            go_wp2_with fail
            clear x0 x1
            have hmw : mb < w3.heap.size := HMB.out.lt
            go_loopw [81] (fun i wr => ∃ (p : Nat) (u : Nat → Value), p ≤ 3 ∧ i = .int .i64 p ∧ Blk wr bb 56 3 u ∧ (∀ j : Nat, j < p → OwFr wr (u j) (s'.stk j)) ∧ (∀ j : Nat, p ≤ j → j < 3 → OwFr wr (u j) (s.stk j)) ∧ Below W.heap.size W wr ∧ Blk wr mb 38 6 (momF m (.slice Av m.vars.length cv))) (fun i _ => 3 - (intOf i).toNat)
            case atStart => exact ⟨0, u, by omega, rfl, HUr.out, fun j hj => absurd hj (by omega), fun j _ hj => HSr.out j hj, HWr.out, HMB.out⟩
            case round =>
              clear HSr HUr HWr HXr HRr HMB
              obtain ⟨p, u, hp, rfl, hU, hS1, hS2, hb, hMB⟩ := hrel
              have HUr := Lib.hid hU
              have HS1 := Lib.hid hS1
              have HS2 := Lib.hid hS2
              have HWr := Lib.hid hb
              have HMB := Lib.hid hMB
              have HXr := Lib.hid (HX.out.later hb)
              have HRr := Lib.hid (HRT.out.later hb)
              have hbs : bb < wr.heap.size := hU.lt
              clear hU hS1 hS2 hb hMB
              obtain ⟨x0, x1⟩ := HXr.out.open2
              by_cases hp3 : p < 3
              · go_wp2_with fail
                clear x0 x1
                refine (impl_StackAt_calls _ _ t (q : Int) (p : Int) _ HRr.out HSM.out).mono ?_; rintro e w4 ⟨v4, rfl, hO4, hb⟩
                rw [HSN.out p hp3] at hO4
                obtain ⟨A4, c4, rfl, -⟩ := hO4.cap
                have HO4 := Lib.hid (show OwFr w4 _ _ from hO4.lower (Nat.zero_le _))
                replace HS1 := Lib.hid (fun (j : Nat) (hj : j < p) => OwR.later (HS1.out j hj) hb)
                replace HS2 := Lib.hid (fun (j : Nat) (hj : p ≤ j) (hj3 : j < 3) => OwR.later (HS2.out j hj hj3) hb)
                replace hbs := Nat.lt_of_lt_of_le hbs hb.size
                have HWr4 := Lib.hid (bl_trans9 HWr.out (bl_low9 hb (by have := HWr.out.size; omega)))
                replace HWr := HWr4
                clear hO4 HWr4
                replace HXr := Lib.hid (HXr.out.later hb); replace HRr := Lib.hid (HRr.out.later hb); replace HUr := Lib.hid (HUr.out.later hb); replace HMB := Lib.hid (HMB.out.later hb); clear hb
                have hup := HS2.out p (Nat.le_refl _) hp3
                obtain ⟨Ap, cp, hup', -⟩ := OwR.cap hup
                rw [hup'] at hup
                have HUP := Lib.hid hup
                have HVP := Lib.hid hup'
                have c0' : w4.cell? ⟨bb, p, none⟩ = some (.slice Ap (s.stk p).length cp) := (HUr.out.cell (by omega)).trans (by rw [hup'])
                have y1 : w4.cell? ⟨mb, 1, none⟩ = some (.int .i64 m.task) := HMB.out.cell (j := 1) (by omega)
                have hpI : (p : Int) < 3 := by omega
                clear hup hup'
                go_upto_if 95 with fail
                have hlp := HIV.out.deep (p : Int)
                have hwp : s'.stk (p : Int) = wantP s m q (p : Int) := by rw [HNX.out]; exact want_step HCK.out _
                have HWP := Lib.hid hwp
                clear hwp
                go_cut [11] (fun s11 wx => RdFrs wx s11 (s'.stk p) ∧ Below w4.heap.size w4 wx)
                case first =>
                  clear c0'
                  by_cases ht : (p : Int) = m.task
                  · have hd : ((p : Int) == m.task) = true := by simp [ht]
                    have HT := Lib.hid ht
                    have y0 : w4.cell? ⟨mb, 0, none⟩ = some (.int .i64 m.kind) := HMB.out.cell (j := 0) (by omega)
                    clear ht
                    by_cases k2 : m.kind = 2
                    · have q2 : (m.kind == 2) = true := by simp [k2]
                      have HSE : Hid (s'.stk (p : Int) = ⟨m.fn, 0, q⟩ :: s.stk (p : Int)) := Lib.hid (by rw [HWP.out]; unfold wantP; rw [if_pos HT.out, if_pos k2])
                      have y2 : w4.cell? ⟨mb, 2, none⟩ = some (.int .i64 m.fn) := HMB.out.cell (j := 2) (by omega)
                      clear k2
                      obtain ⟨nl, hnl⟩ : ∃ nl, (s.stk (p : Int)).length = nl := ⟨_, rfl⟩
                      have HNL := Lib.hid hnl
                      rw [hnl] at HUP hlp ⊢
                      clear hnl
                      go_wp2_with (at_builtin; refine stopped ?_)
                      unfold Stopped
                      refine wpList_appendR _ (by rfl) _ _ 56 (by rfl) w4.heap.size 59 _ 3 24 nl Try.underlying56 i_frame' rfl (by omega) (.slice (some ⟨w4.heap.size, 0, none⟩) 1 1) 1 (frC [⟨m.fn, 0, q⟩]) (frC (s'.stk p)) (frC (s.stk p)) (by rfl) ?hO Ap cp (by rfl) (OwR.src (HUP.out.later (bl_alloc (Below.refl _ _) _))) (frC_one _) ?hC ?hN (by simp) (by omega) (by omega) ?_
                      case hO => exact OwR.lit _ rfl (by simp only [maxLen]; omega) (fun i hi j hj => by
                        obtain rfl : i = 0 := by omega
                        match j, hj with
                        | 0, _ => rfl
                        | 1, _ => rfl
                        | 2, _ => rfl)
                      case hC =>
                        intro i hi j _
                        obtain rfl : i = 0 := by omega
                        rw [HSE.out]
                        rfl
                      case hN =>
                        intro i hi j _
                        rw [HSE.out]
                        exact frC_cons _ _ _ _
                      intro v5 w5 hO5 hG5
                      have HO5 := Lib.hid hO5
                      have HB5 : Hid (Below w4.heap.size w4 w5) := Lib.hid (bl_grown (bl_alloc (Below.refl _ _) _) hG5 (Nat.le_refl _))
                      clear hO5 hG5 y0 y1 y2
                      go_wp2_with fail
                      go_meet
                      refine ⟨?_, HB5.out⟩
                      have h := HO5.out.rd
                      have e : 1 + nl = (s'.stk (p : Int)).length := by rw [HSE.out, List.length_cons, HNL.out]; omega
                      rw [e] at h
                      exact h
                    have q2 : (m.kind == 2) = false := by simp [k2]
                    by_cases k3 : m.kind = 3
                    · have q3 : (m.kind == 3) = true := by simp [k3]
                      obtain ⟨f, r, hfr⟩ := want_ne HCK.out (.inr k3)
                      have HSE : Hid (s'.stk (p : Int) = r) := Lib.hid (by rw [HWP.out]; unfold wantP; rw [if_pos HT.out, if_neg k2, if_pos k3, HT.out, hfr]; rfl)
                      have HFR : Hid (s.stk (p : Int) = f :: r) := Lib.hid (by rw [HT.out]; exact hfr)
                      obtain ⟨nl, hnl⟩ : ∃ nl, (s.stk (p : Int)).length = nl := ⟨_, rfl⟩
                      have HNL := Lib.hid hnl
                      have hn1 : r.length + 1 = nl := by rw [← hnl, HFR.out]; rfl
                      rw [hnl] at HUP hlp ⊢
                      obtain ⟨A', c', hv', hle', -⟩ := OwR.cap HUP.out
                      cases hv'
                      rcases OwR.src HUP.out with ⟨-, h0, -⟩ | ⟨bp, op, rfl, hcell⟩
                      · omega
                      have HCL := Lib.hid hcell
                      have hnI : (1 : Int) ≤ (nl : Int) := by omega
                      clear k2 k3 hnl hfr hcell
                      go_wp2_with fail
                      · go_meet
                        exact ⟨by rw [HSE.out]; exact rd_tail0 (by omega) hn1, Below.refl _ _⟩
                      · go_meet
                        exact ⟨by rw [HSE.out]; exact rd_tail hn1 (by omega) (by rw [← HFR.out]; exact HCL.out) _, Below.refl _ _⟩
                    have q3 : (m.kind == 3) = false := by simp [k3]
                    by_cases k1 : m.kind = 1
                    · have q1 : (m.kind == 1) = true := by simp [k1]
                      obtain ⟨f, r, hfr⟩ := want_ne HCK.out (.inl k1)
                      have HSE : Hid (s'.stk (p : Int) = ⟨f.fn, m.line, f.frm⟩ :: r) := Lib.hid (by rw [HWP.out]; unfold wantP; rw [if_pos HT.out, if_neg k2, if_neg k3, if_pos k1, HT.out, hfr])
                      have HFR : Hid (s.stk (p : Int) = f :: r) := Lib.hid (by rw [HT.out]; exact hfr)
                      obtain ⟨nl, hnl⟩ : ∃ nl, (s.stk (p : Int)).length = nl := ⟨_, rfl⟩
                      have HNL := Lib.hid hnl
                      have hn1 : r.length + 1 = nl := by rw [← hnl, HFR.out]; rfl
                      rw [hnl] at HUP hlp ⊢
                      obtain ⟨A', c', hv', hle', -⟩ := OwR.cap HUP.out
                      cases hv'
                      rcases OwR.src HUP.out with ⟨-, h0, -⟩ | ⟨bp, op, rfl, hcell⟩
                      · omega
                      have HCL := Lib.hid hcell
                      have hnI : (1 : Int) ≤ (nl : Int) := by omega
                      have y3 : w4.cell? ⟨mb, 3, none⟩ = some (.int .i64 m.line) := HMB.out.cell (j := 3) (by omega)
                      clear k2 k3 k1 hnl hfr hcell
                      go_upto_region 35 with fail
                      have z0 : w4.cell? ⟨bp, op, none⟩ = some (.int .i64 f.fn) := by
                        have h := HCL.out 0 (by omega) 0 (by omega)
                        rw [HFR.out] at h
                        exact h
                      have z2 : w4.cell? ⟨bp, op + 2, none⟩ = some (.int .i64 f.frm) := by
                        have h := HCL.out 0 (by omega) 2 (by omega)
                        rw [HFR.out] at h
                        exact h
                      have HMW : Hid (mb < w4.heap.size) := Lib.hid (World.block_lt_of_cell? _ _ y3)
                      have HBPW : Hid (bp < w4.heap.size) := Lib.hid (World.block_lt_of_cell? _ _ z0)
                      have HS4 : Hid (w4.cell? ⟨mb, 3, none⟩ = some (.int .i64 m.line) ∧ w4.cell? ⟨bp, op, none⟩ = some (.int .i64 f.fn) ∧ w4.cell? ⟨bp, op + 2, none⟩ = some (.int .i64 f.frm)) := Lib.hid ⟨y3, z0, z2⟩
                      have HS0 : Hid (w4.drew.cell? ⟨mb, 3, none⟩ = some (.int .i64 m.line) ∧ w4.drew.cell? ⟨bp, op, none⟩ = some (.int .i64 f.fn) ∧ w4.drew.cell? ⟨bp, op + 2, none⟩ = some (.int .i64 f.frm)) := Lib.hid ⟨y3, z0, z2⟩
                      have HBA : Hid (Below w4.heap.size w4 ((w4.alloc (.cells #[.int .i64 f.fn, .int .i64 m.line, .int .i64 f.frm] 59)).drew)) := Lib.hid (bl_drew (bl_alloc (Below.refl _ _) _))
                      have HSA : Hid (((w4.alloc (.cells #[.int .i64 f.fn, .int .i64 m.line, .int .i64 f.frm] 59)).drew).cell? ⟨mb, 3, none⟩ = some (.int .i64 m.line) ∧ ((w4.alloc (.cells #[.int .i64 f.fn, .int .i64 m.line, .int .i64 f.frm] 59)).drew).cell? ⟨bp, op, none⟩ = some (.int .i64 f.fn) ∧ ((w4.alloc (.cells #[.int .i64 f.fn, .int .i64 m.line, .int .i64 f.frm] 59)).drew).cell? ⟨bp, op + 2, none⟩ = some (.int .i64 f.frm)) := Lib.hid ⟨(HBA.out.cell (p := ⟨mb, 3, none⟩) HMW.out).trans y3, (HBA.out.cell (p := ⟨bp, op, none⟩) HBPW.out).trans z0, (HBA.out.cell (p := ⟨bp, op + 2, none⟩) HBPW.out).trans z2⟩
                      have HTC : Hid (∀ i, i < nl - 1 → ∀ j, j < 3 → ((w4.alloc (.cells #[.int .i64 f.fn, .int .i64 m.line, .int .i64 f.frm] 59)).drew).cell? ⟨bp, op + 3 + (i * 3 + j), none⟩ = some (frC r i j)) := Lib.hid (fun i hi j hj => by
                        have h := HCL.out (1 + i) (by omega) j hj
                        rw [HFR.out, ← frC_cons] at h
                        rw [← h]
                        have e : op + ((1 + i) * 3 + j) = op + 3 + (i * 3 + j) := by omega
                        rw [e]
                        exact (bl_drew (bl_alloc (Below.refl _ _) _)).cell (p := ⟨bp, _, none⟩) HBPW.out)
                      have hn00 : 0 < nl := by omega
                      by_cases hc1 : cp = 1
                      · have hcp : cp - 1 = 0 := by omega
                        refine wp_region_F 15 (fun w' : World => w'.cell? ⟨mb, 3, none⟩ = some (.int .i64 m.line) ∧ w'.cell? ⟨bp, op, none⟩ = some (.int .i64 f.fn) ∧ w'.cell? ⟨bp, op + 2, none⟩ = some (.int .i64 f.frm)) (by kernel_rfl) ?_
                        refine wpAnyF_take 0 (v := ?v0a) (by rfl) (by kernel_rfl) (by intro _ _ _ h; exact h) HS0.out (by rfl) ?hy0a ?rest0a
                        case hy0a =>
                          intro w' hSw
                          obtain ⟨s0, s1, s2⟩ := hSw
                          go_simp
                          try with_reducible rfl
                        simp only [Act.put, List.setIfInBounds_toArray]
                        refine wpAnyF_take 1 (v := ?v1a) (by rfl) (by kernel_rfl) (by intro _ _ _ h; exact h) HS0.out (by rfl) ?hy1a ?rest1a
                        case hy1a =>
                          intro w' hSw
                          obtain ⟨s0, s1, s2⟩ := hSw
                          go_simp
                          try with_reducible rfl
                        simp only [Act.put]
                        refine wpAnyF_take 2 (v := ?v2a) (by rfl) (by kernel_rfl) (by intro _ _ _ h; exact h) HS0.out (by rfl) ?hy2a ?rest2a
                        case hy2a =>
                          intro w' hSw
                          obtain ⟨s0, s1, s2⟩ := hSw
                          go_simp
                          try with_reducible rfl
                        simp only [Act.put]
                        refine wpAnyF_take 3 (v := ?v3a) (by rfl) (by kernel_rfl) (by intro _ _ _ h; exact h) HS0.out (by rfl) ?hy3a ?rest3a
                        case hy3a =>
                          intro w' hSw
                          obtain ⟨s0, s1, s2⟩ := hSw
                          go_simp
                          try with_reducible rfl
                        simp only [Act.put]
                        refine wpAnyF_take 4 (v := ?v4a) (by rfl) (by kernel_rfl) (by intro _ _ _ h; exact h) HS0.out (by rfl) ?hy4a ?rest4a
                        case hy4a =>
                          intro w' hSw
                          obtain ⟨s0, s1, s2⟩ := hSw
                          go_simp
                          try with_reducible rfl
                        simp only [Act.put]
                        refine wpAnyF_take 5 (v := ?v5a) (by rfl) (by kernel_rfl) (by intro _ _ _ h; exact h) HS0.out (by rfl) ?hy5a ?rest5a
                        case hy5a =>
                          intro w' hSw
                          obtain ⟨s0, s1, s2⟩ := hSw
                          go_simp
                          try with_reducible rfl
                        simp only [Act.put]
                        refine wpAnyF_take 6 (v := ?v6a) (by rfl) (by kernel_rfl) (by intro _ _ _ h; exact h) HS0.out (by rfl) ?hy6a ?rest6a
                        case hy6a =>
                          intro w' hSw
                          obtain ⟨s0, s1, s2⟩ := hSw
                          go_simp
                          try with_reducible rfl
                        simp only [Act.put]
                        refine wpAnyF_take 7 (v := ?v7a) (by rfl) (by kernel_rfl) (by intro _ _ _ h; exact h) HS0.out (by rfl) ?hy7a ?rest7a
                        case hy7a =>
                          intro w' hSw
                          obtain ⟨s0, s1, s2⟩ := hSw
                          go_simp
                          try with_reducible rfl
                        simp only [Act.put]
                        refine wpAnyF_take 8 (v := ?v8a) (by rfl) (by kernel_rfl) (by intro _ _ _ h; exact h) HS0.out (by rfl) ?hy8a ?rest8a
                        case hy8a =>
                          intro w' hSw
                          obtain ⟨s0, s1, s2⟩ := hSw
                          go_simp
                          try with_reducible rfl
                        simp only [Act.put]
                        refine wpAnyF_take 9 (v := ?v9a) (by rfl) (by kernel_rfl) (by intro _ _ _ h; exact h) HS0.out (by rfl) ?hy9a ?rest9a
                        case hy9a =>
                          intro w' hSw
                          obtain ⟨s0, s1, s2⟩ := hSw
                          go_simp
                          try with_reducible rfl
                        simp only [Act.put]
                        refine wpAnyF_take 10 (v := ?v10a) (by rfl) (by kernel_rfl) (by intro _ _ _ h; exact h) HS0.out (by rfl) ?hy10a ?rest10a
                        case hy10a =>
                          intro w' hSw
                          obtain ⟨s0, s1, s2⟩ := hSw
                          go_simp
                          try with_reducible rfl
                        simp only [Act.put]
                        refine wpAnyF_take 12 (v := ?v12a) (by rfl) (by kernel_rfl) (by intro _ _ _ h; exact h) HS0.out (by rfl) ?hy12a ?rest12a
                        case hy12a =>
                          intro w' hSw
                          obtain ⟨s0, s1, s2⟩ := hSw
                          go_simp
                          try with_reducible rfl
                        simp only [Act.put]
                        refine wpAnyF_take 13 (v := ?v13a) (by rfl) (by kernel_rfl) (by intro _ _ _ h; exact h) HS0.out (by rfl) ?hy13a ?rest13a
                        case hy13a =>
                          intro w' hSw
                          obtain ⟨s0, s1, s2⟩ := hSw
                          go_simp
                          try with_reducible rfl
                        simp only [Act.put]
                        refine wpAnyF_one 11 (by rfl) (by kernel_rfl) rfl ?_
                        intro K hK
                        go_simp
                        refine hK.out _ _ (fun _ => HSA.out) ?_
                        clear hK K
                        refine wpAnyF_one 14 (by rfl) (by kernel_rfl) rfl ?_
                        intro K hK
                        refine wp_appendR _ _ _ 56 (by rfl) w4.heap.size 59 _ 3 24 (nl - 1) Try.underlying56 i_frame' rfl (by omega) (.slice (some ⟨w4.heap.size, 0, none⟩) 1 1) 1 (frC [⟨f.fn, m.line, f.frm⟩]) (frC (s'.stk p)) (frC r) (by rfl) ?hOa (some ⟨bp, op, none⟩) 0 (by rfl) (.inr ⟨bp, op, rfl, fun i hi => absurd hi (by omega)⟩) (frC_one _) ?hCa ?hNa (by simp) (by omega) (by omega) ?_
                        case hOa =>
                          exact OwR.later (OwR.lit (w := w4) #[.int .i64 f.fn, .int .i64 m.line, .int .i64 f.frm] rfl (by simp only [maxLen]; omega) (fun i hi j hj => by
                            obtain rfl : i = 0 := by omega
                            match j, hj with
                            | 0, _ => rfl
                            | 1, _ => rfl
                            | 2, _ => rfl)) (bl_drew (Below.refl _ _))
                        case hCa =>
                          intro i hi j _
                          obtain rfl : i = 0 := by omega
                          rw [HSE.out]
                          rfl
                        case hNa =>
                          intro i hi j _
                          rw [HSE.out]
                          exact frC_cons _ _ _ _
                        intro v5 w5 hO5 hG5
                        have HO5 := Lib.hid hO5
                        have HB5 : Hid (Below w4.heap.size w4 w5) := Lib.hid (bl_grown (bl_drew (bl_alloc (Below.refl _ _) _)) hG5 (Nat.le_refl _))
                        have HS5 : Hid (w5.cell? ⟨mb, 3, none⟩ = some (.int .i64 m.line) ∧ w5.cell? ⟨bp, op, none⟩ = some (.int .i64 f.fn) ∧ w5.cell? ⟨bp, op + 2, none⟩ = some (.int .i64 f.frm)) := Lib.hid ⟨(HB5.out.cell (p := ⟨mb, 3, none⟩) HMW.out).trans HS4.out.1, (HB5.out.cell (p := ⟨bp, op, none⟩) HBPW.out).trans HS4.out.2.1, (HB5.out.cell (p := ⟨bp, op + 2, none⟩) HBPW.out).trans HS4.out.2.2⟩
                        clear hO5 hG5 y0 y1 y3 z0 z2
                        refine hK.out _ _ (fun _ => HS5.out) ?_
                        clear hK K
                        refine wpAnyF_one 15 (by rfl) (by kernel_rfl) rfl ?_
                        intro K hK
                        go_simp
                        refine hK.out _ _ (fun h => absurd rfl h) ?_
                        clear hK K
                        refine wpAnyF_done (by kernel_rfl) ?_ _
                        go_wp2_with fail
                        go_meet
                        refine ⟨?_, HB5.out⟩
                        have h := HO5.out.rd
                        have e : 1 + (nl - 1) = (s'.stk (p : Int)).length := by rw [HSE.out, List.length_cons]; omega
                        rw [e] at h
                        exact h
                      · have hcp : ¬ cp - 1 = 0 := by omega
                        refine wp_region_F 15 (fun w' : World => w'.cell? ⟨mb, 3, none⟩ = some (.int .i64 m.line) ∧ w'.cell? ⟨bp, op, none⟩ = some (.int .i64 f.fn) ∧ w'.cell? ⟨bp, op + 2, none⟩ = some (.int .i64 f.frm)) (by kernel_rfl) ?_
                        refine wpAnyF_take 0 (v := ?v0b) (by rfl) (by kernel_rfl) (by intro _ _ _ h; exact h) HS0.out (by rfl) ?hy0b ?rest0b
                        case hy0b =>
                          intro w' hSw
                          obtain ⟨s0, s1, s2⟩ := hSw
                          go_simp
                          try with_reducible rfl
                        simp only [Act.put, List.setIfInBounds_toArray]
                        refine wpAnyF_take 1 (v := ?v1b) (by rfl) (by kernel_rfl) (by intro _ _ _ h; exact h) HS0.out (by rfl) ?hy1b ?rest1b
                        case hy1b =>
                          intro w' hSw
                          obtain ⟨s0, s1, s2⟩ := hSw
                          go_simp
                          try with_reducible rfl
                        simp only [Act.put]
                        refine wpAnyF_take 2 (v := ?v2b) (by rfl) (by kernel_rfl) (by intro _ _ _ h; exact h) HS0.out (by rfl) ?hy2b ?rest2b
                        case hy2b =>
                          intro w' hSw
                          obtain ⟨s0, s1, s2⟩ := hSw
                          go_simp
                          try with_reducible rfl
                        simp only [Act.put]
                        refine wpAnyF_take 3 (v := ?v3b) (by rfl) (by kernel_rfl) (by intro _ _ _ h; exact h) HS0.out (by rfl) ?hy3b ?rest3b
                        case hy3b =>
                          intro w' hSw
                          obtain ⟨s0, s1, s2⟩ := hSw
                          go_simp
                          try with_reducible rfl
                        simp only [Act.put]
                        refine wpAnyF_take 4 (v := ?v4b) (by rfl) (by kernel_rfl) (by intro _ _ _ h; exact h) HS0.out (by rfl) ?hy4b ?rest4b
                        case hy4b =>
                          intro w' hSw
                          obtain ⟨s0, s1, s2⟩ := hSw
                          go_simp
                          try with_reducible rfl
                        simp only [Act.put]
                        refine wpAnyF_take 5 (v := ?v5b) (by rfl) (by kernel_rfl) (by intro _ _ _ h; exact h) HS0.out (by rfl) ?hy5b ?rest5b
                        case hy5b =>
                          intro w' hSw
                          obtain ⟨s0, s1, s2⟩ := hSw
                          go_simp
                          try with_reducible rfl
                        simp only [Act.put]
                        refine wpAnyF_take 6 (v := ?v6b) (by rfl) (by kernel_rfl) (by intro _ _ _ h; exact h) HS0.out (by rfl) ?hy6b ?rest6b
                        case hy6b =>
                          intro w' hSw
                          obtain ⟨s0, s1, s2⟩ := hSw
                          go_simp
                          try with_reducible rfl
                        simp only [Act.put]
                        refine wpAnyF_take 7 (v := ?v7b) (by rfl) (by kernel_rfl) (by intro _ _ _ h; exact h) HS0.out (by rfl) ?hy7b ?rest7b
                        case hy7b =>
                          intro w' hSw
                          obtain ⟨s0, s1, s2⟩ := hSw
                          go_simp
                          try with_reducible rfl
                        simp only [Act.put]
                        refine wpAnyF_take 8 (v := ?v8b) (by rfl) (by kernel_rfl) (by intro _ _ _ h; exact h) HS0.out (by rfl) ?hy8b ?rest8b
                        case hy8b =>
                          intro w' hSw
                          obtain ⟨s0, s1, s2⟩ := hSw
                          go_simp
                          try with_reducible rfl
                        simp only [Act.put]
                        refine wpAnyF_take 9 (v := ?v9b) (by rfl) (by kernel_rfl) (by intro _ _ _ h; exact h) HS0.out (by rfl) ?hy9b ?rest9b
                        case hy9b =>
                          intro w' hSw
                          obtain ⟨s0, s1, s2⟩ := hSw
                          go_simp
                          try with_reducible rfl
                        simp only [Act.put]
                        refine wpAnyF_take 10 (v := ?v10b) (by rfl) (by kernel_rfl) (by intro _ _ _ h; exact h) HS0.out (by rfl) ?hy10b ?rest10b
                        case hy10b =>
                          intro w' hSw
                          obtain ⟨s0, s1, s2⟩ := hSw
                          go_simp
                          try with_reducible rfl
                        simp only [Act.put]
                        refine wpAnyF_take 12 (v := ?v12b) (by rfl) (by kernel_rfl) (by intro _ _ _ h; exact h) HS0.out (by rfl) ?hy12b ?rest12b
                        case hy12b =>
                          intro w' hSw
                          obtain ⟨s0, s1, s2⟩ := hSw
                          go_simp
                          try with_reducible rfl
                        simp only [Act.put]
                        refine wpAnyF_take 13 (v := ?v13b) (by rfl) (by kernel_rfl) (by intro _ _ _ h; exact h) HS0.out (by rfl) ?hy13b ?rest13b
                        case hy13b =>
                          intro w' hSw
                          obtain ⟨s0, s1, s2⟩ := hSw
                          go_simp
                          try with_reducible rfl
                        simp only [Act.put]
                        refine wpAnyF_one 11 (by rfl) (by kernel_rfl) rfl ?_
                        intro K hK
                        go_simp
                        refine hK.out _ _ (fun _ => HSA.out) ?_
                        clear hK K
                        refine wpAnyF_one 14 (by rfl) (by kernel_rfl) rfl ?_
                        intro K hK
                        refine wp_appendR _ _ _ 56 (by rfl) w4.heap.size 59 _ 3 24 (nl - 1) Try.underlying56 i_frame' rfl (by omega) (.slice (some ⟨w4.heap.size, 0, none⟩) 1 1) 1 (frC [⟨f.fn, m.line, f.frm⟩]) (frC (s'.stk p)) (frC r) (by rfl) ?hOb (some ⟨bp, op + 3, none⟩) (cp - 1) (by rfl) (.inr ⟨bp, op + 3, rfl, fun i hi j hj => HTC.out i hi j hj⟩) (frC_one _) ?hCb ?hNb (by simp) (by omega) (by omega) ?_
                        case hOb =>
                          exact OwR.later (OwR.lit (w := w4) #[.int .i64 f.fn, .int .i64 m.line, .int .i64 f.frm] rfl (by simp only [maxLen]; omega) (fun i hi j hj => by
                            obtain rfl : i = 0 := by omega
                            match j, hj with
                            | 0, _ => rfl
                            | 1, _ => rfl
                            | 2, _ => rfl)) (bl_drew (Below.refl _ _))
                        case hCb =>
                          intro i hi j _
                          obtain rfl : i = 0 := by omega
                          rw [HSE.out]
                          rfl
                        case hNb =>
                          intro i hi j _
                          rw [HSE.out]
                          exact frC_cons _ _ _ _
                        intro v5 w5 hO5 hG5
                        have HO5 := Lib.hid hO5
                        have HB5 : Hid (Below w4.heap.size w4 w5) := Lib.hid (bl_grown (bl_drew (bl_alloc (Below.refl _ _) _)) hG5 (Nat.le_refl _))
                        have HS5 : Hid (w5.cell? ⟨mb, 3, none⟩ = some (.int .i64 m.line) ∧ w5.cell? ⟨bp, op, none⟩ = some (.int .i64 f.fn) ∧ w5.cell? ⟨bp, op + 2, none⟩ = some (.int .i64 f.frm)) := Lib.hid ⟨(HB5.out.cell (p := ⟨mb, 3, none⟩) HMW.out).trans HS4.out.1, (HB5.out.cell (p := ⟨bp, op, none⟩) HBPW.out).trans HS4.out.2.1, (HB5.out.cell (p := ⟨bp, op + 2, none⟩) HBPW.out).trans HS4.out.2.2⟩
                        clear hO5 hG5 y0 y1 y3 z0 z2
                        refine hK.out _ _ (fun _ => HS5.out) ?_
                        clear hK K
                        refine wpAnyF_one 15 (by rfl) (by kernel_rfl) rfl ?_
                        intro K hK
                        go_simp
                        refine hK.out _ _ (fun h => absurd rfl h) ?_
                        clear hK K
                        refine wpAnyF_done (by kernel_rfl) ?_ _
                        go_wp2_with fail
                        go_meet
                        refine ⟨?_, HB5.out⟩
                        have h := HO5.out.rd
                        have e : 1 + (nl - 1) = (s'.stk (p : Int)).length := by rw [HSE.out, List.length_cons]; omega
                        rw [e] at h
                        exact h
                    · have q1 : (m.kind == 1) = false := by simp [k1]
                      have HSE : Hid (s'.stk (p : Int) = s.stk (p : Int)) := Lib.hid (by rw [HWP.out]; unfold wantP; rw [if_pos HT.out, if_neg k2, if_neg k3, if_neg k1])
                      clear k1 k2 k3
                      go_wp2_with fail
                      go_meet
                      exact ⟨by rw [HSE.out]; exact HUP.out.rd, Below.refl _ _⟩
                  · have hd : ((p : Int) == m.task) = false := by simp [ht]
                    have HSE : Hid (s'.stk (p : Int) = s.stk (p : Int)) := Lib.hid (by rw [HWP.out]; unfold wantP; rw [if_neg ht])
                    clear ht
                    go_wp2_with fail
                    go_meet
                    exact ⟨by rw [HSE.out]; exact HUP.out.rd, Below.refl _ _⟩
                case rest =>
                  obtain ⟨hR5, hb⟩ := hcut
                  obtain ⟨A11, c11, rfl, -⟩ := id hR5
                  have HR5 := Lib.hid hR5
                  replace HS1 := Lib.hid (fun (j : Nat) (hj : j < p) => OwR.later (HS1.out j hj) hb)
                  replace HS2 := Lib.hid (fun (j : Nat) (hj : p ≤ j) (hj3 : j < 3) => OwR.later (HS2.out j hj hj3) hb)
                  replace HO4 := Lib.hid (OwR.later HO4.out hb)
                  have HWr4 := Lib.hid (bl_trans9 HWr.out (bl_low9 hb (by have := HWr.out.size; omega)))
                  replace HWr := HWr4
                  replace hbs := Nat.lt_of_lt_of_le hbs hb.size
                  clear hR5 HWr4 HUP HVP c0' y1
                  replace HUr := Lib.hid (HUr.out.later hb); replace HMB := Lib.hid (HMB.out.later hb); clear hb
                  go_wp2_with fail
                  refine (wFrames_calls _ _ (s'.stk p) _ HO4.out.rd HR5.out).mono ?_; rintro e w6 ⟨rfl, hb⟩
                  replace HS1 := Lib.hid (fun (j : Nat) (hj : j < p) => OwR.later (HS1.out j hj) hb)
                  replace HS2 := Lib.hid (fun (j : Nat) (hj : p ≤ j) (hj3 : j < 3) => OwR.later (HS2.out j hj hj3) hb)
                  replace HO4 := Lib.hid (OwR.later HO4.out hb)
                  have HWr4 := Lib.hid (bl_trans9 HWr.out (bl_low9 hb (by have := HWr.out.size; omega)))
                  replace HWr := HWr4
                  replace hbs := Nat.lt_of_lt_of_le hbs hb.size
                  clear HWr4 HR5
                  replace HUr := Lib.hid (HUr.out.later hb); replace HMB := Lib.hid (HMB.out.later hb); clear hb
                  have c0' : w6.cell? ⟨bb, p, none⟩ = some (u p) := HUr.out.cell (by omega)
                  have f0 := HUr.out.free p
                  go_wp2
                  go_roundw
                  case rel =>
                    refine ⟨p + 1, _, by omega, by go_num, HUr.out.set (by omega) _, fun j hj => ?_, fun j hj hj3 => ?_, bl_set HWr.out (by dsimp only; have := HBB.out; omega) _, HMB.out.far (by dsimp only; omega) _⟩
                    · by_cases hjq : j = p
                      · subst hjq
                        rw [upd, if_pos rfl]
                        exact HO4.out.other HUr.out (by decide) _ _
                      · rw [upd, if_neg hjq]
                        exact OwR.other (HS1.out j (by omega)) HUr.out (by decide) _ _
                    · rw [upd, if_neg (by omega)]
                      exact OwR.other (HS2.out j (by omega) hj3) HUr.out (by decide) _ _
                  case measure => simp [intOf]; omega
              · obtain rfl : p = 3 := by omega
                clear x0 x1
                go_wp2
                go_roundw
                case rel =>
                  refine ⟨q + 1, u, by omega, by go_num, by rw [HSS.out], HUr.out, fun j hj => ?_, HWr.out⟩
                  rw [HSS.out]
                  exact HS1.out j hj
                case measure => simp [intOf]; omega
        · obtain rfl : q = n := by omega
          go_wp2
          go_ret
          exact ⟨rfl, bl_then HB.out HWr.out⟩

set_option maxRecDepth 100000 in
theorem stacks_walk (H : Type) (enc : TypeId × Value → H) (W : World) (base : Nat) (args : Array Value) (ds : List (DataW H)) (ps : List MemPlace)
    (hval : ∀ (j : Nat) t v, Try.f7.params[j]? = some t → args[j]? = some v → Value.okWide Try.prog W .any base t v)
    (h : DataW.TrodAll enc Try.prog W 0 (fun _ => true) true Try.f7.params.toList args.toList ds ps) :
    Calls Try.prog 7 args W fun e W' => e = .returned (.bool true) ∧ Below W.heap.size W W' := by
  rw [Try.params7] at h hval
  obtain ⟨v0, d0, ha, _, h0⟩ := trodAll_one h
  have ha' : args = #[v0] := by simpa using ha
  subst ha'
  obtain ⟨code, hr⟩ := rd_bytes (hval 0 _ _ rfl rfl) h0
  exact stacks_law v0 code W hr
end Go.Proofs.Ytcklnjjbhngbcaa
