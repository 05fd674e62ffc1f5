/- Lemmas and contracts of functions that the theorem of this claim leans on (texts Q11, KUndo). -/
import Derived.Test.YtcklnjjbhngbcaaGreatDoorRowUnz47
import Derived.Test.YtcklnjjbhngbcaaGreatDoorRowUnz23
import Derived.Deep.RegionHeld3
import Derived.Test.YtcklnjjbhngbcaaGreatDoorRowUnz29
import Derived.Test.YtcklnjjbhngbcaaGreatDoorRowUnz33
import Derived.Test.YtcklnjjbhngbcaaGreatDoorRowUnz34
import Derived.Test.YtcklnjjbhngbcaaGreatDoorRowUnz35
namespace Go.Proofs.YtcklnjjbhngbcaaGreatDoor
open Go.RowKit Go.Proofs.Lens
set_option linter.unusedSimpArgs false

theorem tdF_box (w : World) (p : PTold) (Asx Avx : Option Addr) (csx cvx : Nat) : Blk (w.alloc (.cells #[.int .i64 p.place, .int .i64 p.code, .int .i64 p.num, .string p.text, .slice Asx p.stack.length csx, .slice Avx p.vars.length cvx] 38)) w.heap.size 38 6 (tdF p (.slice Asx p.stack.length csx) (.slice Avx p.vars.length cvx)) :=
  (Blk.made w #[.int .i64 p.place, .int .i64 p.code, .int .i64 p.num, .string p.text, .slice Asx p.stack.length csx, .slice Avx p.vars.length cvx] 38).congr fun j hj => by
    have hj : j < 6 := hj
    match j, hj with
    | 0, _ => rfl
    | 1, _ => rfl
    | 2, _ => rfl
    | 3, _ => rfl
    | 4, _ => rfl
    | 5, _ => rfl
set_option maxRecDepth 100000 in
set_option maxHeartbeats 8000000 in
theorem spec_Look_calls (v1 v2 va : Value) (t : PTr) (asks : List PAsk) (w : World) (h : RdTr w v1 v2 t) (hsm : smTr t) (ha : RdAsks w va asks) (hz : ∀ i, i < asks.length → (elt asks i).nm.size ≤ 9223372036854775807) :
    Calls Tryz.prog 9 #[.agg #[v1, v2], va] w (TdRet w (lookP t asks)) := by
  have HT := Lib.hid h
  have HSM := Lib.hid hsm
  have HA := Lib.hid ha
  have HZ := Lib.hid hz
  obtain ⟨⟨A1, c1, rfl, hn1, -⟩, ⟨vv, ⟨A2, c2, rfl, hn2, -⟩, -⟩⟩ := h
  obtain ⟨A3, c3, rfl, hn3, -⟩ := ha
  clear hsm hz
  obtain ⟨b, hb⟩ : ∃ b, soundP t = b := ⟨_, rfl⟩
  have HSO := Lib.hid hb
  go_enter Tryz.func9, Tryz.ntmps9
  go_wp2_with fail
  refine (l1ok_is _ _ t _ (HT.out.later (by repeat (with_reducible first | exact Below.refl _ _ | exact HL.out | refine bl_drewN ?_ _ | refine bl_drew ?_ | refine bl_alloc ?_ _ | refine bl_set ?_ (by dsimp only; omega) _))) HSM.out hb).mono ?_; rintro e w1 ⟨rfl, hbl⟩
  have HB := Lib.hid (bl_then (bl_alloc (Below.refl _ w) _) hbl)
  have HX := Lib.hid ((BoxAt.new w [.slice A1 t.fns.length c1, .slice A2 t.moms.length c2] 26).later hbl)
  clear hbl hb
  cases b with
  | false =>
    go_wp2_with fail
    go_ret
    rw [lookP_no (.inl HSO.out)]
    exact ⟨_, _, _, rfl, BTold.nil, HB.out⟩
  | true =>
    by_cases hl : 500 < asks.length
    · have hl' : (500 : Int) < (asks.length : Int) := by omega
      go_wp2_with fail
      go_ret
      rw [lookP_no (.inr hl)]
      exact ⟨_, _, _, rfl, BTold.nil, HB.out⟩
    · have hl' : ¬ (500 : Int) < (asks.length : Int) := by omega
      obtain ⟨x0, x1⟩ := HX.out.open2
      go_upto_region 4 with fail
      clear x0 x1
      have HW0 := HB.out.size
      have hblk : Blk (w1.alloc (.cells #[.slice A1 t.fns.length c1, .slice A2 t.moms.length c2, .int .i64 (-1), .slice none 0 0, .slice none 0 0] 81)) w1.heap.size 81 5 (slF (.slice A1 t.fns.length c1) (.slice A2 t.moms.length c2) lk0.place (.slice none 0 0) (.slice none 0 0)) :=
        (Blk.made w1 #[.slice A1 t.fns.length c1, .slice A2 t.moms.length c2, .int .i64 (-1), .slice none 0 0, .slice none 0 0] 81).congr fun j hj => by
          have hj : j < 5 := hj
          match j, hj with
          | 0, _ => rfl
          | 1, _ => rfl
          | 2, _ => rfl
          | 3, _ => rfl
          | 4, _ => rfl
      have HS : Hid (SpL (w1.alloc (.cells #[.slice A1 t.fns.length c1, .slice A2 t.moms.length c2, .int .i64 (-1), .slice none 0 0, .slice none 0 0] 81)) w.heap.size w1.heap.size t.moms.length t.moms (.slice A1 t.fns.length c1) (.slice A2 t.moms.length c2) lk0 (.slice none 0 0) (.slice none 0 0)) := Lib.hid
        ⟨hblk, ⟨fun _ => undef, OwR.nil, fun i hi => absurd hi (by simp [lk0])⟩, OwR.nil⟩
      have HB2 := Lib.hid (bl_alloc HB.out (.cells #[.slice A1 t.fns.length c1, .slice A2 t.moms.length c2, .int .i64 (-1), .slice none 0 0, .slice none 0 0] 81))
      clear hblk HX HB
      obtain ⟨l, hle⟩ : ∃ l, w1.heap.size = l := ⟨_, rfl⟩
      generalize World.alloc w1 _ = w2 at HS HB2 ⊢
      rw [hle] at HS HW0 ⊢
      clear hle
      go_wp2_with fail
      go_loopw [6, 23] (fun o i wr => ∃ k : Nat, k ≤ asks.length ∧ i = .int .i64 k ∧ (∃ sv vv, BTold wr w.heap.size o (lkN t asks k).1 sv vv) ∧ (∃ hv pv, SpL wr w.heap.size l t.moms.length t.moms (.slice A1 t.fns.length c1) (.slice A2 t.moms.length c2) (lkN t asks k).2 hv pv) ∧ Below w.heap.size w wr) (fun _ i _ => asks.length - (intOf i).toNat)
      case atStart => exact ⟨0, Nat.zero_le _, rfl, ⟨_, _, BTold.nil⟩, ⟨_, _, HS.out⟩, HB2.out⟩
      case round =>
        obtain ⟨k, hk, rfl, ⟨sv, vv9, hT⟩, ⟨hv, pv, hS⟩, hB⟩ := hrel
        clear HS HB2
        have HTD := Lib.hid hT
        have HS := Lib.hid hS
        have HB := Lib.hid hB
        obtain ⟨A6, c6, rfl, -⟩ := hT.row.cap
        clear hT hS
        by_cases hlt : k < asks.length
        · have hlt' : (k : Int) < (asks.length : Int) := by omega
          obtain ⟨A', c', he, -, hrow⟩ := HA.out.later hB
          obtain ⟨rfl, rfl⟩ : A3 = A' ∧ c3 = c' := by simpa using he
          obtain ⟨ba, oa, rfl, hca⟩ := hrow (by omega)
          obtain ⟨a, hae⟩ : ∃ a, elt asks k = a := ⟨_, rfl⟩
          obtain ⟨L, hLe⟩ : ∃ L, (lkN t asks k).2 = L := ⟨_, rfl⟩
          have hok : LkOk t L := by rw [← hLe]; exact lkN_ok asks HSO.out k
          have hpl : L.past.length ≤ 1000000 := by have := lkN_past t asks k; rw [hLe] at this; omega
          have hza : a.nm.size ≤ 9223372036854775807 := by rw [← hae]; exact HZ.out k hlt
          rw [hLe] at HS
          have HAE := Lib.hid hae
          have HLE := Lib.hid hLe
          have HOK := Lib.hid hok
          have d0 : wr.cell? ⟨ba, oa + k * 7, none⟩ = some (.int .i64 a.op) := (hca k hlt 0 (by omega)).trans (by rw [← hae]; rfl)
          have d1 : wr.cell? ⟨ba, oa + k * 7 + 1, none⟩ = some (.int .i64 a.n) := (hca k hlt 1 (by omega)).trans (by rw [← hae]; rfl)
          have d2 : wr.cell? ⟨ba, oa + k * 7 + 2, none⟩ = some (.string a.nm) := (hca k hlt 2 (by omega)).trans (by rw [← hae]; rfl)
          have d3 : wr.cell? ⟨ba, oa + k * 7 + 3, none⟩ = some (.int .i64 a.stop.kind) := (hca k hlt 3 (by omega)).trans (by rw [← hae]; rfl)
          have d4 : wr.cell? ⟨ba, oa + k * 7 + 4, none⟩ = some (.int .i64 a.stop.fn) := (hca k hlt 4 (by omega)).trans (by rw [← hae]; rfl)
          have d5 : wr.cell? ⟨ba, oa + k * 7 + 5, none⟩ = some (.int .i64 a.stop.line) := (hca k hlt 5 (by omega)).trans (by rw [← hae]; rfl)
          have d6 : wr.cell? ⟨ba, oa + k * 7 + 6, none⟩ = some (.string a.stop.nm) := (hca k hlt 6 (by omega)).trans (by rw [← hae]; rfl)
          have hlow : w.heap.size ≤ wr.heap.size := hB.size
          clear hca he hrow hae hLe hok hB
          go_wp2_with fail
          clear d0 d1 d2 d3 d4 d5 d6
          have hba := bl_alloc (Below.refl _ wr) (.cells #[.int .i64 a.op, .int .i64 a.n, .string a.nm, .int .i64 a.stop.kind, .int .i64 a.stop.fn, .int .i64 a.stop.line, .string a.stop.nm] 47)
          refine (ask_calls w.heap.size l _ _ t L _ _ a _ (HS.out.later hba) w HT.out (bl_then HB.out hba) (Nat.le_refl _) HSM.out HSO.out HOK.out HW0 hpl hza).mono ?_; rintro e w3 ⟨sx, vx, hv3, pv3, rfl, t2, t3, hS3, hm3⟩
          obtain ⟨r, hr⟩ : ∃ r, askRs t L a = r := ⟨_, rfl⟩
          rw [hr] at t2 t3 hS3 ⊢
          obtain ⟨p, hp⟩ : ∃ p, askQs r = p := ⟨_, rfl⟩
          rw [hp] at t2 t3 ⊢
          have HRE := Lib.hid hr
          have HQ9 := Lib.hid hp
          obtain ⟨Asx, csx, rfl, -⟩ := t2.cap
          obtain ⟨Avx, cvx, rfl⟩ := t3.shape
          have hmw : Mv qTys w.heap.size wr w3 := (Mv.of_below hba hlow).trans hm3
          have hszb : wr.heap.size ≤ (wr.alloc (.cells #[.int .i64 a.op, .int .i64 a.n, .string a.nm, .int .i64 a.stop.kind, .int .i64 a.stop.fn, .int .i64 a.stop.line, .string a.stop.nm] 47)).heap.size := by rw [World.size_alloc]; omega
          have HM := Lib.hid hmw
          have HS3 := Lib.hid hS3
          have HSX := Lib.hid (t2.lower hszb)
          have HVX := Lib.hid (t3.lower hszb)
          clear hr hp t2 t3 hS3 hm3 hmw hba hszb
          have HX := Lib.hid (tdF_box w3 p Asx Avx csx cvx)
          have hbx := bl_alloc (Below.refl _ w3) (.cells #[.int .i64 p.place, .int .i64 p.code, .int .i64 p.num, .string p.text, .slice Asx p.stack.length csx, .slice Avx p.vars.length cvx] 38)
          go_upto_region 9 with fail
          have hlw3 : w.heap.size ≤ w3.heap.size := Nat.le_trans hlow HM.out.bl.size
          have hww3 : wr.heap.size ≤ w3.heap.size := HM.out.bl.size
          replace HM := Lib.hid (HM.out.trans (Mv.of_below hbx hlw3))
          replace HS3 := Lib.hid (HS3.out.later hbx); replace HSX := Lib.hid (HSX.out.later hbx); replace HVX := Lib.hid (HVX.out.later hbx); clear hbx
          obtain ⟨X, hXe⟩ : ∃ X, w3.heap.size = X := ⟨_, rfl⟩
          generalize World.alloc w3 _ = W5 at HX HM HS3 HSX HVX ⊢
          rw [hXe] at HX hlw3 hww3 ⊢
          clear hXe
          have z2 : W5.cell? ⟨l, 2, none⟩ = some (.int .i64 r.2.1.place) := HS3.out.blk.cell (j := 2) (by omega)
          have y0 : W5.cell? ⟨X, 0, none⟩ = some (.int .i64 p.place) := HX.out.cell (j := 0) (by omega)
          have y1 : W5.cell? ⟨X, 1, none⟩ = some (.int .i64 p.code) := HX.out.cell (j := 1) (by omega)
          have y2 : W5.cell? ⟨X, 2, none⟩ = some (.int .i64 p.num) := HX.out.cell (j := 2) (by omega)
          have y3 : W5.cell? ⟨X, 3, none⟩ = some (.string p.text) := HX.out.cell (j := 3) (by omega)
          have y4 : W5.cell? ⟨X, 4, none⟩ = some (.slice Asx p.stack.length csx) := HX.out.cell (j := 4) (by omega)
          have y5 : W5.cell? ⟨X, 5, none⟩ = some (.slice Avx p.vars.length cvx) := HX.out.cell (j := 5) (by omega)
          have yf := HX.out.free 0
          go_wp2_with (at_builtin; refine stopped ?_)
          unfold Stopped
          have hmX : Mv [38] X W5 (W5.setCell ⟨X, 0, none⟩ (.int .i64 r.2.1.place)) := (Mv.refl _ _ _).set (p := ⟨X, 0, none⟩) (Nat.le_refl _) HX.out (by simp) _
          have HS6 := Lib.hid (HS3.out.farT HX.out 0 (.int .i64 r.2.1.place))
          have HSX6 := Lib.hid (HSX.out.mv hmX (by decide))
          have HVX6 := Lib.hid (HVX.out.mv hmX (by decide))
          have HM6 := Lib.hid (HM.out.setNew (p := ⟨X, 0, none⟩) hlw3 hww3 (.int .i64 r.2.1.place))
          have hsz9 : (W5.setCell ⟨X, 0, none⟩ (.int .i64 r.2.1.place)).heap.size = W5.heap.size := World.size_setCell _ _ _
          clear HX HS3 HSX HVX HM z2 y0 y1 y2 y3 y4 y5 yf hmX
          generalize World.setCell W5 _ _ = W6 at HS6 HSX6 HVX6 HM6 hsz9 ⊢
          have HT6 := Lib.hid (HTD.out.mv HM6.out (by decide) (by decide) (by decide))
          have hsz6 : wr.heap.size ≤ W6.heap.size := HM6.out.bl.size
          have hbA := bl_alloc (Below.refl _ W6) (.cells #[.int .i64 r.2.1.place, .int .i64 p.code, .int .i64 p.num, .string p.text, .slice Asx p.stack.length csx, .slice Avx p.vars.length cvx] 38)
          have hqs : (lkN t asks k).1.length ≤ 1048576 := by rw [lkN_len]; omega
          refine wpList_plain rfl fun K hK => wp_appendT _ _ _ (by rfl) w.heap.size wr.heap.size _ (lkN t asks k).1 { p with place := r.2.1.place } sv vv9 (.slice Asx p.stack.length csx) (.slice Avx p.vars.length cvx) (by rfl) (HT6.out.later hbA) (HSX6.out.later hbA) (HVX6.out.later hbA) hlow (fun i hi c hc => ((HTD.out.fr i hi).lt c hc).2) (fun i hi c hc => ((HTD.out.vr i hi).bk_lt c hc).2) W5.heap.size 1
            (fun j u hj => by rw [← hsz9]; exact new_at W6 (tdV { p with place := r.2.1.place } (.slice Asx p.stack.length csx) (.slice Avx p.vars.length cvx)) 38 j u hj) (by rfl) (by rw [World.size_alloc]; omega) hqs ?_
          intro g9 cap9 w8 hT8 hg8 hs8
          have hmT : Mv [38] w.heap.size (W6.alloc (.cells #[.int .i64 r.2.1.place, .int .i64 p.code, .int .i64 p.num, .string p.text, .slice Asx p.stack.length csx, .slice Avx p.vars.length cvx] 38)) w8 :=
            (Mv.refl _ _ _).grown (by rw [World.size_alloc]; omega) hg8 (fun b hb => by
              have hrow := (HT6.out.later hbA).row
              obtain ⟨N, F, hB⟩ := hrow.block hb
              exact ⟨(hrow.lt b hb).1, _, N, F, hB, by simp⟩)
          have HT8 := Lib.hid hT8
          have HS8 := Lib.hid ((HS6.out.later hbA).mv hmT (by decide) (by decide) (by decide) (by decide))
          have HB8 := Lib.hid (bl_trans9 HB.out (bl_trans9 HM6.out.bl (bl_trans9 (bl_low9 hbA (by omega)) hmT.bl)))
          refine hK _ _ ?_
          clear hK K hT8 hg8 hs8 hmT hbA HS6 HSX6 HVX6 HM6 HT6
          go_wp2
          go_roundw
          case rel =>
            have e8 : lkN t asks (k + 1) = ((lkN t asks k).1 ++ [{ p with place := r.2.1.place }], r.2.1) := by
              rw [lkN_succ, HLE.out, HAE.out, askP_Rs, HRE.out, HQ9.out]
            refine ⟨k + 1, by omega, by go_num, ?_, ?_, HB8.out⟩
            · rw [e8]
              have h := HT8.out
              simp only [List.length_append, List.length_cons, List.length_nil, Nat.zero_add] at h
              exact ⟨_, _, h⟩
            · rw [e8]; exact ⟨_, _, HS8.out⟩
          case measure => simp [intOf]; omega
        · obtain rfl : k = asks.length := by omega
          go_wp2_with fail
          go_ret
          rw [lookP_eq HSO.out (by omega)]
          exact ⟨_, _, _, rfl, HTD.out, HB.out⟩
end Go.Proofs.YtcklnjjbhngbcaaGreatDoor

namespace Go.Proofs.YtcklnjjbhngbcaaGreatDoor
open Go.RowKit Go.Proofs.Lens Go.ChangeShapes Go.WideShapes

theorem smAs.look {xs : List PAsk} (h : smAs xs) : ∀ i, i < xs.length → (elt xs i).nm.size ≤ 9223372036854775807 := fun i hi => Nat.le_trans (h i hi).1 (by decide)
theorem smAs.undo {xs : List PAsk} (h : smAs xs) (k : Nat) : smAs (xs ++ List.replicate k undoA) := by
  induction k with
  | zero => simpa using h
  | succ k ih => rw [List.replicate_succ', ← List.append_assoc]; exact ih.snoc ⟨Nat.zero_le 1, Nat.zero_le 1⟩

set_option maxRecDepth 100000 in
set_option maxHeartbeats 60000000 in
theorem undo_walk_law (u1 u2 : Value) (code more : List Nat) (w : World) (hr : RdBytes w u1 code) (hr2 : RdBytes w u2 more) (hlaid : ErrLaid w) :
    Calls Tryz.prog 4 #[u1, u2] w fun e w' => e = .returned (.bool true) ∧ Below w.heap.size w w' := by
  have HR := Lib.hid hr
  have HR2 := Lib.hid hr2
  have HER := Lib.hid hlaid
  obtain ⟨A0, c0, rfl, hn0, -⟩ := hr.open'
  obtain ⟨A9, c9, rfl, hn9, -⟩ := hr2.open'
  clear hr hr2 hlaid
  by_cases hbig : 1048576 < code.length
  · have hd : decide ((code.length : Int) > 1048576) = true := by simp; omega
    go_enter Tryz.func4, Tryz.ntmps4
    go_wp2
    go_ret
    exact ⟨rfl, Below.refl _ _⟩
  have hd : decide ((code.length : Int) > 1048576) = false := by simp; omega
  by_cases hbig2 : 1048576 < more.length
  · have hd2 : decide ((more.length : Int) > 1048576) = true := by simp; omega
    go_enter Tryz.func4, Tryz.ntmps4
    go_wp2
    go_ret
    exact ⟨rfl, Below.refl _ _⟩
  have hd2 : decide ((more.length : Int) > 1048576) = false := by simp; omega
  have hcode : code.length ≤ 1048576 := by omega
  have hso := drawnT_sound hcode
  have hn := drawnT_len hcode
  have hsm := sm_sound hso
  have hrd : ∀ (W : World) (gs lo : Nat) (v2 : Value), Blk W gs 9 4 strsF → BMoms W lo v2 (drawnT code).moms → RdTr W (.slice (some ⟨gs, 0, none⟩) 4 4) v2 (drawnT code) := fun W gs lo v2 a b => drawn_rd a b
  have HDC := Lib.hid (drawn_calls _ code w HR.out hcode)
  obtain ⟨t, ht⟩ : ∃ t, drawnT code = t := ⟨_, rfl⟩
  rw [ht] at hso hn hsm hrd HDC
  have HRD := Lib.hid hrd
  have HSM := Lib.hid hsm
  have HSO := Lib.hid hso.is
  obtain ⟨n, hnn⟩ : ∃ n, t.moms.length = n := ⟨_, rfl⟩
  rw [hnn] at hn
  have HNN := Lib.hid hnn
  clear hso hsm hrd ht hnn hbig hbig2
  go_enter Tryz.func4, Tryz.ntmps4
  go_wp2_with fail
  refine HDC.out.mono ?_; rintro e w1 ⟨gs, v2, rfl, hgs, hS, hM, hb⟩
  obtain ⟨A2, c2, rfl, -⟩ := hM.cap
  rw [HNN.out] at hM ⊢
  have HRT := Lib.hid (HRD.out _ _ _ _ hS hM)
  have HB := Lib.hid hb
  clear hS hM hb HDC HRD
  go_upto_region 4 with fail
  have HX := Lib.hid (BoxAt.new w1 [.slice (some ⟨gs, 0, none⟩) 4 4, .slice A2 n c2] 26)
  have HQ := Lib.hid (bl_alloc (Below.refl _ w1) (.cells #[.slice (some ⟨gs, 0, none⟩) 4 4, .slice A2 n c2] 26))
  generalize World.alloc w1 _ = W at HX HQ ⊢
  have hlr : Below w1.heap.size w1 W := HQ.out
  clear HQ
  replace HB := Lib.hid (bl_then HB.out hlr); replace HRT := Lib.hid (HRT.out.later hlr); clear hlr
  have HR3 := Lib.hid (HR2.out.later HB.out)
  obtain ⟨x0, x1⟩ := HX.out.open2
  go_wp2_with fail
  clear x0 x1
  refine (spec_Asks_calls _ A2 n c2 _ more W HR3.out (by omega)).mono ?_; rintro e w2 ⟨xs, ov, rfl, hO, hxl, hsa, hb⟩
  obtain ⟨A3, c3, rfl, -⟩ := hO.cap
  obtain ⟨L, hL⟩ : ∃ L, xs.length = L := ⟨_, rfl⟩
  have HLX := Lib.hid hL
  have HO := Lib.hid hO
  have HSA := Lib.hid hsa
  have HWB := Lib.hid hb
  have hWs := hb.size
  have hxl : L ≤ 23 := by omega
  obtain ⟨m, hm1, hm2, hm3⟩ := undo_end HSO.out (a := xs) (by omega)
  have HLL := Lib.hid (look_len HSO.out (a := xs) (by omega))
  have HM1 := Lib.hid hm1
  have HM3 := Lib.hid hm3
  have hmL : m ≤ L := by omega
  have HRT2 := Lib.hid (HRT.out.later hb)
  have HX2 := Lib.hid (HX.out.later hb)
  clear hO hsa hb hm1 hm2 hm3 HR2 HR3 HR
  rw [hL]
  clear hL
  obtain ⟨x0, x1⟩ := HX2.out.open2
  go_wp2_with fail
  clear x0 x1
  refine (spec_Look_calls _ _ _ t xs _ HRT2.out HSM.out (by have h := HO.out.rd; rw [HLX.out] at h; unfold RdAsks; rw [HLX.out]; exact h) HSA.out.look).mono ?_; rintro e w3 ⟨u0, sv0, vv0, rfl, hT0, hb⟩
  have HT0 := Lib.hid hT0
  replace HO := Lib.hid (HO.out.later hb)
  replace HWB := Lib.hid (bl_then HWB.out hb)
  have hl0 : (lookP t xs).length = L := by rw [HLL.out, HLX.out]
  have HL0 := Lib.hid hl0
  obtain ⟨A5, c5, rfl, -⟩ := hT0.row.cap
  rw [hl0]
  clear hT0 hb HRT2 HX2 hl0
  go_wp2_with fail
  go_loopw [7, 31] (fun s7 i wr => ∃ q : Nat, q ≤ L ∧ i = .int .i64 q ∧ s7 = .int .i64 (mvN t xs q) ∧ Below w3.heap.size w3 wr) (fun _ i _ => L - (intOf i).toNat)
  case atStart => exact ⟨0, Nat.zero_le _, rfl, rfl, Below.refl _ _⟩
  case round =>
    obtain ⟨q, hq, rfl, rfl, hb⟩ := hrel
    have HB3 := Lib.hid hb
    have hrg := mvN_rng t xs q
    by_cases hlt : q < L
    · obtain ⟨A', c', he, _, hrow⟩ := (HT0.out.row.later hb).rd
      rw [HL0.out] at he hrow
      cases he
      obtain ⟨b5, o5, rfl, hc5⟩ := hrow (by omega)
      obtain ⟨A', c', he, _, hrowa⟩ := (HO.out.later hb).rd
      rw [HLX.out] at he hrowa
      cases he
      obtain ⟨b3, o3, rfl, hc3⟩ := hrowa (by omega)
      obtain ⟨As, cs, hsv, -⟩ := (HT0.out.fr q (by rw [HL0.out]; exact hlt)).cap
      obtain ⟨Av, cv, hvv⟩ := (HT0.out.vr q (by rw [HL0.out]; exact hlt)).shape
      have d0 : wr.cell? ⟨b5, o5 + q * 6, none⟩ = some (.int .i64 (elt (lookP t xs) q).place) := hc5 q hlt 0 (by omega)
      have d1 : wr.cell? ⟨b5, o5 + q * 6 + 1, none⟩ = some (.int .i64 (elt (lookP t xs) q).code) := hc5 q hlt 1 (by omega)
      have d2 : wr.cell? ⟨b5, o5 + q * 6 + 2, none⟩ = some (.int .i64 (elt (lookP t xs) q).num) := hc5 q hlt 2 (by omega)
      have d3 : wr.cell? ⟨b5, o5 + q * 6 + 3, none⟩ = some (.string (elt (lookP t xs) q).text) := hc5 q hlt 3 (by omega)
      have d4 : wr.cell? ⟨b5, o5 + q * 6 + 4, none⟩ = some (.slice As (elt (lookP t xs) q).stack.length cs) := (hc5 q hlt 4 (by omega)).trans (by show some (sv0 q) = _; rw [hsv])
      have d5 : wr.cell? ⟨b5, o5 + q * 6 + 5, none⟩ = some (.slice Av (elt (lookP t xs) q).vars.length cv) := (hc5 q hlt 5 (by omega)).trans (by show some (vv0 q) = _; rw [hvv])
      have e0 : wr.cell? ⟨b3, o3 + q * 7, none⟩ = some (.int .i64 (elt xs q).op) := hc3 q hlt 0 (by omega)
      have hs1 : mvN t xs (q + 1) = mvN t xs q + mvD (elt xs q).op (elt (lookP t xs) q).code := rfl
      have hqI : (q : Int) < (L : Int) := by omega
      clear hrow hrowa hc5 hc3 hsv hvv hb
      generalize mvN t xs q = y at hrg hs1 ⊢
      generalize (elt (lookP t xs) q).place = p0 at d0
      generalize (elt (lookP t xs) q).code = cd at d1 hs1
      generalize (elt (lookP t xs) q).num = p2 at d2
      generalize (elt (lookP t xs) q).text = p3 at d3
      generalize (elt (lookP t xs) q).stack.length = p4 at d4
      generalize (elt (lookP t xs) q).vars.length = p5 at d5
      generalize (elt xs q).op = op at e0 hs1
      have HS1 := Lib.hid hs1
      clear hs1
      go_upto_region 9 with fail
      have hbl : Below wr.heap.size wr (wr.alloc (.cells #[.int .i64 p0, .int .i64 cd, .int .i64 p2, .string p3, .slice As p4 cs, .slice Av p5 cv] 38)) := bl_alloc (Below.refl _ _) _
      have HBX := Lib.hid (Blk.made wr #[.int .i64 p0, .int .i64 cd, .int .i64 p2, .string p3, .slice As p4 cs, .slice Av p5 cv] 38)
      clear d0 d1 d2 d3 d4 d5
      generalize World.alloc wr _ = W10 at HBX hbl ⊢
      replace e0 := cell_later hbl e0
      replace HB3 := Lib.hid (bl_then HB3.out hbl)
      have z1 : W10.cell? ⟨wr.heap.size, 1, none⟩ = some (.int .i64 cd) := HBX.out.cell (j := 1) (by simp)
      clear HBX hbl
      by_cases hcd : cd = 0
      · subst hcd
        by_cases hA : 3 ≤ op ∧ op ≤ 7
        · have HF : Hid (mvN t xs (q + 1) = y + 1) := Lib.hid (by rw [HS1.out, mvD_go (.inl hA)])
          have k3 : decide (op ≥ 3) = true := by simp; omega
          have k7 : decide (op ≤ 7) = true := by simp; omega
          have k8 : (op == 8) = false := by rw [beq_eq_false_iff_ne]; omega
          clear hA HS1
          go_wp2
          go_roundw
          case rel => exact ⟨q + 1, by omega, by go_num, by rw [HF.out], HB3.out⟩
          case measure => simp [intOf]; omega
        by_cases hB : op = 9
        · subst hB
          have HF : Hid (mvN t xs (q + 1) = y + 1) := Lib.hid (by rw [HS1.out, mvD_go (.inr rfl)])
          clear hA HS1
          go_wp2
          go_roundw
          case rel => exact ⟨q + 1, by omega, by go_num, by rw [HF.out], HB3.out⟩
          case measure => simp [intOf]; omega
        by_cases hC : op = 8
        · subst hC
          have HF : Hid (mvN t xs (q + 1) = y - 1) := Lib.hid (by rw [HS1.out, mvD_undo]; omega)
          clear hA hB HS1
          go_wp2
          go_roundw
          case rel => exact ⟨q + 1, by omega, by go_num, by rw [HF.out], HB3.out⟩
          case measure => simp [intOf]; omega
        have HF : Hid (mvN t xs (q + 1) = y) := Lib.hid (by rw [HS1.out, mvD_else (by omega) hC]; omega)
        have k8 : (op == 8) = false := by rw [beq_eq_false_iff_ne]; omega
        have k9 : (op == 9) = false := by rw [beq_eq_false_iff_ne]; omega
        clear HS1
        by_cases hD : op < 3
        · have k3 : decide (op ≥ 3) = false := by simp; omega
          clear hA hB hC
          go_wp2
          go_roundw
          case rel => exact ⟨q + 1, by omega, by go_num, by rw [HF.out], HB3.out⟩
          case measure => simp [intOf]; omega
        · have k3 : decide (op ≥ 3) = true := by simp; omega
          have k7 : decide (op ≤ 7) = false := by simp; omega
          clear hA hB hC hD
          go_wp2
          go_roundw
          case rel => exact ⟨q + 1, by omega, by go_num, by rw [HF.out], HB3.out⟩
          case measure => simp [intOf]; omega
      · have HF : Hid (mvN t xs (q + 1) = y) := Lib.hid (by rw [HS1.out, mvD_skip hcd]; omega)
        have k0 : (cd != 0) = true := by simp [hcd]
        clear HS1 hcd
        go_wp2
        go_roundw
        case rel => exact ⟨q + 1, by omega, by go_num, by rw [HF.out], HB3.out⟩
        case measure => simp [intOf]; omega
    · obtain rfl : q = L := by omega
      have hmq : mvN t xs q = (m : Int) := by rw [← HM1.out, HLX.out]
      rw [hmq]
      replace HO := Lib.hid (HO.out.later hb)
      replace HWB := Lib.hid (bl_then HWB.out hb)
      clear hb HB3 hrg hq hlt hmq HT0 HL0
      have hws2 := HWB.out.size
      go_wp2_with fail
      go_loopw [6, 11] (fun s6 i wy => ∃ k : Nat, k ≤ m + 1 ∧ i = .int .i64 k ∧ OwR wy W.heap.size 47 7 (q + k) (askC (xs ++ List.replicate k undoA)) s6 ∧ Below W.heap.size W wy) (fun _ i _ => m + 1 - (intOf i).toNat)
      case atStart => exact ⟨0, by omega, rfl, by have h := HO.out; rw [HLX.out] at h; simpa using h, HWB.out⟩
      case round =>
        obtain ⟨k, hk, rfl, hO, hb⟩ := hrel
        clear HO HWB
        have HO := Lib.hid hO
        have HWB := Lib.hid hb
        have hsz := hb.size
        obtain ⟨A6, c6, rfl, -⟩ := hO.cap
        clear hO hb
        by_cases hkm : k < m + 1
        · have hdk : decide ((k : Int) ≤ (m : Int)) = true := by simp; omega
          have hlen : (xs ++ List.replicate k undoA).length = q + k := by rw [List.length_append, List.length_replicate, HLX.out]
          have HLN := Lib.hid hlen
          have HRP : Hid (xs ++ List.replicate k undoA ++ [undoA] = xs ++ List.replicate (k + 1) undoA) := Lib.hid (by rw [List.replicate_succ', List.append_assoc])
          clear hlen
          obtain ⟨qk, hqk⟩ : ∃ x, q + k = x := ⟨_, rfl⟩
          rw [hqk] at HO HLN ⊢
          have HQK := Lib.hid hqk
          have hqk2 : qk ≤ 100 := by omega
          clear hqk
          go_wp2_with (at_builtin; refine stopped ?_)
          unfold Stopped
          refine wpList_append1 _ (by rfl) _ _ 28 (by rfl) W.heap.size 47 _ 7 72 Tryz.underlying28 i_ask9 rfl (by omega) _ qk _ (askC (xs ++ List.replicate k undoA ++ [undoA])) (by rfl) HO.out [.int .i64 8, .int .i64 0, .string ⟨#[]⟩, .int .i64 0, .int .i64 0, .int .i64 0, .string ⟨#[]⟩] rfl (by simp [Value.oneCell']) (by rfl) (fun i hi j _ => akC_old _ undoA (by rw [HLN.out]; exact hi) j) (fun j hj => by rw [← HLN.out]; exact akC_new _ undoA hj) hsz (by omega) (by omega) ?_
          intro ga cap w9 hO9 hG9 _ _
          rw [HRP.out] at hO9
          have HB9 := Lib.hid (bl_own HWB.out hsz HO.out hG9)
          have HO9 := Lib.hid hO9
          clear hO9 hG9 HO HWB
          go_wp2
          go_roundw
          case rel => exact ⟨k + 1, by omega, by go_num, by rw [show q + (k + 1) = qk + 1 by have := HQK.out; omega]; exact HO9.out, HB9.out⟩
          case measure => simp [intOf]; omega
        · obtain rfl : k = m + 1 := by omega
          have hdk : decide ((((m + 1 : Nat) : Int)) ≤ (m : Int)) = false := by simp; omega
          have HRr := Lib.hid (HRT.out.later HWB.out)
          have HXr := Lib.hid (HX.out.later HWB.out)
          have HBB := Lib.hid (bl_then HB.out HWB.out)
          have HER1 := Lib.hid (HER.out.later HBB.out)
          have hRA : RdAsks wr (.slice A6 (q + (m + 1)) c6) (xs ++ List.replicate (m + 1) undoA) := by
            have h := HO.out.rd
            unfold RdAsks
            rw [List.length_append, List.length_replicate, HLX.out]
            exact h
          have HRA := Lib.hid hRA
          obtain ⟨K, hK⟩ : ∃ x, q + (m + 1) = x := ⟨_, rfl⟩
          have h3 := HM3.out
          rw [HLX.out, hK] at h3
          rw [hK] at HRA ⊢
          have HN3 := Lib.hid h3
          have hKm : K = q + (m + 1) := hK.symm
          have HSU := Lib.hid (HSA.out.undo (m + 1)).look
          clear hRA hK h3 HM3 HO hk hkm
          obtain ⟨x0, x1⟩ := HXr.out.open2
          go_wp2_with fail
          clear x0 x1
          rw [← hKm]
          refine (impl_Look_calls _ _ _ t _ _ HRr.out HSM.out HRA.out HSU.out HER1.out).mono ?_; rintro e w5 ⟨u5, sv5, vv5, rfl, hT5, hb⟩
          obtain ⟨A7, c7, rfl, -⟩ := hT5.row.cap
          obtain ⟨A', c', he, _, hrow⟩ := hT5.row.rd
          rw [HN3.out.1] at he hrow ⊢
          cases he
          obtain ⟨b7, o7, rfl, hc7⟩ := hrow (by omega)
          have HBB2 := Lib.hid (bl_then HBB.out hb)
          obtain ⟨j, hj⟩ : ∃ j, q + m = j := ⟨_, rfl⟩
          have hjK : j < K := by omega
          have hKb : K ≤ 100 := by omega
          have d0 : w5.cell? ⟨b7, o7 + j * 6, none⟩ = some (.int .i64 (-1)) := (hc7 j hjK 0 (by omega)).trans (by show some (Value.int .i64 (elt (lookP t (xs ++ List.replicate (m + 1) undoA)) j).place) = _; rw [← hj, HN3.out.2.2.1])
          have d1 : w5.cell? ⟨b7, o7 + j * 6 + 1, none⟩ = some (.int .i64 4) := (hc7 j hjK 1 (by omega)).trans (by show some (Value.int .i64 (elt (lookP t (xs ++ List.replicate (m + 1) undoA)) j).code) = _; rw [← hj, HN3.out.2.1])
          have hj1 : (K : Int) - 1 = (j : Int) := by omega
          have hjI : (j : Int) < (K : Int) := by omega
          have hne : ((K : Int) != (K : Int)) = false := by simp
          by_cases hm0 : 0 < m
          · have hdm : decide ((m : Int) > 0) = true := by simp; omega
            obtain ⟨i2, hi2⟩ : ∃ i2, q + m - 1 = i2 := ⟨_, rfl⟩
            have hi2K : i2 < K := by omega
            have g0 : w5.cell? ⟨b7, o7 + i2 * 6, none⟩ = some (.int .i64 (-1)) := (hc7 i2 hi2K 0 (by omega)).trans (by show some (Value.int .i64 (elt (lookP t (xs ++ List.replicate (m + 1) undoA)) i2).place) = _; rw [← hi2, (HN3.out.2.2.2 hm0).2])
            have g1 : w5.cell? ⟨b7, o7 + i2 * 6 + 1, none⟩ = some (.int .i64 0) := (hc7 i2 hi2K 1 (by omega)).trans (by show some (Value.int .i64 (elt (lookP t (xs ++ List.replicate (m + 1) undoA)) i2).code) = _; rw [← hi2, (HN3.out.2.2.2 hm0).1])
            have hi21 : (K : Int) - 2 = (i2 : Int) := by omega
            have hi2I : (i2 : Int) < (K : Int) := by omega
            clear hrow hc7 hT5 hb HN3 hKm hj hi2
            go_wp2
            go_ret
            exact ⟨rfl, HBB2.out⟩
          · have hdm : decide ((m : Int) > 0) = false := by simp; omega
            clear hrow hc7 hT5 hb HN3 hKm hj
            go_wp2
            go_ret
            exact ⟨rfl, HBB2.out⟩

set_option maxRecDepth 100000 in
theorem undo_walk (H : Type) (enc : TypeId × Value → H) (W : World) (base : Nat) (args : Array Value) (ds : List (DataW H)) (ps : List MemPlace)
    (hval : ∀ (j : Nat) t v, Tryz.f4.params[j]? = some t → args[j]? = some v → Value.okWide Tryz.prog W .any base t v)
    (h : DataW.TrodAll enc Tryz.prog W 0 (fun _ => true) true Tryz.f4.params.toList args.toList ds ps) (hlaid : ErrLaid W) :
    Calls Tryz.prog 4 args W fun e W' => e = .returned (.bool true) ∧ Below W.heap.size W W' := by
  rw [Tryz.params4] at h hval
  obtain ⟨v0, u0, d0, d1, p0, p1, ha, _, _, h0, h1⟩ := trodAll_two h
  have ha' : args = #[v0, u0] := by simpa using ha
  subst ha'
  obtain ⟨code, hr⟩ := rd_bytes (hval 0 _ _ rfl rfl) h0
  obtain ⟨more, hr2⟩ := rd_bytes (hval 1 _ _ rfl rfl) h1
  exact undo_walk_law v0 u0 code more W hr hr2 hlaid
end Go.Proofs.YtcklnjjbhngbcaaGreatDoor
