/- Merged out of T15, T16, T17, T18. -/
import Derived.Test.YtcklnjjbhngbcaaT8
import Derived.Test.YtcklnjjbhngbcaaB5
import Derived.Test.YtcklnjjbhngbcaaF0
import Derived.Test.YtcklnjjbhngbcaaP5
import Derived.Test.YtcklnjjbhngbcaaL9
import Derived.Deep.RegionHeld3
import Derived.Test.YtcklnjjbhngbcaaI9M
namespace Go.Proofs.Ytcklnjjbhngbcaa
open Go.RowKit Go.Proofs.Lens
set_option linter.unusedSimpArgs false

theorem valP_at {vs : List PVar} {nm : ByteArray} {q : Nat} (hq : q < vs.length) : valP (vs.take (q + 1)) nm = if (elt vs q).nm = nm then some (elt vs q).tx else valP (vs.take q) nm := by
  rw [take_snoc hq, valP_snoc]
set_option maxRecDepth 100000 in
set_option maxHeartbeats 2000000 in
theorem l3value_calls (v : Value) (vs : List PVar) (nm : ByteArray) (w : World) (h : RdVars w v vs) :
    Calls Try.prog 158 #[v, .string nm] w fun e w' => e = .returned (.tuple #[.string ((valP vs nm).getD ⟨#[]⟩), .bool (valP vs nm).isSome]) ∧ Below w.heap.size w w' := by
  obtain ⟨A, c, rfl, hn, hrow⟩ := h
  have HR := Lib.hid hrow
  clear hrow
  go_enter Try.func158, Try.ntmps158
  go_wp2_with fail
  go_loopw [6, 7, 12] (fun ov mv i wr => ∃ q : Nat, q ≤ vs.length ∧ i = .int .i64 q ∧ ov = .string ((valP (vs.take q) nm).getD ⟨#[]⟩) ∧ mv = .bool (valP (vs.take q) nm).isSome ∧ Below w.heap.size w wr) (fun _ _ i _ => vs.length - (intOf i).toNat)
  case atStart => exact ⟨0, Nat.zero_le _, rfl, rfl, rfl, Below.refl _ _⟩
  case round =>
    obtain ⟨q, hq, rfl, rfl, rfl, hb⟩ := hrel
    have HB := Lib.hid hb
    clear hb
    by_cases hlt : q < vs.length
    · obtain ⟨b, o, rfl, hc⟩ := HR.out.later HB.out (by omega)
      have x0 : wr.cell? ⟨b, o + q * 2, none⟩ = some (.string (elt vs q).nm) := hc q hlt 0 (by omega)
      have x1 : wr.cell? ⟨b, o + q * 2 + 1, none⟩ = some (.string (elt vs q).tx) := hc q hlt 1 (by omega)
      have HV := Lib.hid (valP_at (nm := nm) hlt)
      obtain ⟨b1, hb1⟩ : ∃ b1, ((elt vs q).nm.toList == nm.toList) = b1 := ⟨_, rfl⟩
      have HQ := Lib.hid hb1
      clear hc
      cases b1 with
      | true =>
        have he : Hid ((elt vs q).nm = nm) := Lib.hid (by have := HQ.out; rw [ba_beq] at this; simpa using this)
        go_wp2
        go_roundw
        case rel => exact ⟨q + 1, by omega, by go_num, by rw [HV.out, if_pos he.out]; rfl, by rw [HV.out, if_pos he.out]; rfl, bl_alloc HB.out _⟩
        case measure => simp [intOf]; omega
      | false =>
        have he : Hid (¬ (elt vs q).nm = nm) := Lib.hid (by have := HQ.out; rw [ba_beq] at this; simpa using this)
        go_wp2
        go_roundw
        case rel => exact ⟨q + 1, by omega, by go_num, by rw [HV.out, if_neg he.out], by rw [HV.out, if_neg he.out], bl_alloc HB.out _⟩
        case measure => simp [intOf]; omega
    · obtain rfl : q = vs.length := by omega
      have HT : Hid (vs.take vs.length = vs) := Lib.hid List.take_length
      go_wp2
      go_ret2
      exact ⟨by rw [HT.out]; rfl, HB.out⟩
theorem i_owner : (Try.prog.info? 193).map (fun i => (i.zero, i.size, i.bytes)) = some (some (.agg #[.bool false, .int .i64 0, .int .i64 0, .int .i64 0, .int .i64 0]), 5, 40) := by kernel_rfl
def ownF (ms : List PMom) (i : Nat) : PFr := match (shownS ms i).top with | [] => ⟨0, 0, 0⟩ | f :: _ => f
def ownC (ms : List PMom) (i j : Nat) : Value := match j with | 0 => .bool (!(shownS ms i).top.isEmpty) | 1 => .int .i64 (shownS ms i).cur | 2 => .int .i64 (ownF ms i).fn | 3 => .int .i64 (ownF ms i).line | _ => .int .i64 (ownF ms i).frm
theorem own_nil {ms : List PMom} {n : Nat} (h : (shownS ms n).top = []) : ∀ j, j < 5 → [Value.bool false, .int .i64 (shownS ms n).cur, .int .i64 0, .int .i64 0, .int .i64 0][j]? = some (ownC ms n j) := by
  intro j hj
  have e : ownF ms n = ⟨0, 0, 0⟩ := by unfold ownF; rw [h]
  match j, hj with
  | 0, _ => simp [ownC, h]
  | 1, _ => simp [ownC]
  | 2, _ => simp [ownC, e]
  | 3, _ => simp [ownC, e]
  | 4, _ => simp [ownC, e]
theorem own_cons {ms : List PMom} {n : Nat} {fr : PFr} {r : List PFr} (h : (shownS ms n).top = fr :: r) : ∀ j, j < 5 → [Value.bool true, .int .i64 (shownS ms n).cur, .int .i64 fr.fn, .int .i64 fr.line, .int .i64 fr.frm][j]? = some (ownC ms n j) := by
  intro j hj
  have e : ownF ms n = fr := by unfold ownF; rw [h]
  match j, hj with
  | 0, _ => simp [ownC, h]
  | 1, _ => simp [ownC]
  | 2, _ => simp [ownC, e]
  | 3, _ => simp [ownC, e]
  | 4, _ => simp [ownC, e]
def owTys : List TypeId := 193 :: sTys
theorem shownS_inv {t : PTr} (h : Sound t) {n : Nat} (hn : n < t.moms.length) : 0 ≤ (shownS t.moms n).cur ∧ (shownS t.moms n).cur ≤ 100 := by
  unfold shownS
  split
  · exact ⟨(h.inv n (by omega)).lo, (h.inv n (by omega)).hi⟩
  · exact ⟨(h.inv (n + 1) (by omega)).lo, (h.inv (n + 1) (by omega)).hi⟩
set_option maxRecDepth 100000 in
set_option maxHeartbeats 8000000 in
theorem l3owners_calls (v1 v2 : Value) (t : PTr) (w : World) (h : RdTr w v1 v2 t) (hsm : smTr t) (hs : soundP t = true) :
    Calls Try.prog 147 #[.agg #[v1, v2]] w (OwRet w 193 5 t.moms.length (ownC t.moms)) := by
  have HT := Lib.hid h
  have HS := Lib.hid hsm
  obtain ⟨⟨A1, c1, rfl, hn1, -⟩, ⟨vv, ⟨A2, c2, rfl, hn2, -⟩, -⟩⟩ := h
  have hso := sound_iff hs
  obtain ⟨nf0, nf1, nm1⟩ := sound_fns hso
  have SO := Lib.hid hso
  clear hs hsm hso
  go_enter Try.func147, Try.ntmps147
  go_wp2_with fail
  refine (l1begin_calls _).mono ?_; rintro e w2 ⟨g, T, f, rfl, hS, hb⟩
  have HX := Lib.hid ((Blk.made w #[.slice A1 t.fns.length c1, .slice A2 t.moms.length c2] 35).later hb)
  have HSS := Lib.hid (hS.lower (lo' := w.heap.size) (by simp))
  have HM := Lib.hid (Mv.then (ts := owTys) ((Mv.refl _ _ w).alloc (Nat.le_refl _) _) (by simp) hb)
  clear hS hb
  have x1 : w2.cell? ⟨w.heap.size, 1, none⟩ = some (.slice A2 t.moms.length c2) := HX.out.cell (j := 1) (by simp)
  go_wp2_with fail
  clear x1
  go_loopw [3, 12] (fun ov i wr => ∃ (n : Nat) (f : Nat → Value), n ≤ t.moms.length ∧ i = .int .i64 n ∧ IsS wr w.heap.size g T (stN t.moms n) f ∧ OwR wr w.heap.size 193 5 n (ownC t.moms) ov ∧ Mv owTys w.heap.size w wr ∧
    Blk wr w.heap.size 35 2 (fun j => #[Value.slice A1 t.fns.length c1, .slice A2 t.moms.length c2].getD j undef)) (fun _ i _ => t.moms.length - (intOf i).toNat)
  case atStart => exact ⟨0, f, Nat.zero_le _, rfl, HSS.out, OwR.nil, HM.out, HX.out⟩
  case round =>
    obtain ⟨n, f, hn, rfl, hS, hO, hM, hX⟩ := hrel
    clear HSS HM HX
    obtain ⟨A3, c3, rfl, -⟩ := hO.cap
    have HSS := Lib.hid hS
    have HO := Lib.hid hO
    have HM := Lib.hid hM
    have HX := Lib.hid hX
    clear hS hO hM hX
    by_cases h2 : n < t.moms.length
    · obtain ⟨b, o, vk, hA, d0, d1, d2, d3, d4, d5, hvk⟩ := rd_moment (HT.out.2.later HM.out.bl) h2
      obtain ⟨Av, cv, rfl, -⟩ := hvk
      subst hA
      have hlo := HM.out.size
      go_upto_region 6 with fail
      have HMB : Hid (Blk (wr.alloc _) wr.heap.size 38 6 _) := Lib.hid (Blk.made wr #[.int .i64 (elt t.moms n).kind, .int .i64 (elt t.moms n).task, .int .i64 (elt t.moms n).fn, .int .i64 (elt t.moms n).line, .string (elt t.moms n).text, .slice Av (elt t.moms n).vars.length cv] 38)
      generalize hW2 : World.alloc wr _ = W2 at HMB ⊢
      have hbl : Below wr.heap.size wr W2 := by rw [← hW2]; exact bl_alloc (Below.refl _ _) _
      have hmb : w.heap.size < wr.heap.size := HX.out.lt
      clear hW2 d0 d1 d2 d3 d4 d5
      have HI := Lib.hid (SO.out.inv n hn)
      replace HM := Lib.hid (HM.out.then HM.out.size hbl)
      replace HX := Lib.hid (HX.out.later hbl)
      replace HO := Lib.hid (HO.out.later hbl)
      replace HSS := Lib.hid (HSS.out.later hbl)
      clear hbl
      obtain ⟨q0, q1⟩ := shownS_inv SO.out h2
      have y0 : W2.cell? ⟨wr.heap.size, 0, none⟩ = some (.int .i64 (elt t.moms n).kind) := HMB.out.cell (j := 0) (by simp)
      by_cases k3 : (elt t.moms n).kind = 3
      · have hd1 : ((elt t.moms n).kind != 3) = false := by simp [k3]
        have hd2 : ((elt t.moms n).kind == 3) = true := by simp [k3]
        have HK := Lib.hid k3
        have hss : shownS t.moms n = stN t.moms n := by unfold shownS; rw [if_pos k3]
        rw [← hss] at HSS
        clear hss
        clear k3
        have c0 : W2.cell? ⟨g, 1, none⟩ = some (.int .i64 (shownS t.moms n).cur) := HSS.out.blk.cell (j := 1) (by omega)
        have hbb : wr.heap.size < W2.heap.size := HMB.out.lt
        have HOLT : Hid (∀ b', (Value.slice A3 n c3).ownBlock = some b' → b' < W2.heap.size) := Lib.hid (fun b' hb' => (HO.out.lt b' hb').2)
        go_upto_region 9 with fail
        have HOB : Hid (Blk (W2.alloc _) W2.heap.size 193 5 _) := Lib.hid (Blk.made W2 #[.bool false, .int .i64 (shownS t.moms n).cur, .int .i64 0, .int .i64 0, .int .i64 0] 193)
        generalize hW5 : World.alloc W2 _ = W5 at HOB ⊢
        have hbl : Below W2.heap.size W2 W5 := by rw [← hW5]; exact bl_alloc (Below.refl _ _) _
        have hlo5 := HM.out.size
        clear hW5 c0 y0
        replace HM := Lib.hid (HM.out.then HM.out.size hbl)
        replace HX := Lib.hid (HX.out.later hbl)
        replace HO := Lib.hid (HO.out.later hbl)
        replace HSS := Lib.hid (HSS.out.later hbl)
        replace HMB := Lib.hid (HMB.out.later hbl)
        clear hbl
        go_wp2_with fail
        cases hL : (shownS t.moms n).top with
        | nil =>
          have HL := Lib.hid hL
          clear hL
          refine (top_nil _ g T _ _ _ HSS.out q0 q1 HL.out).mono ?_; rintro e w6 ⟨rfl, m', rfl⟩
          generalize hW6 : World.drewN W5 m' = w6
          have hbl : Below W5.heap.size W5 w6 := by rw [← hW6]; exact bl_drewN (Below.refl _ _) _
          have hlo6 := HM.out.size
          clear hW6
          replace HM := Lib.hid (HM.out.then HM.out.size hbl)
          replace HX := Lib.hid (HX.out.later hbl)
          replace HO := Lib.hid (HO.out.later hbl)
          replace HSS := Lib.hid (HSS.out.later hbl)
          replace HMB := Lib.hid (HMB.out.later hbl)
          replace HOB := Lib.hid (HOB.out.later hbl)
          clear hbl
          have o0 : w6.cell? ⟨W2.heap.size, 0, none⟩ = some (.bool false) := HOB.out.cell (j := 0) (by simp)
          have o1 : w6.cell? ⟨W2.heap.size, 1, none⟩ = some (.int .i64 (shownS t.moms n).cur) := HOB.out.cell (j := 1) (by simp)
          have o2 : w6.cell? ⟨W2.heap.size, 2, none⟩ = some (.int .i64 0) := HOB.out.cell (j := 2) (by simp)
          have o3 : w6.cell? ⟨W2.heap.size, 3, none⟩ = some (.int .i64 0) := HOB.out.cell (j := 3) (by simp)
          have o4 : w6.cell? ⟨W2.heap.size, 4, none⟩ = some (.int .i64 0) := HOB.out.cell (j := 4) (by simp)
          have hsl := HM.out.size
          go_wp2_with (at_builtin; refine stopped ?_)
          unfold Stopped
          refine wpList_append1 _ (by rfl) _ _ 178 (by rfl) w.heap.size 193 _ 5 40 Try.underlying178 i_owner rfl (by omega) _ n _ (ownC t.moms) (by rfl) HO.out [.bool false, .int .i64 (shownS t.moms n).cur, .int .i64 0, .int .i64 0, .int .i64 0] rfl (by simp [Value.oneCell']) (by rfl) (fun _ _ _ _ => rfl) ?hNa hsl (by omega) (by omega) ?_
          case hNa =>
            exact own_nil HL.out
          intro ga cg w8 hO8 hG8 _ _
          have hmv8 : Mv [193] w.heap.size w6 w8 := (Mv.refl _ _ _).grown HM.out.size hG8 (fun b hb => by obtain ⟨N, F, hBk⟩ := HO.out.block hb; exact ⟨(HO.out.lt b hb).1, _, N, F, hBk, by decide⟩)
          replace HX := Lib.hid (HX.out.mv hmv8 (by decide))
          replace HSS := Lib.hid (HSS.out.mv hmv8 (by decide) (by decide) (by decide))
          replace HMB := Lib.hid (HMB.out.mv hmv8 (by decide))
          replace HM := Lib.hid (HM.out.trans (hmv8.mono (by decide)))
          clear HO hmv8 hG8 hsl
          have HO := Lib.hid hO8
          clear hO8
          have y0 : w8.cell? ⟨wr.heap.size, 0, none⟩ = some (.int .i64 (elt t.moms n).kind) := HMB.out.cell (j := 0) (by simp)
          have y1 : w8.cell? ⟨wr.heap.size, 1, none⟩ = some (.int .i64 (elt t.moms n).task) := HMB.out.cell (j := 1) (by simp)
          have y2 : w8.cell? ⟨wr.heap.size, 2, none⟩ = some (.int .i64 (elt t.moms n).fn) := HMB.out.cell (j := 2) (by simp)
          have y3 : w8.cell? ⟨wr.heap.size, 3, none⟩ = some (.int .i64 (elt t.moms n).line) := HMB.out.cell (j := 3) (by simp)
          have y4 : w8.cell? ⟨wr.heap.size, 4, none⟩ = some (.string (elt t.moms n).text) := HMB.out.cell (j := 4) (by simp)
          have y5 : w8.cell? ⟨wr.heap.size, 5, none⟩ = some (.slice Av (elt t.moms n).vars.length cv) := HMB.out.cell (j := 5) (by simp)
          have hss : shownS t.moms n = stN t.moms n := by unfold shownS; rw [if_pos HK.out]
          rw [hss] at HSS
          clear hss
          go_wp2_with fail
          refine (move_calls _ g T _ _ (elt t.moms n) _ _ _ n n _ HSS.out HI.out).mono ?_
          rintro e w10 ⟨rfl, hmv, hst⟩
          obtain ⟨f', hS'⟩ := hst (SO.out.moves n h2)
          replace hS' : IsS w10 w.heap.size g T (stN t.moms (n + 1)) f' := hS'
          replace HX := Lib.hid (HX.out.mv hmv (by decide))
          replace HO := Lib.hid (HO.out.mv hmv (by decide))
          replace HM := Lib.hid (HM.out.trans (hmv.mono (by decide)))
          clear HSS hmv hst
          have HSS := Lib.hid hS'
          clear hS' y0 y1 y2 y3 y4 y5
          go_wp2
          go_roundw
          case rel => exact ⟨n + 1, f', by omega, by go_num, HSS.out, HO.out, HM.out, HX.out⟩
          case measure => simp [intOf]; omega
        | cons fr r =>
          have HL := Lib.hid hL
          clear hL
          refine (top_cons _ g T _ _ _ HSS.out q0 q1 HL.out).mono ?_; rintro e w6 ⟨rfl, m', rfl⟩
          generalize hW6 : World.drewN W5 m' = w6
          have hbl : Below W5.heap.size W5 w6 := by rw [← hW6]; exact bl_drewN (Below.refl _ _) _
          have hlo6 := HM.out.size
          clear hW6
          replace HM := Lib.hid (HM.out.then HM.out.size hbl)
          replace HX := Lib.hid (HX.out.later hbl)
          replace HO := Lib.hid (HO.out.later hbl)
          replace HSS := Lib.hid (HSS.out.later hbl)
          replace HMB := Lib.hid (HMB.out.later hbl)
          replace HOB := Lib.hid (HOB.out.later hbl)
          clear hbl
          have hi0 : (0 : Int) ≤ (r.length : Int) := by omega
          have o0 : w6.cell? ⟨W2.heap.size, 0, none⟩ = some (.bool false) := HOB.out.cell (j := 0) (by simp)
          have z0 := HOB.out.free 0
          go_upto_region 11 with fail
          generalize hW7 : World.setCell w6 _ _ = w7
          have hset : Mv [193] w.heap.size w6 w7 := by rw [← hW7]; exact (Mv.refl _ _ _).set (by dsimp only; omega) HOB.out (by decide) _
          replace HOB : Hid (Blk w7 W2.heap.size 193 5 _) := Lib.hid (by rw [← hW7]; exact HOB.out.set (j := 0) (by simp) (.bool true))
          replace HO : Hid (OwR w7 w.heap.size 193 5 n (ownC t.moms) (.slice A3 n c3)) := Lib.hid (by rw [← hW7]; exact HO.out.far (p := ⟨W2.heap.size, 0, none⟩) (fun hh => by have := HOLT.out _ hh; dsimp only at this; omega) _)
          replace HX := Lib.hid (HX.out.mv hset (by decide))
          replace HSS := Lib.hid (HSS.out.mv hset (by decide) (by decide) (by decide))
          replace HMB := Lib.hid (HMB.out.mv hset (by decide))
          replace HM := Lib.hid (HM.out.trans (hset.mono (by decide)))
          clear hW7 hset o0 z0
          obtain ⟨b', cap, k0, k1, k2, hc1, hc2, hv, hrow, e0, e1, e2, hfz, -⟩ := HSS.out.tops q0 q1 HL.out
          obtain ⟨n1, hn1⟩ : ∃ n1, n1 = r.length + 1 := ⟨_, rfl⟩
          rw [← hn1] at k2 hc1
          have hi1 : (r.length : Int) < (n1 : Int) := by omega
          have hx : (shownS t.moms n).cur < 101 := by omega
          have hi3 : (r.length : Int).toNat = r.length := by simp
          have o2 : w7.cell? ⟨W2.heap.size, 2, none⟩ = some (.int .i64 0) := HOB.out.cell (j := 2) (by simp)
          have o3 : w7.cell? ⟨W2.heap.size, 3, none⟩ = some (.int .i64 0) := HOB.out.cell (j := 3) (by simp)
          have o4 : w7.cell? ⟨W2.heap.size, 4, none⟩ = some (.int .i64 0) := HOB.out.cell (j := 4) (by simp)
          have z2 := HOB.out.free 2
          have z3 := HOB.out.free 3
          have z4 := HOB.out.free 4
          have hS0 : ∃ m, w7.drew = w7.drewN m := ⟨1, rfl⟩
          have HS0 := Lib.hid hS0
          clear hS0 hv hrow hfz hn1
          refine wp_region_F 15 (fun w' : World => ∃ m, w' = w7.drewN m) (by kernel_rfl) ?_
          refine wpAnyF_take 0 (v := ?v0W2) (by rfl) (by kernel_rfl) (by intro _ _ _ h; exact h) HS0.out (by rfl) ?hy0W2 ?rest0W2
          case hy0W2 =>
            intro w' hSw
            obtain ⟨m, rfl⟩ := hSw
            go_simp
            try with_reducible rfl
          simp only [Act.put, List.setIfInBounds_toArray, List.set_cons_zero, List.set_cons_succ]
          refine wpAnyF_take 1 (v := ?v1W2) (by rfl) (by kernel_rfl) (by intro _ _ _ h; exact h) HS0.out (by rfl) ?hy1W2 ?rest1W2
          case hy1W2 =>
            intro w' hSw
            obtain ⟨m, rfl⟩ := hSw
            go_simp
            try with_reducible rfl
          simp only [Act.put, List.setIfInBounds_toArray, List.set_cons_zero, List.set_cons_succ]
          refine wpAnyF_take 2 (v := ?v2W2) (by rfl) (by kernel_rfl) (by intro _ _ _ h; exact h) HS0.out (by rfl) ?hy2W2 ?rest2W2
          case hy2W2 =>
            intro w' hSw
            obtain ⟨m, rfl⟩ := hSw
            go_simp
            try with_reducible rfl
          simp only [Act.put, List.setIfInBounds_toArray, List.set_cons_zero, List.set_cons_succ]
          refine wpAnyF_take 3 (v := ?v3W2) (by rfl) (by kernel_rfl) (by intro _ _ _ h; exact h) HS0.out (by rfl) ?hy3W2 ?rest3W2
          case hy3W2 =>
            intro w' hSw
            obtain ⟨m, rfl⟩ := hSw
            go_simp
            try with_reducible rfl
          simp only [Act.put, List.setIfInBounds_toArray, List.set_cons_zero, List.set_cons_succ]
          refine wpAnyF_take 4 (v := ?v4W2) (by rfl) (by kernel_rfl) (by intro _ _ _ h; exact h) HS0.out (by rfl) ?hy4W2 ?rest4W2
          case hy4W2 =>
            intro w' hSw
            obtain ⟨m, rfl⟩ := hSw
            go_simp
            try with_reducible rfl
          simp only [Act.put, List.setIfInBounds_toArray, List.set_cons_zero, List.set_cons_succ]
          refine wpAnyF_take 5 (v := ?v5W2) (by rfl) (by kernel_rfl) (by intro _ _ _ h; exact h) HS0.out (by rfl) ?hy5W2 ?rest5W2
          case hy5W2 =>
            intro w' hSw
            obtain ⟨m, rfl⟩ := hSw
            go_simp
            try with_reducible rfl
          simp only [Act.put, List.setIfInBounds_toArray, List.set_cons_zero, List.set_cons_succ]
          refine wpAnyF_take 6 (v := ?v6W2) (by rfl) (by kernel_rfl) (by intro _ _ _ h; exact h) HS0.out (by rfl) ?hy6W2 ?rest6W2
          case hy6W2 =>
            intro w' hSw
            obtain ⟨m, rfl⟩ := hSw
            go_simp
            try with_reducible rfl
          simp only [Act.put, List.setIfInBounds_toArray, List.set_cons_zero, List.set_cons_succ]
          refine wpAnyF_take 7 (v := ?v7W2) (by rfl) (by kernel_rfl) (by intro _ _ _ h; exact h) HS0.out (by rfl) ?hy7W2 ?rest7W2
          case hy7W2 =>
            intro w' hSw
            obtain ⟨m, rfl⟩ := hSw
            go_simp
            try with_reducible rfl
          simp only [Act.put, List.setIfInBounds_toArray, List.set_cons_zero, List.set_cons_succ]
          refine wpAnyF_take 8 (v := ?v8W2) (by rfl) (by kernel_rfl) (by intro _ _ _ h; exact h) HS0.out (by rfl) ?hy8W2 ?rest8W2
          case hy8W2 =>
            intro w' hSw
            obtain ⟨m, rfl⟩ := hSw
            go_simp
            try with_reducible rfl
          simp only [Act.put, List.setIfInBounds_toArray, List.set_cons_zero, List.set_cons_succ]
          refine wpAnyF_take 9 (v := ?v9W2) (by rfl) (by kernel_rfl) (by intro _ _ _ h; exact h) HS0.out (by rfl) ?hy9W2 ?rest9W2
          case hy9W2 =>
            intro w' hSw
            obtain ⟨m, rfl⟩ := hSw
            go_simp
            try with_reducible rfl
          simp only [Act.put, List.setIfInBounds_toArray, List.set_cons_zero, List.set_cons_succ]
          refine wpAnyF_take 10 (v := ?v10W2) (by rfl) (by kernel_rfl) (by intro _ _ _ h; exact h) HS0.out (by rfl) ?hy10W2 ?rest10W2
          case hy10W2 =>
            intro w' hSw
            obtain ⟨m, rfl⟩ := hSw
            go_simp
            try with_reducible rfl
          simp only [Act.put, List.setIfInBounds_toArray, List.set_cons_zero, List.set_cons_succ]
          refine wpAnyF_one 11 (by rfl) (by kernel_rfl) rfl ?_
          intro K hK
          go_simp
          refine (top_cons _ g T _ _ _ (HSS.out.later (bl_drew (Below.refl _ _))) q0 q1 HL.out).mono ?_
          rintro e w8 ⟨rfl, m2, rfl⟩
          dsimp only
          have HS1 : Hid (∃ m, w7.drew.drewN m2 = w7.drewN m) := Lib.hid ⟨1 + m2, World.drewN_drewN _ _ _⟩
          refine hK.out _ _ (fun _ => HS1.out) ?_
          clear hK K
          refine wpAnyF_take 12 (v := ?v12W2) (by rfl) (by kernel_rfl) (by intro _ _ _ h; exact h) HS1.out (by rfl) ?hy12W2 ?rest12W2
          case hy12W2 =>
            intro w' hSw
            obtain ⟨m, rfl⟩ := hSw
            go_simp
            try with_reducible rfl
          simp only [Act.put, List.setIfInBounds_toArray, List.set_cons_zero, List.set_cons_succ]
          refine wpAnyF_take 13 (v := ?v13W2) (by rfl) (by kernel_rfl) (by intro _ _ _ h; exact h) HS1.out (by rfl) ?hy13W2 ?rest13W2
          case hy13W2 =>
            intro w' hSw
            obtain ⟨m, rfl⟩ := hSw
            go_simp
            try with_reducible rfl
          simp only [Act.put, List.setIfInBounds_toArray, List.set_cons_zero, List.set_cons_succ]
          refine wpAnyF_take 14 (v := ?v14W2) (by rfl) (by kernel_rfl) (by intro _ _ _ h; exact h) HS1.out (by rfl) ?hy14W2 ?rest14W2
          case hy14W2 =>
            intro w' hSw
            obtain ⟨m, rfl⟩ := hSw
            go_simp
            try with_reducible rfl
          simp only [Act.put, List.setIfInBounds_toArray, List.set_cons_zero, List.set_cons_succ]
          refine wpAnyF_one 15 (by rfl) (by kernel_rfl) rfl ?_
          intro K hK
          go_simp
          refine hK.out _ _ (fun h => absurd rfl h) ?_
          clear hK K
          refine wpAnyF_done (by kernel_rfl) ?_ _
          have hbd : Below w7.heap.size w7 (w7.drewN (1 + m2)) := bl_drewN (Below.refl _ _) _
          have hB9 := HOB.out.later hbd
          have hO9 := HO.out.later hbd
          have hM9 : Mv [193] w.heap.size w7 (w7.drewN (1 + m2)) := Mv.of_below hbd HM.out.size
          have hlt9 : w.heap.size ≤ W2.heap.size := hlo5
          have hBx := ((hB9.set (j := 2) (by simp) (.int .i64 fr.fn)).set (j := 3) (by simp) (.int .i64 fr.line)).set (j := 4) (by simp) (.int .i64 fr.frm)
          generalize hW9 : World.setCell (World.setCell (World.setCell _ _ _) _ _) _ _ = w9 at hBx ⊢
          have hset : Mv [193] w.heap.size w7 w9 := by
            rw [← hW9]
            have m1 := hM9.set (p := ⟨W2.heap.size, 2, none⟩) hlt9 hB9 (by decide) (.int .i64 fr.fn)
            have m2' := m1.set (p := ⟨W2.heap.size, 3, none⟩) hlt9 (hB9.set (j := 2) (by simp) _) (by decide) (.int .i64 fr.line)
            exact m2'.set (p := ⟨W2.heap.size, 4, none⟩) hlt9 ((hB9.set (j := 2) (by simp) _).set (j := 3) (by simp) _) (by decide) (.int .i64 fr.frm)
          have hOx : OwR w9 w.heap.size 193 5 n (ownC t.moms) (.slice A3 n c3) := by
            rw [← hW9]
            have hfar : ∀ j, (Value.slice A3 n c3).ownBlock ≠ some (⟨W2.heap.size, j, none⟩ : Addr).block := fun j hh => by have := HOLT.out _ hh; dsimp only at this; omega
            exact ((hO9.far (hfar _) _).far (hfar _) _).far (hfar _) _
          clear hbd hB9 hO9 hM9 hW9 o2 o3 o4 z2 z3 z4 k0 k1 k2 e0 e1 e2
          replace HO := Lib.hid hOx
          replace HOB := Lib.hid hBx
          replace HX := Lib.hid (HX.out.mv hset (by decide))
          replace HSS := Lib.hid (HSS.out.mv hset (by decide) (by decide) (by decide))
          replace HMB := Lib.hid (HMB.out.mv hset (by decide))
          replace HM := Lib.hid (HM.out.trans (hset.mono (by decide)))
          clear hset hOx hBx
          have o0 : w9.cell? ⟨W2.heap.size, 0, none⟩ = some (.bool true) := by have := HOB.out.cell (j := 0) (by simp); simpa [upd] using this
          have o1 : w9.cell? ⟨W2.heap.size, 1, none⟩ = some (.int .i64 (shownS t.moms n).cur) := by have := HOB.out.cell (j := 1) (by simp); simpa [upd] using this
          have o2 : w9.cell? ⟨W2.heap.size, 2, none⟩ = some (.int .i64 fr.fn) := by have := HOB.out.cell (j := 2) (by simp); simpa [upd] using this
          have o3 : w9.cell? ⟨W2.heap.size, 3, none⟩ = some (.int .i64 fr.line) := by have := HOB.out.cell (j := 3) (by simp); simpa [upd] using this
          have o4 : w9.cell? ⟨W2.heap.size, 4, none⟩ = some (.int .i64 fr.frm) := by have := HOB.out.cell (j := 4) (by simp); simpa [upd] using this
          have hsl := HM.out.size
          go_wp2_with (at_builtin; refine stopped ?_)
          unfold Stopped
          refine wpList_append1 _ (by rfl) _ _ 178 (by rfl) w.heap.size 193 _ 5 40 Try.underlying178 i_owner rfl (by omega) _ n _ (ownC t.moms) (by rfl) HO.out [.bool true, .int .i64 (shownS t.moms n).cur, .int .i64 fr.fn, .int .i64 fr.line, .int .i64 fr.frm] rfl (by simp [Value.oneCell']) (by rfl) (fun _ _ _ _ => rfl) ?hNb hsl (by omega) (by omega) ?_
          case hNb =>
            exact own_cons HL.out
          intro ga cg w8 hO8 hG8 _ _
          have hmv8 : Mv [193] w.heap.size w9 w8 := (Mv.refl _ _ _).grown HM.out.size hG8 (fun b hb => by obtain ⟨N, F, hBk⟩ := HO.out.block hb; exact ⟨(HO.out.lt b hb).1, _, N, F, hBk, by decide⟩)
          replace HX := Lib.hid (HX.out.mv hmv8 (by decide))
          replace HSS := Lib.hid (HSS.out.mv hmv8 (by decide) (by decide) (by decide))
          replace HMB := Lib.hid (HMB.out.mv hmv8 (by decide))
          replace HM := Lib.hid (HM.out.trans (hmv8.mono (by decide)))
          clear HO hmv8 hG8 hsl
          have HO := Lib.hid hO8
          clear hO8
          have y0 : w8.cell? ⟨wr.heap.size, 0, none⟩ = some (.int .i64 (elt t.moms n).kind) := HMB.out.cell (j := 0) (by simp)
          have y1 : w8.cell? ⟨wr.heap.size, 1, none⟩ = some (.int .i64 (elt t.moms n).task) := HMB.out.cell (j := 1) (by simp)
          have y2 : w8.cell? ⟨wr.heap.size, 2, none⟩ = some (.int .i64 (elt t.moms n).fn) := HMB.out.cell (j := 2) (by simp)
          have y3 : w8.cell? ⟨wr.heap.size, 3, none⟩ = some (.int .i64 (elt t.moms n).line) := HMB.out.cell (j := 3) (by simp)
          have y4 : w8.cell? ⟨wr.heap.size, 4, none⟩ = some (.string (elt t.moms n).text) := HMB.out.cell (j := 4) (by simp)
          have y5 : w8.cell? ⟨wr.heap.size, 5, none⟩ = some (.slice Av (elt t.moms n).vars.length cv) := HMB.out.cell (j := 5) (by simp)
          have hss : shownS t.moms n = stN t.moms n := by unfold shownS; rw [if_pos HK.out]
          rw [hss] at HSS
          clear hss
          go_wp2_with fail
          refine (move_calls _ g T _ _ (elt t.moms n) _ _ _ n n _ HSS.out HI.out).mono ?_
          rintro e w10 ⟨rfl, hmv, hst⟩
          obtain ⟨f', hS'⟩ := hst (SO.out.moves n h2)
          replace hS' : IsS w10 w.heap.size g T (stN t.moms (n + 1)) f' := hS'
          replace HX := Lib.hid (HX.out.mv hmv (by decide))
          replace HO := Lib.hid (HO.out.mv hmv (by decide))
          replace HM := Lib.hid (HM.out.trans (hmv.mono (by decide)))
          clear HSS hmv hst
          have HSS := Lib.hid hS'
          clear hS' y0 y1 y2 y3 y4 y5
          go_wp2
          go_roundw
          case rel => exact ⟨n + 1, f', by omega, by go_num, HSS.out, HO.out, HM.out, HX.out⟩
          case measure => simp [intOf]; omega
      · have hd1 : ((elt t.moms n).kind != 3) = true := by simp [k3]
        have hd2 : ((elt t.moms n).kind == 3) = false := by simp [k3]
        have HK := Lib.hid k3
        have y1 : W2.cell? ⟨wr.heap.size, 1, none⟩ = some (.int .i64 (elt t.moms n).task) := HMB.out.cell (j := 1) (by simp)
        have y2 : W2.cell? ⟨wr.heap.size, 2, none⟩ = some (.int .i64 (elt t.moms n).fn) := HMB.out.cell (j := 2) (by simp)
        have y3 : W2.cell? ⟨wr.heap.size, 3, none⟩ = some (.int .i64 (elt t.moms n).line) := HMB.out.cell (j := 3) (by simp)
        have y4 : W2.cell? ⟨wr.heap.size, 4, none⟩ = some (.string (elt t.moms n).text) := HMB.out.cell (j := 4) (by simp)
        have y5 : W2.cell? ⟨wr.heap.size, 5, none⟩ = some (.slice Av (elt t.moms n).vars.length cv) := HMB.out.cell (j := 5) (by simp)
        clear k3
        go_wp2_with fail
        refine (move_calls _ g T _ _ (elt t.moms n) _ _ _ n n _ HSS.out HI.out).mono ?_
        rintro e w3 ⟨rfl, hmv, hst⟩
        obtain ⟨f', hS'⟩ := hst (SO.out.moves n h2)
        replace hS' : IsS w3 w.heap.size g T (shownS t.moms n) f' := by
          have : shownS t.moms n = stN t.moms (n + 1) := by unfold shownS; rw [if_neg HK.out]
          rw [this]; exact hS'
        clear HSS
        have HSS := Lib.hid hS'
        replace HMB := Lib.hid (HMB.out.mv hmv (by decide))
        replace HX := Lib.hid (HX.out.mv hmv (by decide))
        replace HO := Lib.hid (HO.out.mv hmv (by decide))
        replace HM := Lib.hid (HM.out.trans (hmv.mono (by decide)))
        clear hmv hst hS' y0 y1 y2 y3 y4 y5
        have y0 : w3.cell? ⟨wr.heap.size, 0, none⟩ = some (.int .i64 (elt t.moms n).kind) := HMB.out.cell (j := 0) (by simp)
        have c0 : w3.cell? ⟨g, 1, none⟩ = some (.int .i64 (shownS t.moms n).cur) := HSS.out.blk.cell (j := 1) (by omega)
        have hbb : wr.heap.size < w3.heap.size := HMB.out.lt
        have HOLT : Hid (∀ b', (Value.slice A3 n c3).ownBlock = some b' → b' < w3.heap.size) := Lib.hid (fun b' hb' => (HO.out.lt b' hb').2)
        go_upto_region 9 with fail
        have HOB : Hid (Blk (w3.alloc _) w3.heap.size 193 5 _) := Lib.hid (Blk.made w3 #[.bool false, .int .i64 (shownS t.moms n).cur, .int .i64 0, .int .i64 0, .int .i64 0] 193)
        generalize hW5 : World.alloc w3 _ = W5 at HOB ⊢
        have hbl : Below w3.heap.size w3 W5 := by rw [← hW5]; exact bl_alloc (Below.refl _ _) _
        have hlo5 := HM.out.size
        clear hW5 c0 y0
        replace HM := Lib.hid (HM.out.then HM.out.size hbl)
        replace HX := Lib.hid (HX.out.later hbl)
        replace HO := Lib.hid (HO.out.later hbl)
        replace HSS := Lib.hid (HSS.out.later hbl)
        replace HMB := Lib.hid (HMB.out.later hbl)
        clear hbl
        go_wp2_with fail
        cases hL : (shownS t.moms n).top with
        | nil =>
          have HL := Lib.hid hL
          clear hL
          refine (top_nil _ g T _ _ _ HSS.out q0 q1 HL.out).mono ?_; rintro e w6 ⟨rfl, m', rfl⟩
          generalize hW6 : World.drewN W5 m' = w6
          have hbl : Below W5.heap.size W5 w6 := by rw [← hW6]; exact bl_drewN (Below.refl _ _) _
          have hlo6 := HM.out.size
          clear hW6
          replace HM := Lib.hid (HM.out.then HM.out.size hbl)
          replace HX := Lib.hid (HX.out.later hbl)
          replace HO := Lib.hid (HO.out.later hbl)
          replace HSS := Lib.hid (HSS.out.later hbl)
          replace HMB := Lib.hid (HMB.out.later hbl)
          replace HOB := Lib.hid (HOB.out.later hbl)
          clear hbl
          have o0 : w6.cell? ⟨w3.heap.size, 0, none⟩ = some (.bool false) := HOB.out.cell (j := 0) (by simp)
          have o1 : w6.cell? ⟨w3.heap.size, 1, none⟩ = some (.int .i64 (shownS t.moms n).cur) := HOB.out.cell (j := 1) (by simp)
          have o2 : w6.cell? ⟨w3.heap.size, 2, none⟩ = some (.int .i64 0) := HOB.out.cell (j := 2) (by simp)
          have o3 : w6.cell? ⟨w3.heap.size, 3, none⟩ = some (.int .i64 0) := HOB.out.cell (j := 3) (by simp)
          have o4 : w6.cell? ⟨w3.heap.size, 4, none⟩ = some (.int .i64 0) := HOB.out.cell (j := 4) (by simp)
          have hsl := HM.out.size
          go_wp2_with (at_builtin; refine stopped ?_)
          unfold Stopped
          refine wpList_append1 _ (by rfl) _ _ 178 (by rfl) w.heap.size 193 _ 5 40 Try.underlying178 i_owner rfl (by omega) _ n _ (ownC t.moms) (by rfl) HO.out [.bool false, .int .i64 (shownS t.moms n).cur, .int .i64 0, .int .i64 0, .int .i64 0] rfl (by simp [Value.oneCell']) (by rfl) (fun _ _ _ _ => rfl) ?hNa hsl (by omega) (by omega) ?_
          case hNa =>
            exact own_nil HL.out
          intro ga cg w8 hO8 hG8 _ _
          have hmv8 : Mv [193] w.heap.size w6 w8 := (Mv.refl _ _ _).grown HM.out.size hG8 (fun b hb => by obtain ⟨N, F, hBk⟩ := HO.out.block hb; exact ⟨(HO.out.lt b hb).1, _, N, F, hBk, by decide⟩)
          replace HX := Lib.hid (HX.out.mv hmv8 (by decide))
          replace HSS := Lib.hid (HSS.out.mv hmv8 (by decide) (by decide) (by decide))
          replace HMB := Lib.hid (HMB.out.mv hmv8 (by decide))
          replace HM := Lib.hid (HM.out.trans (hmv8.mono (by decide)))
          clear HO hmv8 hG8 hsl
          have HO := Lib.hid hO8
          clear hO8
          have y0 : w8.cell? ⟨wr.heap.size, 0, none⟩ = some (.int .i64 (elt t.moms n).kind) := HMB.out.cell (j := 0) (by simp)
          go_wp2
          go_roundw
          case rel =>
            have hss : shownS t.moms n = stN t.moms (n + 1) := by unfold shownS; rw [if_neg HK.out]
            exact ⟨n + 1, f', by omega, by go_num, by rw [← hss]; exact HSS.out, HO.out, HM.out, HX.out⟩
          case measure => simp [intOf]; omega
        | cons fr r =>
          have HL := Lib.hid hL
          clear hL
          refine (top_cons _ g T _ _ _ HSS.out q0 q1 HL.out).mono ?_; rintro e w6 ⟨rfl, m', rfl⟩
          generalize hW6 : World.drewN W5 m' = w6
          have hbl : Below W5.heap.size W5 w6 := by rw [← hW6]; exact bl_drewN (Below.refl _ _) _
          have hlo6 := HM.out.size
          clear hW6
          replace HM := Lib.hid (HM.out.then HM.out.size hbl)
          replace HX := Lib.hid (HX.out.later hbl)
          replace HO := Lib.hid (HO.out.later hbl)
          replace HSS := Lib.hid (HSS.out.later hbl)
          replace HMB := Lib.hid (HMB.out.later hbl)
          replace HOB := Lib.hid (HOB.out.later hbl)
          clear hbl
          have hi0 : (0 : Int) ≤ (r.length : Int) := by omega
          have o0 : w6.cell? ⟨w3.heap.size, 0, none⟩ = some (.bool false) := HOB.out.cell (j := 0) (by simp)
          have z0 := HOB.out.free 0
          go_upto_region 11 with fail
          generalize hW7 : World.setCell w6 _ _ = w7
          have hset : Mv [193] w.heap.size w6 w7 := by rw [← hW7]; exact (Mv.refl _ _ _).set (by dsimp only; omega) HOB.out (by decide) _
          replace HOB : Hid (Blk w7 w3.heap.size 193 5 _) := Lib.hid (by rw [← hW7]; exact HOB.out.set (j := 0) (by simp) (.bool true))
          replace HO : Hid (OwR w7 w.heap.size 193 5 n (ownC t.moms) (.slice A3 n c3)) := Lib.hid (by rw [← hW7]; exact HO.out.far (p := ⟨w3.heap.size, 0, none⟩) (fun hh => by have := HOLT.out _ hh; dsimp only at this; omega) _)
          replace HX := Lib.hid (HX.out.mv hset (by decide))
          replace HSS := Lib.hid (HSS.out.mv hset (by decide) (by decide) (by decide))
          replace HMB := Lib.hid (HMB.out.mv hset (by decide))
          replace HM := Lib.hid (HM.out.trans (hset.mono (by decide)))
          clear hW7 hset o0 z0
          obtain ⟨b', cap, k0, k1, k2, hc1, hc2, hv, hrow, e0, e1, e2, hfz, -⟩ := HSS.out.tops q0 q1 HL.out
          obtain ⟨n1, hn1⟩ : ∃ n1, n1 = r.length + 1 := ⟨_, rfl⟩
          rw [← hn1] at k2 hc1
          have hi1 : (r.length : Int) < (n1 : Int) := by omega
          have hx : (shownS t.moms n).cur < 101 := by omega
          have hi3 : (r.length : Int).toNat = r.length := by simp
          have o2 : w7.cell? ⟨w3.heap.size, 2, none⟩ = some (.int .i64 0) := HOB.out.cell (j := 2) (by simp)
          have o3 : w7.cell? ⟨w3.heap.size, 3, none⟩ = some (.int .i64 0) := HOB.out.cell (j := 3) (by simp)
          have o4 : w7.cell? ⟨w3.heap.size, 4, none⟩ = some (.int .i64 0) := HOB.out.cell (j := 4) (by simp)
          have z2 := HOB.out.free 2
          have z3 := HOB.out.free 3
          have z4 := HOB.out.free 4
          have hS0 : ∃ m, w7.drew = w7.drewN m := ⟨1, rfl⟩
          have HS0 := Lib.hid hS0
          clear hS0 hv hrow hfz hn1
          refine wp_region_F 15 (fun w' : World => ∃ m, w' = w7.drewN m) (by kernel_rfl) ?_
          refine wpAnyF_take 0 (v := ?v0w3) (by rfl) (by kernel_rfl) (by intro _ _ _ h; exact h) HS0.out (by rfl) ?hy0w3 ?rest0w3
          case hy0w3 =>
            intro w' hSw
            obtain ⟨m, rfl⟩ := hSw
            go_simp
            try with_reducible rfl
          simp only [Act.put, List.setIfInBounds_toArray, List.set_cons_zero, List.set_cons_succ]
          refine wpAnyF_take 1 (v := ?v1w3) (by rfl) (by kernel_rfl) (by intro _ _ _ h; exact h) HS0.out (by rfl) ?hy1w3 ?rest1w3
          case hy1w3 =>
            intro w' hSw
            obtain ⟨m, rfl⟩ := hSw
            go_simp
            try with_reducible rfl
          simp only [Act.put, List.setIfInBounds_toArray, List.set_cons_zero, List.set_cons_succ]
          refine wpAnyF_take 2 (v := ?v2w3) (by rfl) (by kernel_rfl) (by intro _ _ _ h; exact h) HS0.out (by rfl) ?hy2w3 ?rest2w3
          case hy2w3 =>
            intro w' hSw
            obtain ⟨m, rfl⟩ := hSw
            go_simp
            try with_reducible rfl
          simp only [Act.put, List.setIfInBounds_toArray, List.set_cons_zero, List.set_cons_succ]
          refine wpAnyF_take 3 (v := ?v3w3) (by rfl) (by kernel_rfl) (by intro _ _ _ h; exact h) HS0.out (by rfl) ?hy3w3 ?rest3w3
          case hy3w3 =>
            intro w' hSw
            obtain ⟨m, rfl⟩ := hSw
            go_simp
            try with_reducible rfl
          simp only [Act.put, List.setIfInBounds_toArray, List.set_cons_zero, List.set_cons_succ]
          refine wpAnyF_take 4 (v := ?v4w3) (by rfl) (by kernel_rfl) (by intro _ _ _ h; exact h) HS0.out (by rfl) ?hy4w3 ?rest4w3
          case hy4w3 =>
            intro w' hSw
            obtain ⟨m, rfl⟩ := hSw
            go_simp
            try with_reducible rfl
          simp only [Act.put, List.setIfInBounds_toArray, List.set_cons_zero, List.set_cons_succ]
          refine wpAnyF_take 5 (v := ?v5w3) (by rfl) (by kernel_rfl) (by intro _ _ _ h; exact h) HS0.out (by rfl) ?hy5w3 ?rest5w3
          case hy5w3 =>
            intro w' hSw
            obtain ⟨m, rfl⟩ := hSw
            go_simp
            try with_reducible rfl
          simp only [Act.put, List.setIfInBounds_toArray, List.set_cons_zero, List.set_cons_succ]
          refine wpAnyF_take 6 (v := ?v6w3) (by rfl) (by kernel_rfl) (by intro _ _ _ h; exact h) HS0.out (by rfl) ?hy6w3 ?rest6w3
          case hy6w3 =>
            intro w' hSw
            obtain ⟨m, rfl⟩ := hSw
            go_simp
            try with_reducible rfl
          simp only [Act.put, List.setIfInBounds_toArray, List.set_cons_zero, List.set_cons_succ]
          refine wpAnyF_take 7 (v := ?v7w3) (by rfl) (by kernel_rfl) (by intro _ _ _ h; exact h) HS0.out (by rfl) ?hy7w3 ?rest7w3
          case hy7w3 =>
            intro w' hSw
            obtain ⟨m, rfl⟩ := hSw
            go_simp
            try with_reducible rfl
          simp only [Act.put, List.setIfInBounds_toArray, List.set_cons_zero, List.set_cons_succ]
          refine wpAnyF_take 8 (v := ?v8w3) (by rfl) (by kernel_rfl) (by intro _ _ _ h; exact h) HS0.out (by rfl) ?hy8w3 ?rest8w3
          case hy8w3 =>
            intro w' hSw
            obtain ⟨m, rfl⟩ := hSw
            go_simp
            try with_reducible rfl
          simp only [Act.put, List.setIfInBounds_toArray, List.set_cons_zero, List.set_cons_succ]
          refine wpAnyF_take 9 (v := ?v9w3) (by rfl) (by kernel_rfl) (by intro _ _ _ h; exact h) HS0.out (by rfl) ?hy9w3 ?rest9w3
          case hy9w3 =>
            intro w' hSw
            obtain ⟨m, rfl⟩ := hSw
            go_simp
            try with_reducible rfl
          simp only [Act.put, List.setIfInBounds_toArray, List.set_cons_zero, List.set_cons_succ]
          refine wpAnyF_take 10 (v := ?v10w3) (by rfl) (by kernel_rfl) (by intro _ _ _ h; exact h) HS0.out (by rfl) ?hy10w3 ?rest10w3
          case hy10w3 =>
            intro w' hSw
            obtain ⟨m, rfl⟩ := hSw
            go_simp
            try with_reducible rfl
          simp only [Act.put, List.setIfInBounds_toArray, List.set_cons_zero, List.set_cons_succ]
          refine wpAnyF_one 11 (by rfl) (by kernel_rfl) rfl ?_
          intro K hK
          go_simp
          refine (top_cons _ g T _ _ _ (HSS.out.later (bl_drew (Below.refl _ _))) q0 q1 HL.out).mono ?_
          rintro e w8 ⟨rfl, m2, rfl⟩
          dsimp only
          have HS1 : Hid (∃ m, w7.drew.drewN m2 = w7.drewN m) := Lib.hid ⟨1 + m2, World.drewN_drewN _ _ _⟩
          refine hK.out _ _ (fun _ => HS1.out) ?_
          clear hK K
          refine wpAnyF_take 12 (v := ?v12w3) (by rfl) (by kernel_rfl) (by intro _ _ _ h; exact h) HS1.out (by rfl) ?hy12w3 ?rest12w3
          case hy12w3 =>
            intro w' hSw
            obtain ⟨m, rfl⟩ := hSw
            go_simp
            try with_reducible rfl
          simp only [Act.put, List.setIfInBounds_toArray, List.set_cons_zero, List.set_cons_succ]
          refine wpAnyF_take 13 (v := ?v13w3) (by rfl) (by kernel_rfl) (by intro _ _ _ h; exact h) HS1.out (by rfl) ?hy13w3 ?rest13w3
          case hy13w3 =>
            intro w' hSw
            obtain ⟨m, rfl⟩ := hSw
            go_simp
            try with_reducible rfl
          simp only [Act.put, List.setIfInBounds_toArray, List.set_cons_zero, List.set_cons_succ]
          refine wpAnyF_take 14 (v := ?v14w3) (by rfl) (by kernel_rfl) (by intro _ _ _ h; exact h) HS1.out (by rfl) ?hy14w3 ?rest14w3
          case hy14w3 =>
            intro w' hSw
            obtain ⟨m, rfl⟩ := hSw
            go_simp
            try with_reducible rfl
          simp only [Act.put, List.setIfInBounds_toArray, List.set_cons_zero, List.set_cons_succ]
          refine wpAnyF_one 15 (by rfl) (by kernel_rfl) rfl ?_
          intro K hK
          go_simp
          refine hK.out _ _ (fun h => absurd rfl h) ?_
          clear hK K
          refine wpAnyF_done (by kernel_rfl) ?_ _
          have hbd : Below w7.heap.size w7 (w7.drewN (1 + m2)) := bl_drewN (Below.refl _ _) _
          have hB9 := HOB.out.later hbd
          have hO9 := HO.out.later hbd
          have hM9 : Mv [193] w.heap.size w7 (w7.drewN (1 + m2)) := Mv.of_below hbd HM.out.size
          have hlt9 : w.heap.size ≤ w3.heap.size := hlo5
          have hBx := ((hB9.set (j := 2) (by simp) (.int .i64 fr.fn)).set (j := 3) (by simp) (.int .i64 fr.line)).set (j := 4) (by simp) (.int .i64 fr.frm)
          generalize hW9 : World.setCell (World.setCell (World.setCell _ _ _) _ _) _ _ = w9 at hBx ⊢
          have hset : Mv [193] w.heap.size w7 w9 := by
            rw [← hW9]
            have m1 := hM9.set (p := ⟨w3.heap.size, 2, none⟩) hlt9 hB9 (by decide) (.int .i64 fr.fn)
            have m2' := m1.set (p := ⟨w3.heap.size, 3, none⟩) hlt9 (hB9.set (j := 2) (by simp) _) (by decide) (.int .i64 fr.line)
            exact m2'.set (p := ⟨w3.heap.size, 4, none⟩) hlt9 ((hB9.set (j := 2) (by simp) _).set (j := 3) (by simp) _) (by decide) (.int .i64 fr.frm)
          have hOx : OwR w9 w.heap.size 193 5 n (ownC t.moms) (.slice A3 n c3) := by
            rw [← hW9]
            have hfar : ∀ j, (Value.slice A3 n c3).ownBlock ≠ some (⟨w3.heap.size, j, none⟩ : Addr).block := fun j hh => by have := HOLT.out _ hh; dsimp only at this; omega
            exact ((hO9.far (hfar _) _).far (hfar _) _).far (hfar _) _
          clear hbd hB9 hO9 hM9 hW9 o2 o3 o4 z2 z3 z4 k0 k1 k2 e0 e1 e2
          replace HO := Lib.hid hOx
          replace HOB := Lib.hid hBx
          replace HX := Lib.hid (HX.out.mv hset (by decide))
          replace HSS := Lib.hid (HSS.out.mv hset (by decide) (by decide) (by decide))
          replace HMB := Lib.hid (HMB.out.mv hset (by decide))
          replace HM := Lib.hid (HM.out.trans (hset.mono (by decide)))
          clear hset hOx hBx
          have o0 : w9.cell? ⟨w3.heap.size, 0, none⟩ = some (.bool true) := by have := HOB.out.cell (j := 0) (by simp); simpa [upd] using this
          have o1 : w9.cell? ⟨w3.heap.size, 1, none⟩ = some (.int .i64 (shownS t.moms n).cur) := by have := HOB.out.cell (j := 1) (by simp); simpa [upd] using this
          have o2 : w9.cell? ⟨w3.heap.size, 2, none⟩ = some (.int .i64 fr.fn) := by have := HOB.out.cell (j := 2) (by simp); simpa [upd] using this
          have o3 : w9.cell? ⟨w3.heap.size, 3, none⟩ = some (.int .i64 fr.line) := by have := HOB.out.cell (j := 3) (by simp); simpa [upd] using this
          have o4 : w9.cell? ⟨w3.heap.size, 4, none⟩ = some (.int .i64 fr.frm) := by have := HOB.out.cell (j := 4) (by simp); simpa [upd] using this
          have hsl := HM.out.size
          go_wp2_with (at_builtin; refine stopped ?_)
          unfold Stopped
          refine wpList_append1 _ (by rfl) _ _ 178 (by rfl) w.heap.size 193 _ 5 40 Try.underlying178 i_owner rfl (by omega) _ n _ (ownC t.moms) (by rfl) HO.out [.bool true, .int .i64 (shownS t.moms n).cur, .int .i64 fr.fn, .int .i64 fr.line, .int .i64 fr.frm] rfl (by simp [Value.oneCell']) (by rfl) (fun _ _ _ _ => rfl) ?hNb hsl (by omega) (by omega) ?_
          case hNb =>
            exact own_cons HL.out
          intro ga cg w8 hO8 hG8 _ _
          have hmv8 : Mv [193] w.heap.size w9 w8 := (Mv.refl _ _ _).grown HM.out.size hG8 (fun b hb => by obtain ⟨N, F, hBk⟩ := HO.out.block hb; exact ⟨(HO.out.lt b hb).1, _, N, F, hBk, by decide⟩)
          replace HX := Lib.hid (HX.out.mv hmv8 (by decide))
          replace HSS := Lib.hid (HSS.out.mv hmv8 (by decide) (by decide) (by decide))
          replace HMB := Lib.hid (HMB.out.mv hmv8 (by decide))
          replace HM := Lib.hid (HM.out.trans (hmv8.mono (by decide)))
          clear HO hmv8 hG8 hsl
          have HO := Lib.hid hO8
          clear hO8
          have y0 : w8.cell? ⟨wr.heap.size, 0, none⟩ = some (.int .i64 (elt t.moms n).kind) := HMB.out.cell (j := 0) (by simp)
          go_wp2
          go_roundw
          case rel =>
            have hss : shownS t.moms n = stN t.moms (n + 1) := by unfold shownS; rw [if_neg HK.out]
            exact ⟨n + 1, f', by omega, by go_num, by rw [← hss]; exact HSS.out, HO.out, HM.out, HX.out⟩
          case measure => simp [intOf]; omega
    · obtain rfl : n = t.moms.length := by omega
      go_wp2
      go_ret
      exact ⟨_, rfl, HO.out, HM.out.bl⟩
end Go.Proofs.Ytcklnjjbhngbcaa

namespace Go.Proofs.Ytcklnjjbhngbcaa
open Go.RowKit Go.Proofs.Lens

/-- One owner, read. -/
theorem own_cells {w : World} {A : Option Addr} {n c : Nat} {ms : List PMom} (h : RdSl w 5 n (ownC ms) (.slice A n c)) {i : Nat} (hi : i < n) :
    ∃ b o, A = some ⟨b, o, none⟩ ∧ w.cell? ⟨b, o + i * 5, none⟩ = some (.bool (!(shownS ms i).top.isEmpty)) ∧ w.cell? ⟨b, o + i * 5 + 1, none⟩ = some (.int .i64 (shownS ms i).cur) ∧
      w.cell? ⟨b, o + i * 5 + 2, none⟩ = some (.int .i64 (ownF ms i).fn) ∧ w.cell? ⟨b, o + i * 5 + 3, none⟩ = some (.int .i64 (ownF ms i).line) ∧ w.cell? ⟨b, o + i * 5 + 4, none⟩ = some (.int .i64 (ownF ms i).frm) := by
  obtain ⟨A', c', he, hn, hrow⟩ := h
  obtain ⟨rfl, -, rfl⟩ : A = A' ∧ n = n ∧ c = c' := by simpa using he
  obtain ⟨b, o, rfl, hc⟩ := hrow (by omega)
  exact ⟨b, o, rfl, hc i hi 0 (by omega), hc i hi 1 (by omega), hc i hi 2 (by omega), hc i hi 3 (by omega), hc i hi 4 (by omega)⟩
theorem shownP_own {ms : List PMom} {i : Nat} (h : (shownS ms i).top.isEmpty = false) : shownP ms i = some ((shownS ms i).cur, ownF ms i) := by
  unfold shownP ownF
  cases hs : (shownS ms i).top with
  | nil => rw [hs] at h; cases h
  | cons f r => rfl
theorem shownP_own0 {ms : List PMom} {i : Nat} (h : (shownS ms i).top.isEmpty = true) : shownP ms i = none := by
  unfold shownP
  cases hs : (shownS ms i).top with
  | nil => rfl
  | cons f r => rw [hs] at h; cases h
section
variable {ms : List PMom} {nm : ByteArray} {tk frm : Int} {now : ByteArray} {i : Nat}
theorem chg_stop (h : (i : Int) < frm) : chgP ms nm tk frm now (i + 1) = true := by unfold chgP; rw [if_pos h]
theorem chg_skip0 (h : ¬ (i : Int) < frm) (hs : shownP ms i = none) : chgP ms nm tk frm now (i + 1) = chgP ms nm tk frm now i := by
  rw [chgP, if_neg h, hs]
theorem chg_skip1 (h : ¬ (i : Int) < frm) {tk' : Int} {g : PFr} (hs : shownP ms i = some (tk', g)) (hn : ¬ (tk' = tk ∧ g.frm = frm)) : chgP ms nm tk frm now (i + 1) = chgP ms nm tk frm now i := by
  rw [chgP, if_neg h, hs]; dsimp only; rw [if_neg hn]
theorem chg_none (h : ¬ (i : Int) < frm) (hv : valP (elt ms i).vars nm = none) : chgP ms nm tk frm now (i + 1) = chgP ms nm tk frm now i := by
  rw [chgP, if_neg h]
  cases shownP ms i with
  | none => rfl
  | some p => dsimp only; rw [hv]; split <;> rfl
theorem chg_hit (h : ¬ (i : Int) < frm) {tk' : Int} {g : PFr} (hs : shownP ms i = some (tk', g)) (hn : tk' = tk ∧ g.frm = frm) {u : ByteArray} (hv : valP (elt ms i).vars nm = some u) : chgP ms nm tk frm now (i + 1) = !(u.toList == now.toList) := by
  rw [chgP, if_neg h, hs]; dsimp only; rw [if_pos hn, hv, ba_beq]; simp
end
set_option maxRecDepth 100000 in
set_option maxHeartbeats 8000000 in
theorem l3changes_calls (v1 v2 v3 : Value) (t : PTr) (s : PStop) (k : Nat) (w : World) (h : RdTr w v1 v2 t) (hsm : smTr t) (hk : k < t.moms.length) (ho : RdSl w 5 t.moms.length (ownC t.moms) v3) :
    Calls Try.prog 148 #[.agg #[v1, v2], v3, stopV s, .int .i64 k] w fun e w' => e = .returned (.bool (chgAt t.moms s k)) ∧ Below w.heap.size w w' := by
  have HT := Lib.hid h
  obtain ⟨⟨A1, c1, rfl, hn1, -⟩, ⟨vv, ⟨A2, c2, rfl, hn2, -⟩, -⟩⟩ := h
  obtain ⟨A3, c3, rfl, hn3, -⟩ := id ho
  have HOW := Lib.hid ho
  have hsz := hsm.2.1
  obtain ⟨bo, oo, rfl, p0, p1, p2, p3, p4⟩ := own_cells ho hk
  obtain ⟨b, o, vk, rfl, d0, d1, d2, d3, d4, d5, hvk⟩ := rd_moment HT.out.2 hk
  obtain ⟨Av, cv, rfl, hvl, -⟩ := id hvk
  have HVK := Lib.hid hvk
  have hk2 : (k : Int) < (t.moms.length : Int) := by omega
  have hbo := World.block_lt_of_cell? _ _ p0
  dsimp only at hbo
  unfold stopV
  clear hsm ho d0 d1 d2 d3 d4 hvk
  go_enter Try.func148, Try.ntmps148
  go_upto_region 2 with fail
  generalize hW : World.alloc (World.alloc (World.alloc w _) _) _ = W
  have hB : Below w.heap.size w W := by rw [← hW]; exact (by repeat (with_reducible first | exact Below.refl _ _ | exact HL.out | refine bl_drewN ?_ _ | refine bl_drew ?_ | refine bl_alloc ?_ _ | refine bl_set ?_ (by dsimp only; omega) _))
  have x1 : W.cell? ⟨w.heap.size, 1, none⟩ = some (.slice (some ⟨b, o, none⟩) t.moms.length c2) := by rw [← hW]; clear hW; go_simp
  have s1 : W.cell? ⟨w.heap.size + 1, 1, none⟩ = some (.int .i64 s.fn) := by rw [← hW]; clear hW; go_simp
  have s3 : W.cell? ⟨w.heap.size + 1, 3, none⟩ = some (.string s.nm) := by rw [← hW]; clear hW; go_simp
  have o0 : W.cell? ⟨w.heap.size + 1 + 1, 0, none⟩ = some (.bool (!(shownS t.moms k).top.isEmpty)) := by rw [← hW]; clear hW; go_simp
  have o1 : W.cell? ⟨w.heap.size + 1 + 1, 1, none⟩ = some (.int .i64 (shownS t.moms k).cur) := by rw [← hW]; clear hW; go_simp
  have o2 : W.cell? ⟨w.heap.size + 1 + 1, 2, none⟩ = some (.int .i64 (ownF t.moms k).fn) := by rw [← hW]; clear hW; go_simp
  have o4 : W.cell? ⟨w.heap.size + 1 + 1, 4, none⟩ = some (.int .i64 (ownF t.moms k).frm) := by rw [← hW]; clear hW; go_simp
  have e5 := cell_later hB d5
  have HB := Lib.hid hB
  have HX := Lib.hid (And.intro x1 (And.intro s1 (And.intro s3 (And.intro o0 (And.intro o1 (And.intro o2 o4))))))
  clear hW hB d5 p0 p1 p2 p3 p4 s1 o0 o1 o2 o4
  go_region_held3 (fun w' : World => Below W.heap.size W w' ∧ w'.cell? ⟨w.heap.size, 1, none⟩ = some (.slice (some ⟨b, o, none⟩) t.moms.length c2) ∧ w'.cell? ⟨b, o + k * 6 + 5, none⟩ = some (.slice Av (elt t.moms k).vars.length cv) ∧
      w'.cell? ⟨w.heap.size + 1, 3, none⟩ = some (.string s.nm) ∧ w'.cell? ⟨w.heap.size + 1, 3, none⟩ = some (.string s.nm))
    (first | exact ⟨bl_drew (Below.refl _ _), x1, e5, s3, s3⟩ | exact held4 ‹_› hb7)
    (first | (go_at_call 158; refine (l3value_calls _ (elt t.moms k).vars s.nm _ (HVK.out.later (bl_then HB.out (held4_bl ‹_›)))).mono ?_; rintro e w8 ⟨rfl, hb7⟩))
  have hb : Below W.heap.size W w8 := held4_bl ‹_›
  obtain ⟨x1', s1, s3', o0, o1, o2, o4⟩ := HX.out
  replace x1' := cell_later hb x1'
  replace s1 := cell_later hb s1
  replace s3' := cell_later hb s3'
  replace o0 := cell_later hb o0
  replace o1 := cell_later hb o1
  replace o2 := cell_later hb o2
  replace o4 := cell_later hb o4
  have HB8 := Lib.hid (bl_then HB.out hb)
  have HY := Lib.hid (And.intro x1' (And.intro s3' (And.intro o1 o4)))
  clear HB HX hb hb7 x1 s3 e5 x1' s3' o1 o4
  obtain ⟨vo, hvo⟩ : ∃ vo, valP (elt t.moms k).vars s.nm = vo := ⟨_, rfl⟩
  have HVO := Lib.hid hvo
  rw [hvo]
  clear hvo
  obtain ⟨em, hem⟩ : ∃ em, (shownS t.moms k).top.isEmpty = em := ⟨_, rfl⟩
  have HEM := Lib.hid hem
  rw [hem] at o0 ⊢
  clear hem
  go_upto_region 3 with fail
  cases em with
  | true =>
    have HR : Hid (chgAt t.moms s k = false) := Lib.hid (by unfold chgAt; rw [shownP_own0 HEM.out])
    clear s1 o2
    go_wp2
    go_ret
    exact ⟨by rw [HR.out]; rfl, HB8.out⟩
  | false =>
    have HSH := Lib.hid (shownP_own HEM.out)
    obtain ⟨q1, hq1⟩ : ∃ q1, ((ownF t.moms k).fn == s.fn) = q1 := ⟨_, rfl⟩
    have HQ := Lib.hid hq1
    have hq1n : ((ownF t.moms k).fn != s.fn) = !q1 := by rw [bne, hq1]
    cases q1 with
    | false =>
      have HR : Hid (chgAt t.moms s k = false) := Lib.hid (by
        have hne : ¬ (ownF t.moms k).fn = s.fn := by have := HQ.out; simpa using this
        unfold chgAt
        rw [HSH.out, HVO.out]
        cases vo with
        | none => rfl
        | some x => dsimp only; rw [if_neg hne])
      simp only [Bool.not_false] at hq1n
      go_wp2
      go_ret
      exact ⟨by rw [HR.out]; rfl, HB8.out⟩
    | true =>
      simp only [Bool.not_true] at hq1n
      cases vo with
      | none =>
        have HR : Hid (chgAt t.moms s k = false) := Lib.hid (by unfold chgAt; rw [HSH.out, HVO.out])
        dsimp only [Option.getD_none, Option.isSome_none]
        go_wp2
        go_ret
        exact ⟨by rw [HR.out]; rfl, HB8.out⟩
      | some now =>
        have HR : Hid (chgAt t.moms s k = chgP t.moms s.nm (shownS t.moms k).cur (ownF t.moms k).frm now k) := Lib.hid (by
          have he : (ownF t.moms k).fn = s.fn := by have := HQ.out; simpa using this
          unfold chgAt
          rw [HSH.out, HVO.out]
          dsimp only
          rw [if_pos he])
        simp only [Option.getD_some, Option.isSome_some, Bool.not_false]
        go_upto_region 5 with fail
        go_upto_region 6 with fail
        clear o0 o2 s1 hq1 hq1n
        go_loopw [12] (fun i wr => ∃ x : Int, i = .int .i64 x ∧ -1 ≤ x ∧ x < k ∧ chgP t.moms s.nm (shownS t.moms k).cur (ownF t.moms k).frm now k = chgP t.moms s.nm (shownS t.moms k).cur (ownF t.moms k).frm now (x + 1).toNat ∧ Below w8.heap.size w8 wr) (fun i _ => (intOf i + 1).toNat)
        case atStart => exact ⟨(k : Int) - 1, rfl, by omega, by omega, by congr 1; omega, Below.refl _ _⟩
        case round =>
          obtain ⟨x, rfl, hx0, hx1, hf, hb⟩ := hrel
          have HF := Lib.hid hf
          have HBR := Lib.hid hb
          obtain ⟨x1, s3, o1, o4⟩ := HY.out
          replace x1 := cell_later hb x1
          replace s3 := cell_later hb s3
          replace o1 := cell_later hb o1
          replace o4 := cell_later hb o4
          clear hf hb
          by_cases hx : 0 ≤ x
          · obtain ⟨i, rfl⟩ : ∃ i : Nat, x = (i : Int) := ⟨x.toNat, by omega⟩
            have HE : Hid (((i : Int) + 1).toNat = i + 1) := Lib.hid (by omega)
            by_cases hfr : (i : Int) < (ownF t.moms k).frm
            · have HC : Hid (chgAt t.moms s k = true) := Lib.hid (by rw [HR.out, HF.out, HE.out, chg_stop hfr])
              have hfr2 : ¬ (ownF t.moms k).frm ≤ (i : Int) := by omega
              go_wp2
              go_ret
              exact ⟨by rw [HC.out]; rfl, bl_then HB8.out HBR.out⟩
            · have hfr2 : (ownF t.moms k).frm ≤ (i : Int) := by omega
              have HFR := Lib.hid hfr
              have hil : i < t.moms.length := by omega
              have hil2 : (i : Int) < (t.moms.length : Int) := by omega
              obtain ⟨bo', oo', he, g0, g1, g2, g3, g4⟩ := own_cells (HOW.out.later (bl_then HB8.out HBR.out)) hil
              obtain ⟨rfl, rfl⟩ : bo = bo' ∧ oo = oo' := by simpa using he
              obtain ⟨em, hem⟩ : ∃ em, (shownS t.moms i).top.isEmpty = em := ⟨_, rfl⟩
              have HEI := Lib.hid hem
              rw [hem] at g0
              obtain ⟨q1, hq1⟩ : ∃ q1, ((shownS t.moms i).cur != (shownS t.moms k).cur) = q1 := ⟨_, rfl⟩
              obtain ⟨q2, hq2⟩ : ∃ q2, ((ownF t.moms i).frm != (ownF t.moms k).frm) = q2 := ⟨_, rfl⟩
              have HQ1 := Lib.hid hq1
              have HQ2 := Lib.hid hq2
              clear hfr hem g2 g3
              go_upto_region 8 with fail
              cases em with
              | true =>
                go_quiet (fail)
                generalize hW9 : World.drewN wr _ = w9
                have hbl : Below wr.heap.size wr w9 := by rw [← hW9]; exact bl_drewN (Below.refl _ _) _
                clear hW9
                replace HBR := Lib.hid (bl_then HBR.out hbl)
                replace x1 := cell_later hbl x1
                replace s3 := cell_later hbl s3
                clear hbl
                have HSK : Hid (chgP t.moms s.nm (shownS t.moms k).cur (ownF t.moms k).frm now (i + 1) = chgP t.moms s.nm (shownS t.moms k).cur (ownF t.moms k).frm now i) := Lib.hid (chg_skip0 HFR.out (shownP_own0 HEI.out))
                go_wp2
                go_roundw
                case rel => exact ⟨(i : Int) - 1, by go_num, by omega, by omega, by rw [HF.out, HE.out, HSK.out]; congr 1; omega, HBR.out⟩
                case measure => simp [intOf]
              | false =>
                cases q1 with
                | true =>
                  go_quiet (fail)
                  generalize hW9 : World.drewN wr _ = w9
                  have hbl : Below wr.heap.size wr w9 := by rw [← hW9]; exact bl_drewN (Below.refl _ _) _
                  clear hW9
                  replace HBR := Lib.hid (bl_then HBR.out hbl)
                  replace x1 := cell_later hbl x1
                  replace s3 := cell_later hbl s3
                  clear hbl
                  have HSK : Hid (chgP t.moms s.nm (shownS t.moms k).cur (ownF t.moms k).frm now (i + 1) = chgP t.moms s.nm (shownS t.moms k).cur (ownF t.moms k).frm now i) := Lib.hid (chg_skip1 HFR.out (shownP_own HEI.out) (fun hh => by have := HQ1.out; rw [hh.1] at this; simp at this))
                  go_wp2
                  go_roundw
                  case rel => exact ⟨(i : Int) - 1, by go_num, by omega, by omega, by rw [HF.out, HE.out, HSK.out]; congr 1; omega, HBR.out⟩
                  case measure => simp [intOf]
                | false =>
                  cases q2 with
                  | true =>
                    go_quiet (fail)
                    generalize hW9 : World.drewN wr _ = w9
                    have hbl : Below wr.heap.size wr w9 := by rw [← hW9]; exact bl_drewN (Below.refl _ _) _
                    clear hW9
                    replace HBR := Lib.hid (bl_then HBR.out hbl)
                    replace x1 := cell_later hbl x1
                    replace s3 := cell_later hbl s3
                    clear hbl
                    have HSK : Hid (chgP t.moms s.nm (shownS t.moms k).cur (ownF t.moms k).frm now (i + 1) = chgP t.moms s.nm (shownS t.moms k).cur (ownF t.moms k).frm now i) := Lib.hid (chg_skip1 HFR.out (shownP_own HEI.out) (fun hh => by have := HQ2.out; rw [hh.2] at this; simp at this))
                    go_wp2
                    go_roundw
                    case rel => exact ⟨(i : Int) - 1, by go_num, by omega, by omega, by rw [HF.out, HE.out, HSK.out]; congr 1; omega, HBR.out⟩
                    case measure => simp [intOf]
                  | false =>
                    go_quiet (fail)
                    generalize hW9 : World.drewN wr _ = w9
                    have hbl : Below wr.heap.size wr w9 := by rw [← hW9]; exact bl_drewN (Below.refl _ _) _
                    clear hW9
                    replace HBR := Lib.hid (bl_then HBR.out hbl)
                    replace x1 := cell_later hbl x1
                    replace s3 := cell_later hbl s3
                    clear hbl
                    have HSI := Lib.hid (shownP_own HEI.out)
                    have HEQ : Hid ((shownS t.moms i).cur = (shownS t.moms k).cur ∧ (ownF t.moms i).frm = (ownF t.moms k).frm) := Lib.hid ⟨by have := HQ1.out; simpa using this, by have := HQ2.out; simpa using this⟩
                    obtain ⟨b2, oo2, vi, he2, -, -, -, -, -, f5, hvi⟩ := rd_moment HT.out.2 hil
                    obtain ⟨rfl, rfl⟩ : b = b2 ∧ o = oo2 := by simpa using he2
                    obtain ⟨Ai, ci, rfl, hvl2, -⟩ := id hvi
                    have HVI := Lib.hid hvi
                    have e5 := cell_later (bl_then HB8.out HBR.out) f5
                    clear f5 hvi hq1 hq2 g0 g1 g4 o1 o4
                    go_upto_region 9 with fail
                    go_region_held3 (fun w' : World => Below w9.heap.size w9 w' ∧ w'.cell? ⟨w.heap.size, 1, none⟩ = some (.slice (some ⟨b, o, none⟩) t.moms.length c2) ∧ w'.cell? ⟨b, o + i * 6 + 5, none⟩ = some (.slice Ai (elt t.moms i).vars.length ci) ∧
                        w'.cell? ⟨w.heap.size + 1, 3, none⟩ = some (.string s.nm) ∧ w'.cell? ⟨w.heap.size + 1, 3, none⟩ = some (.string s.nm))
                      (first | exact ⟨bl_drew (Below.refl _ _), x1, e5, s3, s3⟩ | exact held4 ‹_› hb7)
                      (first | (go_at_call 158; refine (l3value_calls _ (elt t.moms i).vars s.nm _ (HVI.out.later (bl_then (bl_then HB8.out HBR.out) (held4_bl ‹_›)))).mono ?_; rintro e w10 ⟨rfl, hb7⟩))
                    have hbl : Below w9.heap.size w9 w10 := held4_bl ‹_›
                    replace HBR := Lib.hid (bl_then HBR.out hbl)
                    clear hbl hb7 x1 s3 e5
                    obtain ⟨vi, hvi⟩ : ∃ vi, valP (elt t.moms i).vars s.nm = vi := ⟨_, rfl⟩
                    have HVV := Lib.hid hvi
                    rw [hvi]
                    clear hvi
                    cases vi with
                    | none =>
                      have HSK : Hid (chgP t.moms s.nm (shownS t.moms k).cur (ownF t.moms k).frm now (i + 1) = chgP t.moms s.nm (shownS t.moms k).cur (ownF t.moms k).frm now i) := Lib.hid (chg_none (by have := HFR.out; omega) HVV.out)
                      dsimp only [Option.getD_none, Option.isSome_none]
                      go_wp2
                      go_roundw
                      case rel => exact ⟨(i : Int) - 1, by go_num, by omega, by omega, by rw [HF.out, HE.out, HSK.out]; congr 1; omega, HBR.out⟩
                      case measure => simp [intOf]
                    | some u =>
                      have HC : Hid (chgAt t.moms s k = !(u.toList == now.toList)) := Lib.hid (by rw [HR.out, HF.out, HE.out, chg_hit (by have := HFR.out; omega) HSI.out HEQ.out HVV.out])
                      dsimp only [Option.getD_some, Option.isSome_some]
                      obtain ⟨q3, hq3⟩ : ∃ q3, (u.toList == now.toList) = q3 := ⟨_, rfl⟩
                      rw [hq3] at HC
                      cases q3
                      all_goals
                        go_wp2
                        go_ret
                        exact ⟨by rw [HC.out]; rfl, bl_then HB8.out HBR.out⟩
          · have HC : Hid (chgAt t.moms s k = true) := Lib.hid (by rw [HR.out, HF.out, show (x + 1).toNat = 0 by omega]; rfl)
            go_wp2
            go_ret
            exact ⟨by rw [HC.out]; rfl, bl_then HB8.out HBR.out⟩
end Go.Proofs.Ytcklnjjbhngbcaa

namespace Go.Proofs.Ytcklnjjbhngbcaa
open Go.RowKit Go.Proofs.Lens

theorem l3changes_un (v1 v2 v3 : Value) (t : PTr) (s : PStop) (k : Nat) (w : World) (h : RdTr w v1 v2 t) (hsm : smTr t) (hk : k < t.moms.length) (ho : RdSl w 5 t.moms.length (ownC t.moms) v3) :
    Calls Try.prog 148 #[.agg #[v1, v2], v3, .agg #[.int .i64 s.kind, .int .i64 s.fn, .int .i64 s.line, .string s.nm], .int .i64 k] w fun e w' => e = .returned (.bool (chgAt t.moms s k)) ∧ Below w.heap.size w w' := l3changes_calls v1 v2 v3 t s k w h hsm hk ho
set_option maxRecDepth 100000 in
set_option maxHeartbeats 8000000 in
theorem l3hits_calls (v1 v2 : Value) (t : PTr) (s : PStop) (w : World) (h : RdTr w v1 v2 t) (hsm : smTr t) (hs : soundP t = true) (hst : stopOk s = true) :
    Calls Try.prog 119 #[.agg #[v1, v2], stopV s] w (OwRet w 4 1 t.moms.length (hdC t.moms s)) := by
  have HT := Lib.hid h
  have HS := Lib.hid hsm
  have HSD := Lib.hid hs
  obtain ⟨⟨A1, c1, rfl, hn1, -⟩, ⟨vv, ⟨A2, c2, rfl, hn2, -⟩, -⟩⟩ := h
  have hso := sound_iff hs
  obtain ⟨nf0, nf1, nm1⟩ := sound_fns hso
  have SO := Lib.hid hso
  obtain ⟨hkd, hf0, hf1⟩ := stopOk_kind hst
  obtain ⟨C, hC, hc, hmk⟩ := make_law (P := Try.prog) 101 4 Try.underlying101 i_bool t.moms.length (by omega) (by omega)
  have HC := Lib.hid hC
  have Hc := Lib.hid hc
  have HKD := Lib.hid hkd
  unfold stopV
  clear hs hsm hso hC hc hst hkd
  go_enter Try.func119, Try.ntmps119
  go_upto_region 2 with fail
  generalize hW : World.alloc (World.alloc w _) _ = W
  have hX : Blk W w.heap.size 35 2 (fun j => #[Value.slice A1 t.fns.length c1, .slice A2 t.moms.length c2].getD j undef) := by rw [← hW]; exact (Blk.made w #[.slice A1 t.fns.length c1, .slice A2 t.moms.length c2] 35).later (by repeat (with_reducible first | exact Below.refl _ _ | exact HL.out | refine bl_drewN ?_ _ | refine bl_drew ?_ | refine bl_alloc ?_ _ | refine bl_set ?_ (by dsimp only; omega) _))
  have hS : Blk W (w.heap.size + 1) 27 4 (fun j => #[Value.int .i64 s.kind, .int .i64 s.fn, .int .i64 s.line, .string s.nm].getD j undef) := by
    rw [← hW]
    have := Blk.made (w.alloc (.cells #[.slice A1 t.fns.length c1, .slice A2 t.moms.length c2] 35)) #[.int .i64 s.kind, .int .i64 s.fn, .int .i64 s.line, .string s.nm] 27
    rw [World.size_alloc] at this
    exact this
  have hB : Below w.heap.size w W := by rw [← hW]; exact (by repeat (with_reducible first | exact Below.refl _ _ | exact HL.out | refine bl_drewN ?_ _ | refine bl_drew ?_ | refine bl_alloc ?_ _ | refine bl_set ?_ (by dsimp only; omega) _))
  have hsz : W.heap.size = w.heap.size + 1 + 1 := by rw [← hW]; simp
  clear hW
  have hO : OwR (W.alloc (.cells C 4)) W.heap.size 4 1 t.moms.length (hdN t.moms s 0) (.slice (some ⟨W.heap.size, 0, none⟩) t.moms.length t.moms.length) :=
    OwR.made HC.out Hc.out (by rfl) (by simp only [maxLen]; omega) _ (fun i hi j hj => by
      obtain rfl : j = 0 := by omega
      simp only [hdN, Nat.not_lt_zero, decide_false, Bool.false_and]
      rfl)
  rw [hsz] at hO
  have HO := Lib.hid hO
  have HX := Lib.hid (hX.alloc (.cells C 4))
  have HSB := Lib.hid (hS.alloc (.cells C 4))
  have HB := Lib.hid (bl_alloc hB (.cells C 4))
  generalize W.alloc (.cells C 4) = W1 at HO HX HSB HB ⊢
  clear hO hX hS hB
  have x0 : W1.cell? ⟨w.heap.size, 0, none⟩ = some (.slice A1 t.fns.length c1) := HX.out.cell (j := 0) (by simp)
  have x1 : W1.cell? ⟨w.heap.size, 1, none⟩ = some (.slice A2 t.moms.length c2) := HX.out.cell (j := 1) (by simp)
  generalize hgo : w.heap.size + 1 + 1 = go at *
  go_wp2_with fail
  refine (l3owners_calls _ _ t _ (HT.out.later HB.out) HS.out HSD.out).mono ?_; rintro e w2 ⟨v3, rfl, hP, hb⟩
  obtain ⟨A3, k3, rfl, -⟩ := hP.cap
  have HP := Lib.hid (hP.lower (lo' := w.heap.size) HB.out.size)
  clear hP x0 x1
  replace HB := Lib.hid (bl_then HB.out hb); replace HX := Lib.hid (HX.out.later hb); replace HO := Lib.hid (HO.out.later hb); replace HSB := Lib.hid (HSB.out.later hb); clear hb
  have x1 : w2.cell? ⟨w.heap.size, 1, none⟩ = some (.slice A2 t.moms.length c2) := HX.out.cell (j := 1) (by simp)
  go_wp2_with fail
  clear x1
  go_loopw [18] (fun i wr => ∃ n : Nat, n ≤ t.moms.length ∧ i = .int .i64 n ∧
    OwR wr go 4 1 t.moms.length (hdN t.moms s n) (.slice (some ⟨go, 0, none⟩) t.moms.length t.moms.length) ∧
    OwR wr w.heap.size 193 5 t.moms.length (ownC t.moms) (.slice A3 t.moms.length k3) ∧ Below w.heap.size w wr ∧
    Blk wr w.heap.size 35 2 (fun j => #[Value.slice A1 t.fns.length c1, .slice A2 t.moms.length c2].getD j undef) ∧
    Blk wr (w.heap.size + 1) 27 4 (fun j => #[Value.int .i64 s.kind, .int .i64 s.fn, .int .i64 s.line, .string s.nm].getD j undef)) (fun i _ => t.moms.length - (intOf i).toNat)
  case atStart => exact ⟨0, Nat.zero_le _, rfl, HO.out, HP.out, HB.out, HX.out, HSB.out⟩
  case round =>
    obtain ⟨n, hnn, rfl, hO, hP, hB, hX, hSB⟩ := hrel
    clear HO HB HX HP HSB
    have HO := Lib.hid hO
    have HP := Lib.hid hP
    have HB := Lib.hid hB
    have HX := Lib.hid hX
    have HSB := Lib.hid hSB
    clear hO hB hX hP hSB
    by_cases h2 : n < t.moms.length
    · obtain ⟨b, o, vk, hA, d0, d1, d2, d3, d4, d5, hvk⟩ := rd_moment (HT.out.2.later HB.out) h2
      obtain ⟨Av, cv, rfl, -⟩ := hvk
      subst hA
      go_upto_region 6 with fail
      have HMB : Hid (Blk (wr.alloc _) wr.heap.size 38 6 _) := Lib.hid (Blk.made wr #[.int .i64 (elt t.moms n).kind, .int .i64 (elt t.moms n).task, .int .i64 (elt t.moms n).fn, .int .i64 (elt t.moms n).line, .string (elt t.moms n).text, .slice Av (elt t.moms n).vars.length cv] 38)
      generalize hW2 : World.alloc wr _ = w3 at HMB ⊢
      have hbl : Below wr.heap.size wr w3 := by rw [← hW2]; exact bl_alloc (Below.refl _ _) _
      have hmb : w.heap.size + 1 < wr.heap.size := HSB.out.lt
      have hgob : go < wr.heap.size := HO.out.blt.2
      clear hW2 d0 d1 d2 d3 d4 d5
      replace HB := Lib.hid (bl_then HB.out hbl); replace HX := Lib.hid (HX.out.later hbl); replace HO := Lib.hid (HO.out.later hbl); replace HP := Lib.hid (HP.out.later hbl); replace HSB := Lib.hid (HSB.out.later hbl); clear hbl
      have y0 : w3.cell? ⟨wr.heap.size, 0, none⟩ = some (.int .i64 (elt t.moms n).kind) := HMB.out.cell (j := 0) (by simp)
      have y2 : w3.cell? ⟨wr.heap.size, 2, none⟩ = some (.int .i64 (elt t.moms n).fn) := HMB.out.cell (j := 2) (by simp)
      have y3 : w3.cell? ⟨wr.heap.size, 3, none⟩ = some (.int .i64 (elt t.moms n).line) := HMB.out.cell (j := 3) (by simp)
      have s0 : w3.cell? ⟨w.heap.size + 1, 0, none⟩ = some (.int .i64 s.kind) := HSB.out.cell (j := 0) (by simp)
      have s1 : w3.cell? ⟨w.heap.size + 1, 1, none⟩ = some (.int .i64 s.fn) := HSB.out.cell (j := 1) (by simp)
      have s2 : w3.cell? ⟨w.heap.size + 1, 2, none⟩ = some (.int .i64 s.line) := HSB.out.cell (j := 2) (by simp)
      have h2' : (n : Int) < (t.moms.length : Int) := by omega
      by_cases k3' : s.kind = 3
      · have hq1 : (s.kind == 1) = false := by simp [k3']
        have hq2 : (s.kind == 2) = false := by simp [k3']
        have hq3 : (s.kind == 3) = true := by simp [k3']
        have HK3 := Lib.hid k3'
        have s3 : w3.cell? ⟨w.heap.size + 1, 3, none⟩ = some (.string s.nm) := HSB.out.cell (j := 3) (by simp)
        have x0 : w3.cell? ⟨w.heap.size, 0, none⟩ = some (.slice A1 t.fns.length c1) := HX.out.cell (j := 0) (by simp)
        have x1 : w3.cell? ⟨w.heap.size, 1, none⟩ = some (.slice (some ⟨b, o, none⟩) t.moms.length c2) := HX.out.cell (j := 1) (by simp)
        clear k3'
        go_wp2_with fail
        refine (l3changes_un _ _ _ t s n _ (HT.out.later HB.out) HS.out h2 HP.out.rd).mono ?_; rintro e w4 ⟨rfl, hb⟩
        clear s0 s1 s2 s3 x0 x1 y0 y2 y3
        replace HB := Lib.hid (bl_then HB.out hb); replace HX := Lib.hid (HX.out.later hb); replace HO := Lib.hid (HO.out.later hb); replace HP := Lib.hid (HP.out.later hb); replace HSB := Lib.hid (HSB.out.later hb); clear hb
        have z2 := HO.out.free n
        have z3 : w4.cell? ⟨go, n, none⟩ = some (.bool false) := by
          have := HO.out.cells h2 (j := 0) (by omega)
          simpa [hdN] using this
        have HH : Hid (holdsP t.moms s n = chgAt t.moms s n) := Lib.hid (by unfold holdsP; rw [if_neg (by have := HK3.out; omega), if_neg (by have := HK3.out; omega), if_pos HK3.out, chgAt_eq SO.out s h2])
        generalize chgAt t.moms s n = r1 at HH ⊢
        go_wp2
        go_roundw
        case rel =>
          have hset := (Mv.refl [4] w.heap.size w4).setO HO.out (by omega) (by decide) n (.bool r1)
          exact ⟨n + 1, by omega, by go_num, hdN_set HO.out h2 HH.out, HP.out.mv hset (by decide), bl_trans3 HB.out hset.bl, HX.out.mv hset (by decide), HSB.out.mv hset (by decide)⟩
        case measure => simp [intOf]; omega
      · have hq3 : (s.kind == 3) = false := by simp [k3']
        have z2 := HO.out.free n
        have z3 : w3.cell? ⟨go, n, none⟩ = some (.bool false) := by
          have := HO.out.cells h2 (j := 0) (by omega)
          simpa [hdN] using this
        by_cases k1 : s.kind = 1
        · have hq1 : (s.kind == 1) = true := by simp [k1]
          have HH : Hid (holdsP t.moms s n = (((elt t.moms n).kind == 1) && ((elt t.moms n).fn == s.fn) && ((elt t.moms n).line == s.line))) := Lib.hid (by unfold holdsP; rw [if_pos k1, Bool.beq_eq_decide_eq, Bool.beq_eq_decide_eq, Bool.beq_eq_decide_eq])
          generalize hk1 : ((elt t.moms n).kind == 1) = r1 at HH
          generalize hk2 : ((elt t.moms n).fn == s.fn) = r2 at HH
          generalize hk3 : ((elt t.moms n).line == s.line) = r3 at HH
          clear k1 k3'
          cases r1 <;> cases r2 <;> cases r3
          all_goals
            go_wp2
            go_roundw
            case rel =>
              have hset := (Mv.refl [4] w.heap.size w3).setO HO.out (by omega) (by decide) n (.bool (holdsP t.moms s n))
              have hO2 := hdN_set HO.out h2 rfl
              rw [HH.out] at hset hO2
              exact ⟨n + 1, by omega, by go_num, hO2, HP.out.mv hset (by decide), bl_trans3 HB.out hset.bl, HX.out.mv hset (by decide), HSB.out.mv hset (by decide)⟩
            case measure => simp [intOf]; omega
        · have hq1 : (s.kind == 1) = false := by simp [k1]
          by_cases k2 : s.kind = 2
          · have hq2 : (s.kind == 2) = true := by simp [k2]
            have HH : Hid (holdsP t.moms s n = (((elt t.moms n).kind == 2) && ((elt t.moms n).fn == s.fn))) := Lib.hid (by unfold holdsP; rw [if_neg k1, if_pos k2, Bool.beq_eq_decide_eq, Bool.beq_eq_decide_eq])
            generalize hk1 : ((elt t.moms n).kind == 2) = r1 at HH
            generalize hk2 : ((elt t.moms n).fn == s.fn) = r2 at HH
            clear k1 k2 k3'
            cases r1 <;> cases r2
            all_goals
              go_wp2
              go_roundw
              case rel =>
                have hset := (Mv.refl [4] w.heap.size w3).setO HO.out (by omega) (by decide) n (.bool (holdsP t.moms s n))
                have hO2 := hdN_set HO.out h2 rfl
                rw [HH.out] at hset hO2
                exact ⟨n + 1, by omega, by go_num, hO2, HP.out.mv hset (by decide), bl_trans3 HB.out hset.bl, HX.out.mv hset (by decide), HSB.out.mv hset (by decide)⟩
              case measure => simp [intOf]; omega
          · have hq2 : (s.kind == 2) = false := by simp [k2]
            have HH : Hid (holdsP t.moms s n = ((elt t.moms n).kind == 4)) := Lib.hid (by unfold holdsP; rw [if_neg k1, if_neg k2, if_neg k3', Bool.beq_eq_decide_eq])
            generalize hk1 : ((elt t.moms n).kind == 4) = r1 at HH
            clear k1 k2 k3'
            cases r1
            all_goals
              go_wp2
              go_roundw
              case rel =>
                have hset := (Mv.refl [4] w.heap.size w3).setO HO.out (by omega) (by decide) n (.bool (holdsP t.moms s n))
                have hO2 := hdN_set HO.out h2 rfl
                rw [HH.out] at hset hO2
                exact ⟨n + 1, by omega, by go_num, hO2, HP.out.mv hset (by decide), bl_trans3 HB.out hset.bl, HX.out.mv hset (by decide), HSB.out.mv hset (by decide)⟩
              case measure => simp [intOf]; omega
    · obtain rfl : n = t.moms.length := by omega
      go_wp2
      go_ret
      refine ⟨_, rfl, ?_, HB.out⟩
      exact (HO.out.lower (by omega)).congr fun i hi j hj => by simp [hdN, hdC, hi]
end Go.Proofs.Ytcklnjjbhngbcaa

namespace Go.Proofs.Ytcklnjjbhngbcaa
open Go.RowKit Go.Proofs.Lens

theorem spec_StopOk_un (p : PStop) (w : World) {b : Bool} (h : stopOk p = b) : Calls Try.prog 26 #[.agg #[.int .i64 p.kind, .int .i64 p.fn, .int .i64 p.line, .string p.nm]] w fun e w' => e = .returned (.bool b) ∧ Below w.heap.size w w' := h ▸ spec_StopOk_calls p w
theorem l3hits_un (v1 v2 : Value) (t : PTr) (s : PStop) (w : World) (h : RdTr w v1 v2 t) (hsm : smTr t) (hs : soundP t = true) (hst : stopOk s = true) :
    Calls Try.prog 119 #[.agg #[v1, v2], .agg #[.int .i64 s.kind, .int .i64 s.fn, .int .i64 s.line, .string s.nm]] w (OwRet w 4 1 t.moms.length (hdC t.moms s)) := l3hits_calls v1 v2 t s w h hsm hs hst
set_option maxRecDepth 100000 in
set_option maxHeartbeats 2000000 in
theorem spec_StopsAt_calls (v1 v2 : Value) (t : PTr) (s : PStop) (k : Int) (w : World) (h : RdTr w v1 v2 t) (hsm : smTr t) :
    Calls Try.prog 67 #[.agg #[v1, v2], stopV s, .int .i64 k] w fun e w' => e = .returned (.bool (stopsAtP t s k)) ∧ Below w.heap.size w w' := by
  have HT := Lib.hid h
  have HS := Lib.hid hsm
  obtain ⟨⟨A1, c1, rfl, hn1, -⟩, ⟨vv, ⟨A2, c2, rfl, hn2, -⟩, -⟩⟩ := h
  have hsz := hsm.2.1
  clear hsm
  unfold stopV
  cases hs : soundP t with
  | false =>
    have HR : Hid (stopsAtP t s k = false) := Lib.hid (by unfold stopsAtP; rw [hs]; rfl)
    have HQ := Lib.hid hs
    clear hs
    go_enter Try.func67, Try.ntmps67
    go_wp2_with fail
    refine (l1ok_is _ _ t _ (HT.out.later (by repeat (with_reducible first | exact Below.refl _ _ | exact HL.out | refine bl_drewN ?_ _ | refine bl_drew ?_ | refine bl_alloc ?_ _ | refine bl_set ?_ (by dsimp only; omega) _))) HS.out HQ.out).mono ?_; rintro e w1 ⟨rfl, hb⟩
    have HB := Lib.hid (bl_then (bl_alloc (bl_alloc (Below.refl _ w) _) _) hb)
    clear hb
    go_wp2
    go_ret
    exact ⟨by rw [HR.out]; rfl, HB.out⟩
  | true =>
    have HQ := Lib.hid hs
    cases hst : stopOk s with
    | false =>
      have HR : Hid (stopsAtP t s k = false) := Lib.hid (by unfold stopsAtP; rw [hs, hst]; rfl)
      have HP := Lib.hid hst
      clear hs hst
      go_enter Try.func67, Try.ntmps67
      go_wp2_with fail
      refine (l1ok_is _ _ t _ (HT.out.later (by repeat (with_reducible first | exact Below.refl _ _ | exact HL.out | refine bl_drewN ?_ _ | refine bl_drew ?_ | refine bl_alloc ?_ _ | refine bl_set ?_ (by dsimp only; omega) _))) HS.out HQ.out).mono ?_; rintro e w1 ⟨rfl, hb⟩
      have HB := Lib.hid (bl_then (bl_alloc (bl_alloc (Below.refl _ w) _) _) hb)
      have HX := Lib.hid (((Blk.made w #[.slice A1 t.fns.length c1, .slice A2 t.moms.length c2] 35).alloc (.cells #[.int .i64 s.kind, .int .i64 s.fn, .int .i64 s.line, .string s.nm] 27)).later hb)
      have hY := (Blk.made (w.alloc (.cells #[.slice A1 t.fns.length c1, .slice A2 t.moms.length c2] 35)) #[.int .i64 s.kind, .int .i64 s.fn, .int .i64 s.line, .string s.nm] 27).later hb
      rw [World.size_alloc] at hY
      have HY := Lib.hid hY
      clear hb hY
      have y0 : w1.cell? ⟨w.heap.size + 1, 0, none⟩ = some (.int .i64 s.kind) := HY.out.cell (j := 0) (by simp)
      have y1 : w1.cell? ⟨w.heap.size + 1, 1, none⟩ = some (.int .i64 s.fn) := HY.out.cell (j := 1) (by simp)
      have y2 : w1.cell? ⟨w.heap.size + 1, 2, none⟩ = some (.int .i64 s.line) := HY.out.cell (j := 2) (by simp)
      have y3 : w1.cell? ⟨w.heap.size + 1, 3, none⟩ = some (.string s.nm) := HY.out.cell (j := 3) (by simp)
      go_wp2_with fail
      refine (spec_StopOk_un s _ HP.out).mono ?_; rintro e w2 ⟨rfl, hb⟩
      replace HB := Lib.hid (bl_then HB.out hb); clear hb
      go_wp2
      go_ret
      exact ⟨by rw [HR.out]; rfl, HB.out⟩
    | true =>
      have HR : Hid (stopsAtP t s k = (inB k 0 ((t.moms.length : Int) - 1) && holdsP t.moms s k.toNat)) := Lib.hid (by unfold stopsAtP; rw [hs, hst]; rfl)
      have HP := Lib.hid hst
      have hso := sound_iff hs
      obtain ⟨nf0, nf1, nm1⟩ := sound_fns hso
      clear hs hst hso
      go_enter Try.func67, Try.ntmps67
      go_wp2_with fail
      refine (l1ok_is _ _ t _ (HT.out.later (by repeat (with_reducible first | exact Below.refl _ _ | exact HL.out | refine bl_drewN ?_ _ | refine bl_drew ?_ | refine bl_alloc ?_ _ | refine bl_set ?_ (by dsimp only; omega) _))) HS.out HQ.out).mono ?_; rintro e w1 ⟨rfl, hb⟩
      have HB := Lib.hid (bl_then (bl_alloc (bl_alloc (Below.refl _ w) _) _) hb)
      have HX := Lib.hid (((Blk.made w #[.slice A1 t.fns.length c1, .slice A2 t.moms.length c2] 35).alloc (.cells #[.int .i64 s.kind, .int .i64 s.fn, .int .i64 s.line, .string s.nm] 27)).later hb)
      have hY := (Blk.made (w.alloc (.cells #[.slice A1 t.fns.length c1, .slice A2 t.moms.length c2] 35)) #[.int .i64 s.kind, .int .i64 s.fn, .int .i64 s.line, .string s.nm] 27).later hb
      rw [World.size_alloc] at hY
      have HY := Lib.hid hY
      clear hb hY
      have y0 : w1.cell? ⟨w.heap.size + 1, 0, none⟩ = some (.int .i64 s.kind) := HY.out.cell (j := 0) (by simp)
      have y1 : w1.cell? ⟨w.heap.size + 1, 1, none⟩ = some (.int .i64 s.fn) := HY.out.cell (j := 1) (by simp)
      have y2 : w1.cell? ⟨w.heap.size + 1, 2, none⟩ = some (.int .i64 s.line) := HY.out.cell (j := 2) (by simp)
      have y3 : w1.cell? ⟨w.heap.size + 1, 3, none⟩ = some (.string s.nm) := HY.out.cell (j := 3) (by simp)
      go_wp2_with fail
      refine (spec_StopOk_un s _ HP.out).mono ?_; rintro e w2 ⟨rfl, hb⟩
      clear y0 y1 y2 y3
      replace HB := Lib.hid (bl_then HB.out hb); replace HX := Lib.hid (HX.out.later hb); replace HY := Lib.hid (HY.out.later hb); clear hb
      cases hin : inB k 0 ((t.moms.length : Int) - 1) with
      | false =>
        have HI := Lib.hid hin
        have hno : k < 0 ∨ (t.moms.length : Int) ≤ k := by
          unfold inB at hin
          simp only [Bool.and_eq_false_iff, decide_eq_false_iff_not] at hin
          omega
        clear hin
        have x1 : w2.cell? ⟨w.heap.size, 1, none⟩ = some (.slice A2 t.moms.length c2) := HX.out.cell (j := 1) (by simp)
        by_cases hk : k < 0
        · go_wp2
          go_ret
          exact ⟨by rw [HR.out, HI.out]; rfl, HB.out⟩
        · have hk2 : (t.moms.length : Int) ≤ k := by omega
          have hk3 : 0 ≤ k := by omega
          clear hno
          go_wp2
          go_ret
          exact ⟨by rw [HR.out, HI.out]; rfl, HB.out⟩
      | true =>
        have HI := Lib.hid hin
        obtain ⟨hk0, hk1⟩ := inB_true.1 hin
        obtain ⟨n, rfl⟩ : ∃ n : Nat, k = (n : Int) := ⟨k.toNat, by omega⟩
        have hnl : n < t.moms.length := by omega
        have hnl2 : (n : Int) < (t.moms.length : Int) := by omega
        clear hin
        have x0 : w2.cell? ⟨w.heap.size, 0, none⟩ = some (.slice A1 t.fns.length c1) := HX.out.cell (j := 0) (by simp)
        have x1 : w2.cell? ⟨w.heap.size, 1, none⟩ = some (.slice A2 t.moms.length c2) := HX.out.cell (j := 1) (by simp)
        have y0 : w2.cell? ⟨w.heap.size + 1, 0, none⟩ = some (.int .i64 s.kind) := HY.out.cell (j := 0) (by simp)
        have y1 : w2.cell? ⟨w.heap.size + 1, 1, none⟩ = some (.int .i64 s.fn) := HY.out.cell (j := 1) (by simp)
        have y2 : w2.cell? ⟨w.heap.size + 1, 2, none⟩ = some (.int .i64 s.line) := HY.out.cell (j := 2) (by simp)
        have y3 : w2.cell? ⟨w.heap.size + 1, 3, none⟩ = some (.string s.nm) := HY.out.cell (j := 3) (by simp)
        go_wp2_with fail
        refine (l3hits_un _ _ t s _ (HT.out.later HB.out) HS.out HQ.out HP.out).mono ?_; rintro e w4 ⟨v, rfl, hO, hb⟩
        obtain ⟨A0, k0, rfl, hc1, hc2⟩ := hO.cap
        obtain ⟨A7, c7, e7, hop⟩ := hO.open'
        obtain ⟨b7, e8, -, -, hc, -⟩ := hop (by omega)
        cases e7
        subst e8
        have z : w4.cell? ⟨b7, n, none⟩ = some (.bool (holdsP t.moms s n)) := by
          have := hc n hnl 0 (by omega)
          simpa [hdC] using this
        replace HB := Lib.hid (bl_then HB.out hb); clear hb
        clear x0 x1 y0 y1 y2 y3 hO hop hc
        have h9 : (n : Int) < (t.moms.length : Int) := by omega
        go_wp2
        go_ret
        exact ⟨by rw [HR.out, HI.out]; simp, HB.out⟩
set_option maxRecDepth 100000 in
set_option maxHeartbeats 4000000 in
theorem spec_Hits_calls (v1 v2 : Value) (t : PTr) (s : PStop) (w : World) (h : RdTr w v1 v2 t) (hsm : smTr t) :
    Calls Try.prog 55 #[.agg #[v1, v2], stopV s] w (OwRet w 3 1 (hitsP t s).length (intC (hitsP t s))) := by
  have HT := Lib.hid h
  have HS := Lib.hid hsm
  obtain ⟨⟨A1, c1, rfl, hn1, -⟩, ⟨vv, ⟨A2, c2, rfl, hn2, -⟩, -⟩⟩ := h
  have hsz := hsm.2.1
  clear hsm
  unfold stopV
  cases hs : soundP t with
  | false =>
    have HR : Hid (hitsP t s = []) := Lib.hid (by unfold hitsP; rw [hs]; rfl)
    have HQ := Lib.hid hs
    clear hs
    go_enter Try.func55, Try.ntmps55
    go_wp2_with fail
    refine (l1ok_is _ _ t _ (HT.out.later (by repeat (with_reducible first | exact Below.refl _ _ | exact HL.out | refine bl_drewN ?_ _ | refine bl_drew ?_ | refine bl_alloc ?_ _ | refine bl_set ?_ (by dsimp only; omega) _))) HS.out HQ.out).mono ?_; rintro e w1 ⟨rfl, hb⟩
    have HB := Lib.hid (bl_then (bl_alloc (bl_alloc (Below.refl _ w) _) _) hb)
    clear hb
    go_wp2
    go_ret
    rw [HR.out]
    exact ⟨_, rfl, OwR.nil, HB.out⟩
  | true =>
    have HQ := Lib.hid hs
    have hso := sound_iff hs
    obtain ⟨nf0, nf1, nm1⟩ := sound_fns hso
    cases hst : stopOk s
    all_goals
      have HP := Lib.hid hst
      go_enter Try.func55, Try.ntmps55
      go_wp2_with fail
      refine (l1ok_is _ _ t _ (HT.out.later (by repeat (with_reducible first | exact Below.refl _ _ | exact HL.out | refine bl_drewN ?_ _ | refine bl_drew ?_ | refine bl_alloc ?_ _ | refine bl_set ?_ (by dsimp only; omega) _))) HS.out HQ.out).mono ?_; rintro e w1 ⟨rfl, hb⟩
      have HB := Lib.hid (bl_then (bl_alloc (bl_alloc (Below.refl _ w) _) _) hb)
      have HX := Lib.hid (((Blk.made w #[.slice A1 t.fns.length c1, .slice A2 t.moms.length c2] 35).alloc (.cells #[.int .i64 s.kind, .int .i64 s.fn, .int .i64 s.line, .string s.nm] 27)).later hb)
      have hY := (Blk.made (w.alloc (.cells #[.slice A1 t.fns.length c1, .slice A2 t.moms.length c2] 35)) #[.int .i64 s.kind, .int .i64 s.fn, .int .i64 s.line, .string s.nm] 27).later hb
      rw [World.size_alloc] at hY
      have HY := Lib.hid hY
      clear hb hY
      have y0 : w1.cell? ⟨w.heap.size + 1, 0, none⟩ = some (.int .i64 s.kind) := HY.out.cell (j := 0) (by simp)
      have y1 : w1.cell? ⟨w.heap.size + 1, 1, none⟩ = some (.int .i64 s.fn) := HY.out.cell (j := 1) (by simp)
      have y2 : w1.cell? ⟨w.heap.size + 1, 2, none⟩ = some (.int .i64 s.line) := HY.out.cell (j := 2) (by simp)
      have y3 : w1.cell? ⟨w.heap.size + 1, 3, none⟩ = some (.string s.nm) := HY.out.cell (j := 3) (by simp)
      go_wp2_with fail
      refine (spec_StopOk_un s _ HP.out).mono ?_; rintro e w2 ⟨rfl, hb⟩
      replace HB := Lib.hid (bl_then HB.out hb); replace HX := Lib.hid (HX.out.later hb); replace HY := Lib.hid (HY.out.later hb); clear hb
      clear y0 y1 y2 y3
    · have HR : Hid (hitsP t s = []) := Lib.hid (by unfold hitsP; rw [hs, hst]; rfl)
      clear hs hst
      go_wp2
      go_ret
      rw [HR.out]
      exact ⟨_, rfl, OwR.nil, HB.out⟩
    · have HR : Hid (hitsP t s = hitsN t.moms s t.moms.length) := Lib.hid (by unfold hitsP; rw [hs, hst]; rfl)
      clear hs hst
      have x0 : w2.cell? ⟨w.heap.size, 0, none⟩ = some (.slice A1 t.fns.length c1) := HX.out.cell (j := 0) (by simp)
      have x1 : w2.cell? ⟨w.heap.size, 1, none⟩ = some (.slice A2 t.moms.length c2) := HX.out.cell (j := 1) (by simp)
      have y0 : w2.cell? ⟨w.heap.size + 1, 0, none⟩ = some (.int .i64 s.kind) := HY.out.cell (j := 0) (by simp)
      have y1 : w2.cell? ⟨w.heap.size + 1, 1, none⟩ = some (.int .i64 s.fn) := HY.out.cell (j := 1) (by simp)
      have y2 : w2.cell? ⟨w.heap.size + 1, 2, none⟩ = some (.int .i64 s.line) := HY.out.cell (j := 2) (by simp)
      have y3 : w2.cell? ⟨w.heap.size + 1, 3, none⟩ = some (.string s.nm) := HY.out.cell (j := 3) (by simp)
      have hs2 := HB.out.size
      go_wp2_with fail
      refine (l3hits_un _ _ t s _ (HT.out.later HB.out) HS.out HQ.out HP.out).mono ?_; rintro e w4 ⟨v, rfl, hO, hb⟩
      obtain ⟨A0, k0, rfl, hc1, hc2⟩ := hO.cap
      have HH := Lib.hid hO
      clear x0 x1 y0 y1 y2 y3 hO HX HY
      replace HB := Lib.hid (bl_then HB.out hb); clear hb
      go_wp2_with fail
      go_loopw [5, 20] (fun ov i wr => ∃ q : Nat, q ≤ t.moms.length ∧ i = .int .i64 q ∧ OwR wr w.heap.size 3 1 (hitsN t.moms s q).length (intC (hitsN t.moms s q)) ov ∧ OwR wr w2.heap.size 4 1 t.moms.length (hdC t.moms s) (.slice A0 t.moms.length k0) ∧ Below w.heap.size w wr) (fun _ i _ => t.moms.length - (intOf i).toNat)
      case atStart => exact ⟨0, Nat.zero_le _, rfl, OwR.nil, HH.out, HB.out⟩
      case round =>
        obtain ⟨q, hq, rfl, hO, hH, hB⟩ := hrel
        clear HH HB
        have HO := Lib.hid hO
        have HB := Lib.hid hB
        have hsr := hB.size
        obtain ⟨A3, c3, rfl, -⟩ := hO.cap
        have hln := hitsN_len t.moms s q
        by_cases hlt : q < t.moms.length
        · obtain ⟨A7, c7, e7, hop⟩ := hH.open'
          obtain ⟨b7, e8, -, -, hc, -⟩ := hop (by omega)
          cases e7
          subst e8
          have z : wr.cell? ⟨b7, q, none⟩ = some (.bool (holdsP t.moms s q)) := by
            have := hc q hlt 0 (by omega)
            simpa [hdC] using this
          have HH := Lib.hid hH
          clear hO hH hB hop hc
          cases hd : holdsP t.moms s q with
          | false =>
            have HN : Hid (hitsN t.moms s (q + 1) = hitsN t.moms s q) := Lib.hid (by show (if _ then _ else _) = _; rw [hd]; rfl)
            rw [hd] at z
            clear hd
            go_wp2
            go_roundw
            case rel => exact ⟨q + 1, by omega, by go_num, by rw [HN.out]; exact HO.out, HH.out, HB.out⟩
            case measure => simp [intOf]; omega
          | true =>
            have HN : Hid (hitsN t.moms s (q + 1) = hitsN t.moms s q ++ [(q : Int)]) := Lib.hid (by show (if _ then _ else _) = _; rw [hd]; rfl)
            rw [hd] at z
            clear hd
            generalize hitsN t.moms s q = r at HO hln HN ⊢
            obtain ⟨nr, hnr⟩ : ∃ nr, r.length = nr := ⟨_, rfl⟩
            have HNR := Lib.hid hnr
            rw [hnr] at HO hln ⊢
            clear hnr
            go_wp2_with (at_builtin; refine stopped ?_)
            unfold Stopped
            refine wpList_append1 _ (by rfl) _ _ 39 (by rfl) w.heap.size 3 _ 1 8 Try.underlying39 i_int rfl (by omega) _ nr _ (intC (r ++ [(q : Int)])) (by rfl) HO.out [.int .i64 (q : Int)] rfl (by simp [Value.oneCell']) (by rfl) (fun i hi j _ => (intC_old r q (by rw [HNR.out]; exact hi) j).symm) ?hN hsr (by omega) (by omega) ?_
            case hN =>
              intro j hj
              obtain rfl : j = 0 := by omega
              have := intC_last r q 0
              rw [HNR.out] at this
              rw [this]; rfl
            intro ga cap w5 hO5 hG5 _ _
            have HB5 := Lib.hid (bl_own HB.out hsr HO.out hG5)
            have hm : Mv [3] w.heap.size wr w5 := (Mv.refl _ _ _).grown hsr hG5 (fun b hb => by obtain ⟨N, F, hBk⟩ := HO.out.block hb; exact ⟨(HO.out.lt b hb).1, _, N, F, hBk, by decide⟩)
            have HH5 := Lib.hid (HH.out.mv hm (by decide))
            have HO5 := Lib.hid hO5
            clear hO5 hG5 hm z
            go_wp2
            go_roundw
            case rel => exact ⟨q + 1, by omega, by go_num, by rw [HN.out, List.length_append, HNR.out]; exact HO5.out, HH5.out, HB5.out⟩
            case measure => simp [intOf]; omega
        · obtain rfl : q = t.moms.length := by omega
          go_wp2
          go_ret
          rw [HR.out]
          exact ⟨_, rfl, HO.out, HB.out⟩
end Go.Proofs.Ytcklnjjbhngbcaa
