/- Lemmas and contracts of functions that the theorem of this claim leans on (texts T19, Q2, Q3). -/
import Derived.Test.YtcklnjjbhngbcaaGreatDoorRowUnz39
import Derived.Test.YtcklnjjbhngbcaaGreatDoorRowUnz14
import Derived.Deep.QuietTactic
import Derived.BigQuiet
import Derived.Test.YtcklnjjbhngbcaaGreatDoorRowUnz40
import Derived.Test.YtcklnjjbhngbcaaGreatDoorRowUnz07
import Derived.Test.YtcklnjjbhngbcaaGreatDoorRowUnz08
import Derived.Test.YtcklnjjbhngbcaaGreatDoorRowUnz06
import Derived.Test.YtcklnjjbhngbcaaGreatDoorRowUnz37
namespace Go.Proofs.YtcklnjjbhngbcaaGreatDoor
open Go.RowKit Go.Proofs.Lens

theorem i_bools : (Tryz.prog.info? 165).map (fun i => (i.zero, i.size, i.bytes)) = some (some (.slice none 0 0), 1, 24) := by kernel_rfl
/-- The places of all stops. -/
def AllH (w : World) (lo n : Nat) (ms : List PMom) (ss : List PStop) (q : Nat) (v : Value) : Prop :=
  ∃ f : Nat → Value, OwR w lo 165 1 q (fun i _ => f i) v ∧ ∀ i, i < q → OwR w lo 4 1 n (hdC ms (elt ss i)) (f i)
theorem AllH.later {w w' : World} {lo n : Nat} {ms : List PMom} {ss : List PStop} {q : Nat} {v : Value} (h : AllH w lo n ms ss q v) (hb : Below w.heap.size w w') : AllH w' lo n ms ss q v := by
  obtain ⟨f, h1, h2⟩ := h
  exact ⟨f, h1.later hb, fun i hi => (h2 i hi).later hb⟩
theorem allH_cells {w : World} {lo n : Nat} {ms : List PMom} {ss : List PStop} {q : Nat} {v : Value} (h : AllH w lo n ms ss q v) : ∃ A c, v = .slice A q c ∧ q ≤ 9223372036854775807 ∧ ∀ i, i < q → ∃ b, A = some ⟨b, 0, none⟩ ∧ ∃ A' c', w.cell? ⟨b, i, none⟩ = some (.slice A' n c') ∧ ∀ k, k < n → ∃ b', A' = some ⟨b', 0, none⟩ ∧ w.cell? ⟨b', k, none⟩ = some (.bool (holdsP ms (elt ss i) k)) := by
  obtain ⟨f, hO, hF⟩ := h
  obtain ⟨A0, c0, rfl, h1, h2⟩ := hO.cap
  refine ⟨A0, c0, rfl, by omega, fun i hi => ?_⟩
  obtain ⟨A7, c7, e7, hop⟩ := hO.open'
  obtain ⟨b7, e8, -, -, hc, -⟩ := hop (by omega)
  cases e7
  subst e8
  refine ⟨b7, rfl, ?_⟩
  have hz := hc i hi 0 (by omega)
  obtain ⟨A9, c9, e9, hop2⟩ := (hF i hi).open'
  refine ⟨A9, c9, ?_, fun k hk => ?_⟩
  · rw [← e9]; simpa using hz
  · obtain ⟨b9, e10, -, -, hc2, -⟩ := hop2 (by omega)
    have := hc2 k hk 0 (by omega)
    exact ⟨b9, e10, by simpa [hdC] using this⟩
set_option maxRecDepth 100000 in
set_option maxHeartbeats 2000000 in
theorem l3any_calls (lo n : Nat) (ms : List PMom) (ss : List PStop) (v : Value) (k : Nat) (w : World) (h : AllH w lo n ms ss ss.length v) (hk : k < n) :
    Calls Tryz.prog 142 #[v, .int .i64 k] w fun e w' => e = .returned (.bool (anyP ms ss k)) ∧ w = w' := by
  obtain ⟨A, c, rfl, hl, hc⟩ := allH_cells h
  have HC := Lib.hid hc
  have HA : Hid (anyP ms ss k = anyN ms ss ss.length k) := Lib.hid (by unfold anyN anyP; rw [List.take_length])
  have hk2 : (k : Int) < (n : Int) := by omega
  clear h hc
  go_enter Tryz.func142, Tryz.ntmps142
  go_wp2_with fail
  go_loopw [9] (fun i wr => ∃ q : Nat, q ≤ ss.length ∧ i = .int .i64 q ∧ anyN ms ss q k = false ∧ wr = w) (fun i _ => ss.length - (intOf i).toNat)
  case atStart => exact ⟨0, Nat.zero_le _, rfl, by simp [anyN], rfl⟩
  case round =>
    obtain ⟨q, hq, rfl, hno, rfl⟩ := hrel
    have HNO := Lib.hid hno
    clear hno
    by_cases hlt : q < ss.length
    · obtain ⟨b, rfl, A', c', x0, hx⟩ := HC.out q hlt
      obtain ⟨b', rfl, x1⟩ := hx k hk
      have HS := Lib.hid (anyN_succ ms ss hlt k)
      clear hx
      obtain ⟨q1, hq1⟩ : ∃ q1, holdsP ms (elt ss q) k = q1 := ⟨_, rfl⟩
      have HQ := Lib.hid hq1
      rw [hq1] at x1
      clear hq1
      cases q1 with
      | true =>
        have HT : Hid (anyP ms ss k = true) := Lib.hid (by
          unfold anyP
          rw [List.any_eq_true]
          exact ⟨elt ss q, by rw [elt_eq hlt]; exact List.getElem_mem _, HQ.out⟩)
        go_wp2
        go_ret
        exact ⟨by rw [HT.out]; rfl, rfl⟩
      | false =>
        go_wp2
        go_roundw
        case rel => exact ⟨q + 1, by omega, by go_num, by rw [HS.out, HNO.out, HQ.out]; rfl, trivial⟩
        case measure => simp [intOf]; omega
    · obtain rfl : q = ss.length := by omega
      go_wp2
      go_ret
      exact ⟨by rw [HA.out, HNO.out]; rfl, rfl⟩
set_option maxRecDepth 100000 in
set_option maxHeartbeats 2000000 in
theorem l3next_calls (lo n m : Nat) (ms : List PMom) (ss : List PStop) (v : Value) (k : Int) (w : World) (h : AllH w lo n ms ss ss.length v) (hn : n ≤ 1048576) (hk0 : -1 ≤ k) (hk1 : k ≤ n) (hm : k + 1 = (m : Int)) :
    Calls Tryz.prog 91 #[v, .int .i64 n, .int .i64 k] w fun e w' => e = .returned (.int .i64 (firstB (anyP ms ss) n (n - m) m : Nat)) ∧ w = w' := by
  have HH := Lib.hid h
  clear h
  go_enter Tryz.func91, Tryz.ntmps91
  go_upto_region 2 with fail
  go_loopw [7] (fun i wr => ∃ q : Nat, i = .int .i64 q ∧ m ≤ q ∧ firstB (anyP ms ss) n (n - q) q = firstB (anyP ms ss) n (n - m) m ∧ wr = w) (fun i _ => n - (intOf i).toNat)
  case atStart => exact ⟨m, rfl, Nat.le_refl _, rfl, rfl⟩
  case round =>
    obtain ⟨q, rfl, hmq, hf, rfl⟩ := hrel
    have HF := Lib.hid hf
    clear hf
    by_cases hlt : q < n
    · have hlt2 : (q : Int) < (n : Int) := by omega
      go_wp2_with fail
      refine (l3any_calls lo n ms ss v q _ HH.out hlt).mono ?_; rintro e w1 ⟨rfl, rfl⟩
      obtain ⟨q1, hq1⟩ : ∃ q1, anyP ms ss q = q1 := ⟨_, rfl⟩
      have HQ := Lib.hid hq1
      rw [hq1]
      clear hq1
      cases q1 with
      | true =>
        go_wp2
        go_ret
        exact ⟨by rw [← HF.out, firstB_hit hlt HQ.out]; rfl, rfl⟩
      | false =>
        go_wp2
        go_roundw
        case rel => exact ⟨q + 1, by go_num, by omega, by rw [← HF.out, firstB_skip hlt HQ.out], trivial⟩
        case measure => simp [intOf]; omega
    · have hge : n ≤ q := by omega
      go_wp2
      go_ret
      exact ⟨by rw [← HF.out, firstB_end hge]; rfl, rfl⟩
set_option maxRecDepth 100000 in
set_option maxHeartbeats 2000000 in
theorem l3last_calls (lo n : Nat) (ms : List PMom) (ss : List PStop) (v : Value) (k : Int) (w : World) (h : AllH w lo n ms ss ss.length v) (hn : n ≤ 1048576) (hk0 : -1 ≤ k) (hk1 : k ≤ n) :
    Calls Tryz.prog 92 #[v, .int .i64 k] w fun e w' => e = .returned (.int .i64 (lastB (anyP ms ss) k.toNat)) ∧ w = w' := by
  have HH := Lib.hid h
  clear h
  go_enter Tryz.func92, Tryz.ntmps92
  go_upto_region 2 with fail
  go_loopw [5] (fun i wr => ∃ x : Int, i = .int .i64 x ∧ -2 ≤ x ∧ x < n ∧ lastB (anyP ms ss) k.toNat = lastB (anyP ms ss) (x + 1).toNat ∧ wr = w) (fun i _ => (intOf i + 2).toNat)
  case atStart => exact ⟨k - 1, rfl, by omega, by omega, by congr 1; omega, rfl⟩
  case round =>
    obtain ⟨x, rfl, x0, x1, hf, rfl⟩ := hrel
    have HF := Lib.hid hf
    clear hf
    by_cases hx : 0 ≤ x
    · obtain ⟨q, rfl⟩ : ∃ q : Nat, x = (q : Int) := ⟨x.toNat, by omega⟩
      have hlt : q < n := by omega
      have HE : Hid (((q : Int) + 1).toNat = q + 1) := Lib.hid (by omega)
      go_wp2_with fail
      refine (l3any_calls lo n ms ss v q _ HH.out hlt).mono ?_; rintro e w1 ⟨rfl, rfl⟩
      obtain ⟨q1, hq1⟩ : ∃ q1, anyP ms ss q = q1 := ⟨_, rfl⟩
      have HQ := Lib.hid hq1
      rw [hq1]
      clear hq1
      cases q1 with
      | true =>
        go_wp2
        go_ret
        exact ⟨by rw [HF.out, HE.out, lastB, if_pos HQ.out]; rfl, rfl⟩
      | false =>
        go_wp2
        go_roundw
        case rel => exact ⟨(q : Int) - 1, by go_num, by omega, by omega, by rw [HF.out, HE.out, lastB, if_neg (by rw [HQ.out]; simp)]; congr 1; omega, trivial⟩
        case measure => simp [intOf]; omega
    · have HE : Hid ((x + 1).toNat = 0) := Lib.hid (by omega)
      go_wp2
      go_ret
      exact ⟨by rw [HF.out, HE.out]; rfl, rfl⟩
end Go.Proofs.YtcklnjjbhngbcaaGreatDoor

namespace Go.Proofs.YtcklnjjbhngbcaaGreatDoor
open Go.RowKit Go.Proofs.Lens
set_option linter.unusedSimpArgs false

/-- The types of the reference's own blocks that asks turn. -/
def qTys : List TypeId := [81, 165, 3]
def slF (v1 v2 : Value) (k : Int) (hv pv : Value) (j : Nat) : Value := match j with
  | 0 => v1 | 1 => v2 | 2 => .int .i64 k | 3 => hv | _ => pv
/-- The reference's session l of a trace of n moments in the state L. -/
structure SpL (w : World) (lo l n : Nat) (ms : List PMom) (v1 v2 : Value) (L : Lk) (hv pv : Value) : Prop where
  blk : Blk w l 81 5 (slF v1 v2 L.place hv pv)
  hits : AllH w lo n ms L.ss L.ss.length hv
  past : OwR w lo 3 1 L.past.length (intC L.past) pv
section
variable {w w' : World} {lo l n : Nat} {ms : List PMom} {v1 v2 hv pv : Value} {L : Lk}
theorem AllH.mv {ts : List TypeId} {lo2 : Nat} {ss : List PStop} {q : Nat} {v : Value} (h : AllH w lo n ms ss q v) (hm : Mv ts lo2 w w') (h1 : 165 ∉ ts) (h2 : 4 ∉ ts) : AllH w' lo n ms ss q v := by
  obtain ⟨f, a, b⟩ := h
  exact ⟨f, a.mv hm h1, fun i hi => (b i hi).mv hm h2⟩
theorem AllH.cap {ss : List PStop} {q : Nat} {v : Value} (h : AllH w lo n ms ss q v) : ∃ A c, v = .slice A q c ∧ q ≤ c := by
  obtain ⟨f, a, b⟩ := h
  obtain ⟨A, c, e, h, -⟩ := a.cap
  exact ⟨A, c, e, h⟩
theorem AllH.other {ss : List PStop} {q b N : Nat} {v : Value} {e : TypeId} {F : Nat → Value} (h : AllH w lo n ms ss q v) (hB : Blk w b e N F) (h1 : 165 ≠ e) (h2 : 4 ≠ e) (j : Nat) (u : Value) : AllH (w.setCell ⟨b, j, none⟩ u) lo n ms ss q v := by
  obtain ⟨f, a, c⟩ := h
  exact ⟨f, a.other hB h1 _ _, fun i hi => (c i hi).other hB h2 _ _⟩
theorem SpL.later (h : SpL w lo l n ms v1 v2 L hv pv) (hb : Below w.heap.size w w') : SpL w' lo l n ms v1 v2 L hv pv := ⟨h.blk.later hb, h.hits.later hb, h.past.later hb⟩
theorem SpL.mv {ts : List TypeId} {lo2 : Nat} (h : SpL w lo l n ms v1 v2 L hv pv) (hm : Mv ts lo2 w w') (h1 : 81 ∉ ts) (h2 : 165 ∉ ts) (h3 : 4 ∉ ts) (h4 : 3 ∉ ts) : SpL w' lo l n ms v1 v2 L hv pv := ⟨h.blk.mv hm h1, h.hits.mv hm h2 h3, h.past.mv hm h4⟩
theorem SpL.setAt (h : SpL w lo l n ms v1 v2 L hv pv) (k : Int) : SpL (w.setCell ⟨l, 2, none⟩ (.int .i64 k)) lo l n ms v1 v2 ⟨k, L.ss, L.past⟩ hv pv :=
  ⟨(h.blk.set (j := 2) (by omega) _).congr fun j hj => by
    match j, hj with
    | 0, _ => rfl
    | 1, _ => rfl
    | 2, _ => rfl
    | 3, _ => rfl
    | 4, _ => rfl, h.hits.other h.blk (by decide) (by decide) _ _, h.past.other h.blk (by decide) _ _⟩
theorem SpL.ofHits {k : Int} {ss : List PStop} {past : List Int} {u : Value} (h : Blk w l 81 5 (slF v1 v2 k hv pv)) (hH : AllH w lo n ms ss ss.length u) (hp : OwR w lo 3 1 past.length (intC past) pv) : SpL (w.setCell ⟨l, 3, none⟩ u) lo l n ms v1 v2 ⟨k, ss, past⟩ u pv :=
  ⟨(h.set (j := 3) (by omega) _).congr fun j hj => by
    match j, hj with
    | 0, _ => rfl
    | 1, _ => rfl
    | 2, _ => rfl
    | 3, _ => rfl
    | 4, _ => rfl, hH.other h (by decide) (by decide) _ _, hp.other h (by decide) _ _⟩
theorem SpL.ofPast {k : Int} {ss : List PStop} {past : List Int} {u : Value} (h : Blk w l 81 5 (slF v1 v2 k hv pv)) (hH : AllH w lo n ms ss ss.length hv) (hp : OwR w lo 3 1 past.length (intC past) u) : SpL (w.setCell ⟨l, 4, none⟩ u) lo l n ms v1 v2 ⟨k, ss, past⟩ hv u :=
  ⟨(h.set (j := 4) (by omega) _).congr fun j hj => by
    match j, hj with
    | 0, _ => rfl
    | 1, _ => rfl
    | 2, _ => rfl
    | 3, _ => rfl
    | 4, _ => rfl, hH.other h (by decide) (by decide) _ _, hp.other h (by decide) _ _⟩
end
theorem i_intQ : (Tryz.prog.info? 3).map (fun i => (i.zero, i.size, i.bytes)) = some (some (.int .i64 0), 1, 8) := by kernel_rfl
theorem intC_oldQ (xs : List Int) (x : Int) {i : Nat} (hi : i < xs.length) (j : Nat) : intC xs i j = intC (xs ++ [x]) i j := by
  unfold intC
  rw [elt_app _ _ hi]
theorem intC_newQ (xs : List Int) (x : Int) (j : Nat) : intC (xs ++ [x]) xs.length j = .int .i64 x := by
  unfold intC
  rw [elt_last]
set_option maxRecDepth 100000 in
set_option maxHeartbeats 4000000 in
theorem l5move_calls (lo l n : Nat) (ms : List PMom) (v1 v2 : Value) (L : Lk) (hv pv : Value) (k : Int) (w : World) (h : SpL w lo l n ms v1 v2 L hv pv) (hlo : lo ≤ l) (hl : L.past.length ≤ 1000000) :
    Calls Tryz.prog 90 #[.pointer (some ⟨l, 0, none⟩), .int .i64 k] w fun e w' => e = .returned (.tuple #[]) ∧ (∃ pv', SpL w' lo l n ms v1 v2 (L.move k) hv pv') ∧ Mv qTys lo w w' := by
  obtain ⟨A, c, rfl, -⟩ := h.past.cap
  have hlw : lo ≤ w.heap.size := Nat.le_trans hlo (Nat.le_of_lt h.blk.lt)
  have H := Lib.hid (h.later (bl_drew (Below.refl _ w)))
  have HMV := Lib.hid ((Mv.refl qTys lo w).drew)
  have hlw2 : lo ≤ w.drew.heap.size := hlw
  clear h hlw
  go_enter Tryz.func90, Tryz.ntmps90
  go_upto_region 0 with fail
  refine wp_region_F 13 (fun w' : World => w'.cell? ⟨l, 2, none⟩ = some (.int .i64 L.place) ∧ w'.cell? ⟨l, 4, none⟩ = some (.slice A L.past.length c)) (by kernel_rfl) ?_
  generalize w.drew = W2 at H HMV hlw2 ⊢
  have HS0 : Hid (W2.cell? ⟨l, 2, none⟩ = some (.int .i64 L.place) ∧ W2.cell? ⟨l, 4, none⟩ = some (.slice A L.past.length c)) := Lib.hid ⟨H.out.blk.cell (j := 2) (by omega), H.out.blk.cell (j := 4) (by omega)⟩
  refine wpAnyF_takeC 0 [] (v := ?v0m) (by rfl) (by kernel_rfl) (by intro _ _ _ h; exact h) HS0.out (by rfl) ?hy0m ?rest0m
  case hy0m =>
    intro w' hSw
    obtain ⟨s0, s1⟩ := hSw
    go_simp
    try with_reducible rfl
  simp only [Act.put, List.setIfInBounds_toArray, List.set_cons_zero, List.set_cons_succ]
  refine wpAnyF_takeC 1 [] (v := ?v1m) (by rfl) (by kernel_rfl) (by intro _ _ _ h; exact h) HS0.out (by rfl) ?hy1m ?rest1m
  case hy1m =>
    intro w' hSw
    obtain ⟨s0, s1⟩ := hSw
    go_simp
    try with_reducible rfl
  simp only [Act.put, List.setIfInBounds_toArray, List.set_cons_zero, List.set_cons_succ]
  refine wpAnyF_takeC 2 [] (v := ?v2m) (by rfl) (by kernel_rfl) (by intro _ _ _ h; exact h) HS0.out (by rfl) ?hy2m ?rest2m
  case hy2m =>
    intro w' hSw
    obtain ⟨s0, s1⟩ := hSw
    go_simp
    try with_reducible rfl
  simp only [Act.put, List.setIfInBounds_toArray, List.set_cons_zero, List.set_cons_succ]
  refine wpAnyF_takeC 3 [] (v := ?v3m) (by rfl) (by kernel_rfl) (by intro _ _ _ h; exact h) HS0.out (by rfl) ?hy3m ?rest3m
  case hy3m =>
    intro w' hSw
    obtain ⟨s0, s1⟩ := hSw
    go_simp
    try with_reducible rfl
  simp only [Act.put, List.setIfInBounds_toArray, List.set_cons_zero, List.set_cons_succ]
  refine wpAnyF_takeC 4 [] (v := ?v4m) (by rfl) (by kernel_rfl) (by intro _ _ _ h; exact h) HS0.out (by rfl) ?hy4m ?rest4m
  case hy4m =>
    intro w' hSw
    obtain ⟨s0, s1⟩ := hSw
    go_simp
    try with_reducible rfl
  simp only [Act.put, List.setIfInBounds_toArray, List.set_cons_zero, List.set_cons_succ]
  refine wpAnyF_takeC 5 [] (v := ?v5m) (by rfl) (by kernel_rfl) (by intro _ _ _ h; exact h) HS0.out (by rfl) ?hy5m ?rest5m
  case hy5m =>
    intro w' hSw
    obtain ⟨s0, s1⟩ := hSw
    go_simp
    try with_reducible rfl
  simp only [Act.put, List.setIfInBounds_toArray, List.set_cons_zero, List.set_cons_succ]
  refine wpAnyF_takeC 6 [] (v := ?v6m) (by rfl) (by kernel_rfl) (by intro _ _ _ h; exact h) HS0.out (by rfl) ?hy6m ?rest6m
  case hy6m =>
    intro w' hSw
    obtain ⟨s0, s1⟩ := hSw
    go_simp
    try with_reducible rfl
  simp only [Act.put, List.setIfInBounds_toArray, List.set_cons_zero, List.set_cons_succ]
  refine wpAnyF_takeC 7 [] (v := ?v7m) (by rfl) (by kernel_rfl) (by intro _ _ _ h; exact h) HS0.out (by rfl) ?hy7m ?rest7m
  case hy7m =>
    intro w' hSw
    obtain ⟨s0, s1⟩ := hSw
    go_simp
    try with_reducible rfl
  simp only [Act.put, List.setIfInBounds_toArray, List.set_cons_zero, List.set_cons_succ]
  refine wpAnyF_takeC 8 [] (v := ?v8m) (by rfl) (by kernel_rfl) (by intro _ _ _ h; exact h) HS0.out (by rfl) ?hy8m ?rest8m
  case hy8m =>
    intro w' hSw
    obtain ⟨s0, s1⟩ := hSw
    go_simp
    try with_reducible rfl
  simp only [Act.put, List.setIfInBounds_toArray, List.set_cons_zero, List.set_cons_succ]
  refine wpAnyF_one 9 (by rfl) (by kernel_rfl) rfl ?_
  intro K hK
  go_simp
  have hba := bl_alloc (Below.refl _ W2) (.cells #[.int .i64 L.place] 3)
  refine hK.out _ _ (fun _ => ⟨cell_later hba HS0.out.1, cell_later hba HS0.out.2⟩) ?_
  clear hK K
  refine wpAnyF_one 10 (by rfl) (by kernel_rfl) rfl ?_
  intro K hK
  have hO := H.out.past.later hba
  refine wp_appendG _ _ _ 79 (by rfl) lo 3 _ 1 8 1 Tryz.underlying79 i_intQ rfl (by omega) _ L.past.length (intC L.past) (intC (L.past ++ [L.place])) (by rfl) hO
    [Value.int .i64 L.place] rfl (by omega) (fun u hu => by rw [List.mem_singleton.1 hu]; rfl) W2.heap.size 0 1 (by rfl) (new_at W2 [Value.int .i64 L.place] 3) (fun i hi j _ => intC_oldQ L.past L.place hi j) (fun i hi j hj => ?_) (by rw [World.size_alloc]; omega) (by omega) (by omega) ?_
  · obtain rfl : i = 0 := by omega
    obtain rfl : j = 0 := by omega
    show some (Value.int .i64 L.place) = some (intC (L.past ++ [L.place]) L.past.length 0)
    rw [intC_newQ]
  intro g9 cap9 w7 hO7 hg7 hat7 hlt7
  have hmv : Mv [3] lo (W2.alloc (.cells #[.int .i64 L.place] 3)) w7 := (Mv.refl _ _ _).grown (by rw [World.size_alloc]; omega) hg7 (fun b hb => by obtain ⟨N, F, hB⟩ := hO.block hb; exact ⟨(hO.lt b hb).1, _, N, F, hB, by simp⟩)
  have HBK := Lib.hid ((H.out.blk.later hba).mv hmv (by decide))
  have HHT := Lib.hid ((H.out.hits.later hba).mv hmv (by decide) (by decide))
  have HO7 := Lib.hid hO7
  have HM7 := Lib.hid ((HMV.out.trans (Mv.of_below hba hlw2)).trans (hmv.mono (ts' := qTys) (fun e he => by rw [List.mem_singleton.1 he]; decide)))
  have hS7 : w7.cell? ⟨l, 2, none⟩ = some (.int .i64 L.place) ∧ w7.cell? ⟨l, 4, none⟩ = some (.slice A L.past.length c) := ⟨HBK.out.cell (j := 2) (by omega), HBK.out.cell (j := 4) (by omega)⟩
  have HS7 := Lib.hid hS7
  refine hK.out _ _ (fun _ => HS7.out) ?_
  clear hK K hba hO hO7 hg7 hat7 hlt7 hmv H HMV HS0 hlw2
  obtain ⟨z2, z4⟩ := hS7
  have f4 := HBK.out.free 4
  refine wpAnyF_one 11 (by rfl) (by kernel_rfl) rfl ?_
  intro K hK
  go_simp
  refine hK.out _ _ (fun _ => HS7.out) ?_
  clear hK K
  refine wpAnyF_one 12 (by rfl) (by kernel_rfl) rfl ?_
  intro K hK
  go_simp
  refine hK.out _ _ (fun _ => HS7.out) ?_
  clear hK K
  refine wpAnyF_one 13 (by rfl) (by kernel_rfl) rfl ?_
  intro K hK
  go_simp
  refine hK.out _ _ (fun h => absurd rfl h) ?_
  clear hK K
  refine wpAnyF_done (by kernel_rfl) ?_ _
  have e9 : L.past.length + 1 = (L.past ++ [L.place]).length := by simp
  have hO9 := HO7.out
  rw [e9] at hO9
  have HSP := Lib.hid (SpL.ofPast HBK.out HHT.out hO9)
  have HM8 := Lib.hid (HM7.out.set (p := ⟨l, 4, none⟩) hlo HBK.out (by decide) (.slice (some ⟨g9, 0, none⟩) (L.past ++ [L.place]).length cap9))
  rw [← e9] at HSP HM8
  clear z2 z4 f4 hO9 HBK HHT HO7 HM7 HS7
  generalize World.setCell w7 _ _ = w8 at HSP HM8 ⊢
  have z2 : w8.cell? ⟨l, 2, none⟩ = some (.int .i64 L.place) := HSP.out.blk.cell (j := 2) (by omega)
  have f2 := HSP.out.blk.free 2
  go_wp2
  go_end0
  exact ⟨rfl, ⟨_, HSP.out.setAt k⟩, HM8.out.set (p := ⟨l, 2, none⟩) hlo HSP.out.blk (by decide) _⟩
set_option maxRecDepth 100000 in
set_option maxHeartbeats 4000000 in
theorem l5vars_calls (lo l n : Nat) (ms : List PMom) (v1 v2 : Value) (t : PTr) (L : Lk) (hv pv : Value) (w : World) (h : SpL w lo l n ms v1 v2 L hv pv) (hr : RdTr w v1 v2 t) (hsm : smTr t) (_hmn : t.moms.length ≤ 3000) (hpl : L.place ≤ 3000) (hpl0 : -1 ≤ L.place) :
    Calls Tryz.prog 97 #[.pointer (some ⟨l, 0, none⟩)] w (OwRet w 40 2 (varsAt t L.place).length (varC (varsAt t L.place))) := by
  have H := Lib.hid h
  have HR := Lib.hid hr
  have HSM := Lib.hid hsm
  obtain ⟨-, ⟨vv, ⟨A2, c2, rfl, hn2, -⟩, -⟩⟩ := hr
  have z1 : w.cell? ⟨l, 1, none⟩ = some (.slice A2 t.moms.length c2) := h.blk.cell (j := 1) (by omega)
  have z2 : w.cell? ⟨l, 2, none⟩ = some (.int .i64 L.place) := h.blk.cell (j := 2) (by omega)
  obtain ⟨p, hp⟩ : ∃ p, L.place = p := ⟨_, rfl⟩
  rw [hp] at z2 hpl hpl0 ⊢
  clear h hsm hp
  by_cases h0 : 0 ≤ p
  · obtain ⟨k, rfl⟩ : ∃ k : Nat, p = (k : Int) := ⟨p.toNat, by omega⟩
    by_cases h1 : k < t.moms.length
    · have h1' : (k : Int) < (t.moms.length : Int) := by omega
      have hva : varsAt t (k : Int) = (elt t.moms k).vars := by unfold varsAt; rw [if_pos (inB_true.2 ⟨by omega, by omega⟩)]; rfl
      rw [hva]
      have hvl := (HSM.out.2.2 k h1).2.1
      obtain ⟨b, o, vx, rfl, -, -, -, -, -, d5, hvx⟩ := rd_moment HR.out.2 (k := k) h1
      obtain ⟨Av, cv, rfl, -⟩ := id hvx
      have HVX := Lib.hid hvx
      clear hvx hva
      generalize (elt t.moms k).vars = xs at d5 HVX hvl ⊢
      go_enter Tryz.func97, Tryz.ntmps97
      go_wp2_with (go_quiet (fail))
      go_loopw [3, 37] (fun o i wr => ∃ j : Nat, j ≤ xs.length ∧ i = .int .i64 j ∧ OwR wr w.heap.size 40 2 j (varC xs) o ∧ Below w.heap.size w wr) (fun _ i _ => xs.length - (intOf i).toNat)
      case atStart => exact ⟨0, Nat.zero_le _, rfl, OwR.nil, bl_drewN (bl_drewN (Below.refl _ _) _) _⟩
      case round =>
        obtain ⟨j, hj, rfl, hO, hb⟩ := hrel
        have HO := Lib.hid hO
        have HB := Lib.hid hb
        obtain ⟨A3, c3, rfl, -⟩ := hO.cap
        have hsz := hb.size
        clear hO hb z1 z2 d5
        by_cases hlt : j < xs.length
        · have hlt' : (j : Int) < (xs.length : Int) := by omega
          obtain ⟨A', c', he, _, hrow⟩ := HVX.out.later HB.out
          obtain ⟨rfl, rfl⟩ : Av = A' ∧ cv = c' := by simpa using he
          obtain ⟨bx, ox, rfl, hc⟩ := hrow (by omega)
          have x0 : wr.cell? ⟨bx, ox + j * 2, none⟩ = some (.string (elt xs j).nm) := hc j hlt 0 (by omega)
          have x1 : wr.cell? ⟨bx, ox + j * 2 + 1, none⟩ = some (.string (elt xs j).tx) := hc j hlt 1 (by omega)
          clear hc he hrow
          go_wp2_with (at_builtin; refine stopped ?_)
          unfold Stopped
          have hba := bl_alloc (Below.refl _ wr) (.cells #[.string (elt xs j).nm, .string (elt xs j).tx] 40)
          have HO2 := Lib.hid (HO.out.later hba)
          have HB2 := Lib.hid (bl_then HB.out hba)
          have hsz2 : w.heap.size ≤ (wr.alloc (.cells #[.string (elt xs j).nm, .string (elt xs j).tx] 40)).heap.size := by rw [World.size_alloc]; omega
          refine wpList_append1 _ (by rfl) _ _ 36 (by rfl) w.heap.size 40 _ 2 32 Tryz.underlying36 i_var' rfl (by omega) _ j _ (varC xs) (by rfl) HO2.out [.string (elt xs j).nm, .string (elt xs j).tx] rfl (by simp [Value.oneCell']) (by rw [World.size_alloc]; rfl) (fun i hi k _ => rfl) ?_ hsz2 (by omega) (by omega) ?_
          · intro i hi
            match i, hi with
            | 0, _ => rfl
            | 1, _ => rfl
          intro g cap w1 hO1 hG1 _ _
          go_wp2
          go_roundw
          case rel => exact ⟨j + 1, by omega, by go_num, hO1, bl_own HB2.out hsz2 HO2.out hG1⟩
          case measure => simp [intOf]; omega
        · obtain rfl : j = xs.length := by omega
          go_wp2
          go_ret
          exact ⟨_, rfl, HO.out, HB.out⟩
    · have h1' : ¬ (k : Int) < (t.moms.length : Int) := by omega
      have hva : varsAt t (k : Int) = [] := by unfold varsAt; rw [if_neg (fun hh => by have := (inB_true.1 hh).2; omega)]
      rw [hva]
      go_enter Tryz.func97, Tryz.ntmps97
      go_wp2_with (go_quiet (fail))
      go_ret
      exact ⟨_, rfl, OwR.nil, bl_drewN (Below.refl _ _) _⟩
  · have h0' : p < 0 := by omega
    have hva : varsAt t p = [] := by unfold varsAt; rw [if_neg (fun hh => by have := (inB_true.1 hh).1; omega)]
    rw [hva]
    go_enter Tryz.func97, Tryz.ntmps97
    go_wp2_with (go_quiet (fail))
    go_ret
    exact ⟨_, rfl, OwR.nil, bl_drewN (Below.refl _ _) _⟩
end Go.Proofs.YtcklnjjbhngbcaaGreatDoor

namespace Go.Proofs.YtcklnjjbhngbcaaGreatDoor
open Go.RowKit Go.Proofs.Lens
set_option linter.unusedSimpArgs false

def askQs (r : PTold × Lk × Int) : PTold := if r.2.2 = 0 then r.1 else { td0 with code := r.2.2 }
/-- What the reference's ask answers. -/
def AnsPost (r : PTold × Lk × Int) (lo l n : Nat) (ms : List PMom) (v1 v2 : Value) (w : World) (e : Ending) (w' : World) : Prop :=
  ∃ sx vx hv pv, e = .returned (.agg #[.int .i64 (askQs r).place, .int .i64 (askQs r).code, .int .i64 (askQs r).num, .string (askQs r).text, sx, vx]) ∧ OwR w' w.heap.size 42 3 (askQs r).stack.length (frC (askQs r).stack) sx ∧ OwZ w' w.heap.size 40 2 (askQs r).vars.length (varC (askQs r).vars) vx ∧
    SpL w' lo l n ms v1 v2 r.2.1 hv pv ∧ Mv qTys lo w w'
def set6 (w : World) (b : Nat) (u0 u1 u2 u3 u4 u5 : Value) : World := (((((w.setCell ⟨b, 0, none⟩ u0).setCell ⟨b, 1, none⟩ u1).setCell ⟨b, 2, none⟩ u2).setCell ⟨b, 3, none⟩ u3).setCell ⟨b, 4, none⟩ u4).setCell ⟨b, 5, none⟩ u5
theorem set6_mv {Wx : World} {lo b : Nat} {F : Nat → Value} (hB : Blk Wx b 38 6 F) (hb : lo ≤ b) (u0 u1 u2 u3 u4 u5 : Value) : Mv [38] lo Wx (set6 Wx b u0 u1 u2 u3 u4 u5) := by
  have h0 := (Mv.refl [38] lo Wx).set (p := ⟨b, 0, none⟩) hb hB (by simp) u0
  have b0 := hB.set (j := 0) (by omega) u0
  have h1 := h0.set (p := ⟨b, 1, none⟩) hb b0 (by simp) u1
  have b1 := b0.set (j := 1) (by omega) u1
  have h2 := h1.set (p := ⟨b, 2, none⟩) hb b1 (by simp) u2
  have b2 := b1.set (j := 2) (by omega) u2
  have h3 := h2.set (p := ⟨b, 3, none⟩) hb b2 (by simp) u3
  have b3 := b2.set (j := 3) (by omega) u3
  have h4 := h3.set (p := ⟨b, 4, none⟩) hb b3 (by simp) u4
  have b4 := b3.set (j := 4) (by omega) u4
  exact h4.set (p := ⟨b, 5, none⟩) hb b4 (by simp) u5
theorem set6_new {ts : List TypeId} {w Wx : World} {lo b : Nat} (hM : Mv ts lo w Wx) (hb : lo ≤ b) (hw : w.heap.size ≤ b) (u0 u1 u2 u3 u4 u5 : Value) : Mv ts lo w (set6 Wx b u0 u1 u2 u3 u4 u5) :=
  (((((hM.setNew (p := ⟨b, 0, none⟩) hb hw u0).setNew (p := ⟨b, 1, none⟩) hb hw u1).setNew (p := ⟨b, 2, none⟩) hb hw u2).setNew (p := ⟨b, 3, none⟩) hb hw u3).setNew (p := ⟨b, 4, none⟩) hb hw u4).setNew (p := ⟨b, 5, none⟩) hb hw u5
theorem ans_end {r : PTold × Lk × Int} {lo l n b : Nat} {ms : List PMom} {v1 v2 sx vx hv pv : Value} {w Wx : World} {F : Nat → Value} {q : PTold} {u0 u1 u2 u3 u4 u5 : Value} (hq : q = askQs r) (hS : SpL Wx lo l n ms v1 v2 r.2.1 hv pv) (hB : Blk Wx b 38 6 F) (h1 : OwR Wx w.heap.size 42 3 q.stack.length (frC q.stack) sx) (h2 : OwZ Wx w.heap.size 40 2 q.vars.length (varC q.vars) vx)
    (hM : Mv qTys lo w Wx) (hw : w.heap.size ≤ b) (hlo : lo ≤ w.heap.size) : AnsPost r lo l n ms v1 v2 w (.returned (.agg #[.int .i64 q.place, .int .i64 q.code, .int .i64 q.num, .string q.text, sx, vx])) (set6 Wx b u0 u1 u2 u3 u4 u5) := by
  subst hq
  have hm := set6_mv hB (Nat.le_trans hlo hw) u0 u1 u2 u3 u4 u5
  exact ⟨sx, vx, hv, pv, rfl, h1.mv hm (by decide), h2.mv hm (by decide), hS.mv hm (by decide) (by decide) (by decide) (by decide), set6_new hM (Nat.le_trans hlo hw) hw _ _ _ _ _ _⟩
theorem told_box (w : World) : Blk (w.alloc (.cells #[.int .i64 0, .int .i64 0, .int .i64 0, .string ⟨#[]⟩, .slice none 0 0, .slice none 0 0] 38)) w.heap.size 38 6 (tdF td0 (.slice none 0 0) (.slice none 0 0)) :=
  (Blk.made w #[.int .i64 0, .int .i64 0, .int .i64 0, .string ⟨#[]⟩, .slice none 0 0, .slice none 0 0] 38).congr fun j hj => by
    have hj : j < 6 := hj
    match j, hj with
    | 0, _ => rfl
    | 1, _ => rfl
    | 2, _ => rfl
    | 3, _ => rfl
    | 4, _ => rfl
    | 5, _ => rfl
theorem ask_box (w : World) (op n : Int) (nm : ByteArray) (st : PStop) : Blk (w.alloc (.cells #[.int .i64 op, .int .i64 n, .string nm, .int .i64 st.kind, .int .i64 st.fn, .int .i64 st.line, .string st.nm] 47)) w.heap.size 47 7 (askC [⟨op, n, nm, st⟩] 0) :=
  (Blk.made w #[.int .i64 op, .int .i64 n, .string nm, .int .i64 st.kind, .int .i64 st.fn, .int .i64 st.line, .string st.nm] 47).congr fun j hj => by
    have hj : j < 7 := hj
    match j, hj with
    | 0, _ => rfl
    | 1, _ => rfl
    | 2, _ => rfl
    | 3, _ => rfl
    | 4, _ => rfl
    | 5, _ => rfl
    | 6, _ => rfl
set_option maxRecDepth 100000 in
set_option maxHeartbeats 4000000 in
theorem q3_calls (lo l : Nat) (v1 v2 : Value) (t : PTr) (L : Lk) (hv pv : Value) (a : PAsk) (w : World) (h : SpL w lo l t.moms.length t.moms v1 v2 L hv pv) (wb : World) (hrb : RdTr wb v1 v2 t) (hbb : Below wb.heap.size wb w) (hbl : wb.heap.size ≤ lo) (hsm : smTr t) (hso : soundP t = true) (hok : LkOk t L) (hlo : lo ≤ l) (hl : L.past.length ≤ 1000000)
    (h1 : a.op = 3) (ha : askOk a = true) (hz : a.nm.size ≤ 9223372036854775807) :
    Calls Tryz.prog 37 #[.pointer (some ⟨l, 0, none⟩), .agg #[.int .i64 a.op, .int .i64 a.n, .string a.nm, .int .i64 a.stop.kind, .int .i64 a.stop.fn, .int .i64 a.stop.line, .string a.stop.nm]] w (AnsPost (doMove L (nextP t L.ss L.place)) lo l t.moms.length t.moms v1 v2 w) := by
  obtain ⟨op, n, nm, st⟩ := a
  have h1 : op = 3 := h1
  subst h1
  have hlw : lo ≤ w.heap.size := Nat.le_trans hlo (Nat.le_of_lt h.blk.lt)
  obtain ⟨A4, c4, rfl, -, -⟩ := h.past.cap
  obtain ⟨A3, c3, rfl, hc3⟩ := h.hits.cap
  have HS := Lib.hid h
  have HRB := Lib.hid hrb
  have HBB := Lib.hid hbb
  have HSM := Lib.hid hsm
  have HSO := Lib.hid hso
  have HOK := Lib.hid hok
  have hok' := Lib.hid ha
  have hln := hok.ln
  have hpl := hok.lo
  have hph := hok.hi
  have hmn := (sound_fns (sound_iff hso)).2.2
  obtain ⟨⟨A1, c1, rfl, hn1, -⟩, ⟨vv, ⟨A2, c2, rfl, hn2, -⟩, -⟩⟩ := hrb
  have hba := bl_alloc (bl_alloc (bl_alloc (Below.refl _ w) (.cells #[.int .i64 3, .int .i64 n, .string nm, .int .i64 st.kind, .int .i64 st.fn, .int .i64 st.line, .string st.nm] 47)) (.cells #[.int .i64 0, .int .i64 0, .int .i64 0, .string ⟨#[]⟩, .slice none 0 0, .slice none 0 0] 38)) (.cells #[.int .i64 0, .int .i64 0, .int .i64 0, .string ⟨#[]⟩, .slice none 0 0, .slice none 0 0] 38)
  have hA := ((ask_box w 3 n nm st).alloc (.cells #[.int .i64 0, .int .i64 0, .int .i64 0, .string ⟨#[]⟩, .slice none 0 0, .slice none 0 0] 38)).alloc (.cells #[.int .i64 0, .int .i64 0, .int .i64 0, .string ⟨#[]⟩, .slice none 0 0, .slice none 0 0] 38)
  have hR := (told_box (w.alloc (.cells #[.int .i64 3, .int .i64 n, .string nm, .int .i64 st.kind, .int .i64 st.fn, .int .i64 st.line, .string st.nm] 47))).alloc (.cells #[.int .i64 0, .int .i64 0, .int .i64 0, .string ⟨#[]⟩, .slice none 0 0, .slice none 0 0] 38)
  have hO := told_box ((w.alloc (.cells #[.int .i64 3, .int .i64 n, .string nm, .int .i64 st.kind, .int .i64 st.fn, .int .i64 st.line, .string st.nm] 47)).alloc (.cells #[.int .i64 0, .int .i64 0, .int .i64 0, .string ⟨#[]⟩, .slice none 0 0, .slice none 0 0] 38))
  rw [World.size_alloc] at hR
  rw [World.size_alloc, World.size_alloc] at hO
  have HA := Lib.hid hA
  have HRS := Lib.hid hR
  have HO := Lib.hid hO
  have HW := Lib.hid hba
  clear h hsm hso hok hA hR hO hba hbb ha
  go_enter Tryz.func37, Tryz.ntmps37
  go_wp2_with fail
  refine (l5askOk_calls ⟨3, n, nm, st⟩ _ hz).mono ?_; rintro e w1 ⟨rfl, hb⟩
  rw [hok'.out]
  have hbw := bl_then HW.out hb
  have HMV := Lib.hid (Mv.of_below (ts := qTys) hbw hlw)
  replace HA := Lib.hid (HA.out.later hb); replace HRS := Lib.hid (HRS.out.later hb); replace HO := Lib.hid (HO.out.later hb); clear hb
  replace HS := Lib.hid (HS.out.later hbw)
  have HR := Lib.hid (HRB.out.later (bl_trans9 HBB.out (bl_low9 hbw (Nat.le_trans hbl hlw))))
  clear hbw HW
  obtain ⟨q, hq⟩ : ∃ q, w.heap.size = q := ⟨_, rfl⟩
  have HQ := Lib.hid hq
  rw [hq] at HA HRS HO hlw ⊢
  clear hq
  have x0 : w1.cell? ⟨q, 0, none⟩ = some (.int .i64 3) := HA.out.cell (j := 0) (by omega)
  go_upto_region 25 with fail
  clear x0
  have hbd : Below w1.heap.size w1 w1.drew := bl_drew (Below.refl _ _)
  replace HMV := Lib.hid HMV.out.drew
  replace HS := Lib.hid (HS.out.later hbd); replace HA := Lib.hid (HA.out.later hbd); replace HRS := Lib.hid (HRS.out.later hbd); replace HO := Lib.hid (HO.out.later hbd); replace HR := Lib.hid (HR.out.later hbd); clear hbd
  refine wp_region_F 16 (fun w' : World => Below w1.drew.heap.size w1.drew w') (by kernel_rfl) ?_
  generalize w1.drew = W2 at HMV HS HA HRS HO HR ⊢
  have HS0 : Hid (Below W2.heap.size W2 W2) := Lib.hid (Below.refl _ _)
  have z0 : W2.cell? ⟨l, 0, none⟩ = some (.slice A1 t.fns.length c1) := HS.out.blk.cell (j := 0) (by omega)
  have z1 : W2.cell? ⟨l, 1, none⟩ = some (.slice A2 t.moms.length c2) := HS.out.blk.cell (j := 1) (by omega)
  have z2 : W2.cell? ⟨l, 2, none⟩ = some (.int .i64 L.place) := HS.out.blk.cell (j := 2) (by omega)
  have z3 : W2.cell? ⟨l, 3, none⟩ = some (.slice A3 L.ss.length c3) := HS.out.blk.cell (j := 3) (by omega)
  refine wpAnyF_takeC 0 [] (v := ?v0m) (by rfl) (by kernel_rfl) (by intro _ _ _ h; exact h) HS0.out (by rfl) ?hy0m ?rest0m
  case hy0m =>
    intro w' hSw
    have sz0 := cell_later hSw z0
    have sz1 := cell_later hSw z1
    have sz2 := cell_later hSw z2
    have sz3 := cell_later hSw z3
    clear hSw
    go_simp
    try with_reducible rfl
  simp only [Act.put, List.setIfInBounds_toArray, List.set_cons_zero, List.set_cons_succ]
  refine wpAnyF_takeC 1 [2, 3, 4, 15] (v := ?v1m) (by rfl) (by kernel_rfl) (by intro _ _ _ h; exact h) HS0.out (by rfl) ?hy1m ?rest1m
  case hy1m =>
    intro w' hSw
    have sz0 := cell_later hSw z0
    have sz1 := cell_later hSw z1
    have sz2 := cell_later hSw z2
    have sz3 := cell_later hSw z3
    clear hSw
    go_simp
    try with_reducible rfl
  simp only [Act.put, List.setIfInBounds_toArray, List.set_cons_zero, List.set_cons_succ]
  refine wpAnyF_takeC 2 [3, 4, 15] (v := ?v2m) (by rfl) (by kernel_rfl) (by intro _ _ _ h; exact h) HS0.out (by rfl) ?hy2m ?rest2m
  case hy2m =>
    intro w' hSw
    have sz0 := cell_later hSw z0
    have sz1 := cell_later hSw z1
    have sz2 := cell_later hSw z2
    have sz3 := cell_later hSw z3
    clear hSw
    go_simp
    try with_reducible rfl
  simp only [Act.put, List.setIfInBounds_toArray, List.set_cons_zero, List.set_cons_succ]
  refine wpAnyF_takeC 3 [4, 15] (v := ?v3m) (by rfl) (by kernel_rfl) (by intro _ _ _ h; exact h) HS0.out (by rfl) ?hy3m ?rest3m
  case hy3m =>
    intro w' hSw
    have sz0 := cell_later hSw z0
    have sz1 := cell_later hSw z1
    have sz2 := cell_later hSw z2
    have sz3 := cell_later hSw z3
    clear hSw
    go_simp
    try with_reducible rfl
  simp only [Act.put, List.setIfInBounds_toArray, List.set_cons_zero, List.set_cons_succ]
  refine wpAnyF_takeC 4 [15] (v := ?v4m) (by rfl) (by kernel_rfl) (by intro _ _ _ h; exact h) HS0.out (by rfl) ?hy4m ?rest4m
  case hy4m =>
    intro w' hSw
    have sz0 := cell_later hSw z0
    have sz1 := cell_later hSw z1
    have sz2 := cell_later hSw z2
    have sz3 := cell_later hSw z3
    clear hSw
    go_simp
    try with_reducible rfl
  simp only [Act.put, List.setIfInBounds_toArray, List.set_cons_zero, List.set_cons_succ]
  refine wpAnyF_takeC 5 [6, 7, 8, 9, 10, 15] (v := ?v5m) (by rfl) (by kernel_rfl) (by intro _ _ _ h; exact h) HS0.out (by rfl) ?hy5m ?rest5m
  case hy5m =>
    intro w' hSw
    have sz0 := cell_later hSw z0
    have sz1 := cell_later hSw z1
    have sz2 := cell_later hSw z2
    have sz3 := cell_later hSw z3
    clear hSw
    go_simp
    try with_reducible rfl
  simp only [Act.put, List.setIfInBounds_toArray, List.set_cons_zero, List.set_cons_succ]
  refine wpAnyF_takeC 6 [7, 8, 9, 10, 15] (v := ?v6m) (by rfl) (by kernel_rfl) (by intro _ _ _ h; exact h) HS0.out (by rfl) ?hy6m ?rest6m
  case hy6m =>
    intro w' hSw
    have sz0 := cell_later hSw z0
    have sz1 := cell_later hSw z1
    have sz2 := cell_later hSw z2
    have sz3 := cell_later hSw z3
    clear hSw
    go_simp
    try with_reducible rfl
  simp only [Act.put, List.setIfInBounds_toArray, List.set_cons_zero, List.set_cons_succ]
  refine wpAnyF_takeC 7 [8, 9, 10, 15] (v := ?v7m) (by rfl) (by kernel_rfl) (by intro _ _ _ h; exact h) HS0.out (by rfl) ?hy7m ?rest7m
  case hy7m =>
    intro w' hSw
    have sz0 := cell_later hSw z0
    have sz1 := cell_later hSw z1
    have sz2 := cell_later hSw z2
    have sz3 := cell_later hSw z3
    clear hSw
    go_simp
    try with_reducible rfl
  simp only [Act.put, List.setIfInBounds_toArray, List.set_cons_zero, List.set_cons_succ]
  refine wpAnyF_takeC 8 [9, 10, 15] (v := ?v8m) (by rfl) (by kernel_rfl) (by intro _ _ _ h; exact h) HS0.out (by rfl) ?hy8m ?rest8m
  case hy8m =>
    intro w' hSw
    have sz0 := cell_later hSw z0
    have sz1 := cell_later hSw z1
    have sz2 := cell_later hSw z2
    have sz3 := cell_later hSw z3
    clear hSw
    go_simp
    try with_reducible rfl
  simp only [Act.put, List.setIfInBounds_toArray, List.set_cons_zero, List.set_cons_succ]
  refine wpAnyF_takeC 9 [10, 15] (v := ?v9m) (by rfl) (by kernel_rfl) (by intro _ _ _ h; exact h) HS0.out (by rfl) ?hy9m ?rest9m
  case hy9m =>
    intro w' hSw
    have sz0 := cell_later hSw z0
    have sz1 := cell_later hSw z1
    have sz2 := cell_later hSw z2
    have sz3 := cell_later hSw z3
    clear hSw
    go_simp
    try with_reducible rfl
  simp only [Act.put, List.setIfInBounds_toArray, List.set_cons_zero, List.set_cons_succ]
  refine wpAnyF_takeC 10 [15] (v := ?v10m) (by rfl) (by kernel_rfl) (by intro _ _ _ h; exact h) HS0.out (by rfl) ?hy10m ?rest10m
  case hy10m =>
    intro w' hSw
    have sz0 := cell_later hSw z0
    have sz1 := cell_later hSw z1
    have sz2 := cell_later hSw z2
    have sz3 := cell_later hSw z3
    clear hSw
    go_simp
    try with_reducible rfl
  simp only [Act.put, List.setIfInBounds_toArray, List.set_cons_zero, List.set_cons_succ]
  refine wpAnyF_takeC 11 [12, 13, 14, 15] (v := ?v11m) (by rfl) (by kernel_rfl) (by intro _ _ _ h; exact h) HS0.out (by rfl) ?hy11m ?rest11m
  case hy11m =>
    intro w' hSw
    have sz0 := cell_later hSw z0
    have sz1 := cell_later hSw z1
    have sz2 := cell_later hSw z2
    have sz3 := cell_later hSw z3
    clear hSw
    go_simp
    try with_reducible rfl
  simp only [Act.put, List.setIfInBounds_toArray, List.set_cons_zero, List.set_cons_succ]
  refine wpAnyF_takeC 12 [13, 14, 15] (v := ?v12m) (by rfl) (by kernel_rfl) (by intro _ _ _ h; exact h) HS0.out (by rfl) ?hy12m ?rest12m
  case hy12m =>
    intro w' hSw
    have sz0 := cell_later hSw z0
    have sz1 := cell_later hSw z1
    have sz2 := cell_later hSw z2
    have sz3 := cell_later hSw z3
    clear hSw
    go_simp
    try with_reducible rfl
  simp only [Act.put, List.setIfInBounds_toArray, List.set_cons_zero, List.set_cons_succ]
  refine wpAnyF_takeC 13 [14, 15] (v := ?v13m) (by rfl) (by kernel_rfl) (by intro _ _ _ h; exact h) HS0.out (by rfl) ?hy13m ?rest13m
  case hy13m =>
    intro w' hSw
    have sz0 := cell_later hSw z0
    have sz1 := cell_later hSw z1
    have sz2 := cell_later hSw z2
    have sz3 := cell_later hSw z3
    clear hSw
    go_simp
    try with_reducible rfl
  simp only [Act.put, List.setIfInBounds_toArray, List.set_cons_zero, List.set_cons_succ]
  refine wpAnyF_takeC 14 [15] (v := ?v14m) (by rfl) (by kernel_rfl) (by intro _ _ _ h; exact h) HS0.out (by rfl) ?hy14m ?rest14m
  case hy14m =>
    intro w' hSw
    have sz0 := cell_later hSw z0
    have sz1 := cell_later hSw z1
    have sz2 := cell_later hSw z2
    have sz3 := cell_later hSw z3
    clear hSw
    go_simp
    try with_reducible rfl
  simp only [Act.put, List.setIfInBounds_toArray, List.set_cons_zero, List.set_cons_succ]
  refine wpAnyF_one 15 (by rfl) (by kernel_rfl) rfl ?_
  intro K hK
  go_simp
  obtain ⟨m, hm9⟩ : ∃ m : Nat, L.place + 1 = (m : Int) := ⟨(L.place + 1).toNat, by omega⟩
  refine (l3next_calls lo t.moms.length m t.moms L.ss _ L.place _ HS.out.hits (by omega) (by omega) (by omega) hm9).mono ?_; rintro e w3 ⟨rfl, rfl⟩
  have hb := Below.refl W2.heap.size W2
  have hnx : nextP t L.ss L.place = (firstB (anyP t.moms L.ss) t.moms.length (t.moms.length - m) m : Nat) := by
    unfold nextP
    rw [if_pos (HOK.out.stops HSO.out)]
    rw [show (L.place + 1).toNat = m by omega]
  rw [← hnx]
  clear hnx hm9
  have HS1 := Lib.hid hb
  obtain ⟨k, hke⟩ : ∃ k, nextP t L.ss L.place = k := ⟨_, rfl⟩
  rw [hke]
  have HKE := Lib.hid hke
  clear hke
  dsimp only
  refine hK.out _ _ (fun _ => HS1.out) ?_
  clear hK K
  replace HMV := Lib.hid (HMV.out.trans (Mv.of_below hb (Nat.le_trans hlw (by have := HA.out.lt; omega))))
  replace HS := Lib.hid (HS.out.later hb); replace HRS := Lib.hid (HRS.out.later hb); replace HO := Lib.hid (HO.out.later hb); clear hb
  refine wpAnyF_one 16 (by rfl) (by kernel_rfl) rfl ?_
  intro K hK
  go_simp
  refine (l5move_calls lo l _ t.moms _ _ L _ _ k _ HS.out hlo hl).mono ?_; rintro e w4 ⟨rfl, ⟨pv', hS4⟩, hm⟩
  have HS4 := Lib.hid hS4
  replace HRS := Lib.hid (HRS.out.mv hm (by decide))
  replace HO := Lib.hid (HO.out.mv hm (by decide))
  replace HMV := Lib.hid (HMV.out.trans hm)
  dsimp only
  refine hK.out _ _ (fun h => absurd rfl h) ?_
  clear hK K hS4 hm HS HS0 HS1 HA z0 z1 z2 z3
  refine wpAnyF_done (by kernel_rfl) ?_ _
  have hS9 := HS4.out
  rw [← HKE.out] at hS9
  have r0 := HRS.out.cell (j := 0) (by omega)
  have e0 := HRS.out.free 0
  have o0 := HO.out.cell (j := 0) (by omega)
  have r1 := HRS.out.cell (j := 1) (by omega)
  have e1 := HRS.out.free 1
  have o1 := HO.out.cell (j := 1) (by omega)
  have r2 := HRS.out.cell (j := 2) (by omega)
  have e2 := HRS.out.free 2
  have o2 := HO.out.cell (j := 2) (by omega)
  have r3 := HRS.out.cell (j := 3) (by omega)
  have e3 := HRS.out.free 3
  have o3 := HO.out.cell (j := 3) (by omega)
  have r4 := HRS.out.cell (j := 4) (by omega)
  have e4 := HRS.out.free 4
  have o4 := HO.out.cell (j := 4) (by omega)
  have r5 := HRS.out.cell (j := 5) (by omega)
  have e5 := HRS.out.free 5
  have o5 := HO.out.cell (j := 5) (by omega)
  simp only [tdF] at r0 r1 r2 r3 r4 r5 o0 o1 o2 o3 o4 o5
  go_wp2_with fail
  refine bodyPost_ret (v := .agg #[.int .i64 (td0).place, .int .i64 (td0).code, .int .i64 (td0).num, .string (td0).text, .slice none 0 0, .slice none 0 0]) (by simp [results, Tryz.results37, go_sem, r0, r1, r2, r3, r4, r5, td0]) rfl ?_
  exact ans_end (q := td0) (by rfl) hS9 HRS.out OwR.nil (owr_z OwR.nil) HMV.out (by rw [HQ.out]; omega) (by rw [HQ.out]; exact hlw)
end Go.Proofs.YtcklnjjbhngbcaaGreatDoor
