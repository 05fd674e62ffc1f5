/- Lemmas and contracts of functions that the theorem of this claim leans on (texts P16, E9). -/
import Derived.Test.YtcklnjjbhngbcaaGreatDoorRowUnz04
import Derived.Test.YtcklnjjbhngbcaaGreatDoorRowUnz19
namespace Go.Proofs.Lens

def undoA : PAsk := ⟨8, 0, ⟨#[]⟩, ⟨0, 0, 0, ⟨#[]⟩⟩⟩
theorem undo_ok : askOk undoA = true := by simp [askOk, undoA, inB, noS, noStop]
/-- What one answered ask adds to the count of moves. -/
def mvD (op code : Int) : Int := if code = 0 then (if (3 ≤ op ∧ op ≤ 7) ∨ op = 9 then 1 else 0) - (if op = 8 then 1 else 0) else 0
/-- The count of moves behind the first k asks. -/
def mvN (t : PTr) (asks : List PAsk) : Nat → Int
  | 0 => 0
  | k + 1 => mvN t asks k + mvD (elt asks k).op (elt (lookP t asks) k).code
theorem doP_mv {t : PTr} {L : Lk} {a : PAsk} (h : (doP t L a).2.2 = 0) (ho : 1 ≤ a.op ∧ a.op ≤ 13) : ((doP t L a).2.1.past.length : Int) = L.past.length + mvD a.op 0 ∧ (doP t L a).1.code = 0 := by
  have hm : ∀ k, a.op = 3 ∨ a.op = 4 ∨ a.op = 5 ∨ a.op = 6 ∨ a.op = 7 ∨ a.op = 9 → (((L.move k).past.length : Nat) : Int) = L.past.length + mvD a.op 0 := fun k hk => by
    show (((L.past ++ [L.place]).length : Nat) : Int) = _
    rw [List.length_append]
    unfold mvD
    rw [if_pos rfl, if_pos (by omega), if_neg (by omega)]
    simp
  have h0 : a.op = 1 ∨ a.op = 2 ∨ 10 ≤ a.op → ((L.past.length : Nat) : Int) = L.past.length + mvD a.op 0 := fun hk => by
    unfold mvD
    rw [if_pos rfl, if_neg (by omega), if_neg (by omega)]
    simp
  revert h
  unfold doP
  by_cases e : a.op = 1
  · rw [if_pos e]; unfold doStop
    split
    · intro h; simp at h
    · intro _; exact ⟨h0 (.inl e), rfl⟩
  rw [if_neg e]
  by_cases e2 : a.op = 2
  · rw [if_pos e2]; unfold doClear
    split
    · intro h; simp at h
    · intro _; exact ⟨h0 (by omega), rfl⟩
  rw [if_neg e2]
  by_cases e3 : a.op = 3
  · rw [if_pos e3]; intro _; exact ⟨hm _ (by omega), rfl⟩
  rw [if_neg e3]
  by_cases e4 : a.op = 4
  · rw [if_pos e4]; intro _; exact ⟨hm _ (by omega), rfl⟩
  rw [if_neg e4]
  by_cases e5 : a.op = 5
  · rw [if_pos e5]; intro _; exact ⟨hm _ (by omega), rfl⟩
  rw [if_neg e5]
  by_cases e6 : a.op = 6
  · rw [if_pos e6]; intro _; exact ⟨hm _ (by omega), rfl⟩
  rw [if_neg e6]
  by_cases e7 : a.op = 7
  · rw [if_pos e7]; intro _; exact ⟨hm _ (by omega), rfl⟩
  rw [if_neg e7]
  by_cases e8 : a.op = 8
  · rw [if_pos e8]; unfold doUndo
    split
    · intro h; simp at h
    · intro _
      refine ⟨?_, rfl⟩
      show (((L.past.take (L.past.length - 1)).length : Nat) : Int) = _
      rw [List.length_take]
      unfold mvD
      rw [if_pos rfl, if_neg (by omega), if_pos e8]
      omega
  rw [if_neg e8]
  by_cases e9 : a.op = 9
  · rw [if_pos e9]; unfold doTo
    split
    · intro h; simp at h
    · intro _; exact ⟨hm _ (by omega), rfl⟩
  rw [if_neg e9]
  by_cases e10 : a.op = 10
  · rw [if_pos e10]; intro _; exact ⟨h0 (by omega), rfl⟩
  rw [if_neg e10]
  by_cases e11 : a.op = 11
  · rw [if_pos e11]; intro _; exact ⟨h0 (by omega), rfl⟩
  rw [if_neg e11]
  by_cases e12 : a.op = 12
  · rw [if_pos e12]; unfold doValue
    split
    · intro h; simp at h
    · intro _; exact ⟨h0 (by omega), rfl⟩
  rw [if_neg e12]
  unfold doCount
  split
  · intro h; simp at h
  · intro _; exact ⟨h0 (by omega), rfl⟩
theorem doP_same {t : PTr} {L : Lk} {a : PAsk} (h : (doP t L a).2.2 ≠ 0) : (doP t L a).2.1 = L := by
  revert h
  refine doP_elim (Q := fun r => r.2.2 ≠ 0 → r.2.1 = L) (fun _ => ?_) (fun _ => ?_) (fun _ h => absurd rfl h) (fun _ h => absurd rfl h) (fun _ h => absurd rfl h) (fun _ h => absurd rfl h) (fun _ h => absurd rfl h) (fun _ => ?_) (fun _ => ?_) (fun _ h => absurd rfl h) (fun _ h => absurd rfl h) (fun _ => ?_) ?_
  · unfold doStop
    split
    · intro _; rfl
    · intro h; exact absurd rfl h
  · unfold doClear
    split
    · intro _; rfl
    · intro h; exact absurd rfl h
  · unfold doUndo
    split
    · intro _; rfl
    · intro h; exact absurd rfl h
  · unfold doTo
    split
    · intro _; rfl
    · intro h; exact absurd rfl h
  · unfold doValue
    split
    · intro _; rfl
    · intro h; exact absurd rfl h
  · unfold doCount
    split
    · intro _; rfl
    · intro h; exact absurd rfl h
theorem askOk_op {a : PAsk} (h : askOk a = true) : 1 ≤ a.op ∧ a.op ≤ 13 := by
  unfold askOk at h
  split at h
  · omega
  split at h
  · omega
  split at h
  · omega
  split at h
  · omega
  split at h
  · omega
  · simp only [Bool.and_eq_true, inB_true] at h
    exact h.1.1.1
theorem askP_mv (t : PTr) (L : Lk) (a : PAsk) : ((askP t L a).2.past.length : Int) = L.past.length + mvD a.op (askP t L a).1.code := by
  unfold askP
  by_cases ha : askOk a = true
  · rw [if_pos ha]
    by_cases hc : (doP t L a).2.2 = 0
    · rw [if_pos hc]
      obtain ⟨h1, h2⟩ := doP_mv hc (askOk_op ha)
      show _ = _ + mvD a.op (doP t L a).1.code
      rw [h2]; exact h1
    · rw [if_neg hc]
      show (((doP t L a).2.1.past.length : Nat) : Int) = _ + mvD a.op (doP t L a).2.2
      rw [doP_same hc]
      unfold mvD
      rw [if_neg hc]; simp
  · rw [if_neg ha]
    show ((L.past.length : Nat) : Int) = _ + mvD a.op 1
    unfold mvD
    rw [if_neg (by omega)]; simp
theorem lkN_told (t : PTr) (asks : List PAsk) : ∀ n i, i < n → elt (lkN t asks n).1 i = (askP t (lkN t asks i).2 (elt asks i)).1
  | 0, i, h => absurd h (by omega)
  | n + 1, i, h => by
    show elt ((lkN t asks n).1 ++ [_]) i = _
    by_cases hi : i < n
    · rw [elt_app _ _ (by rw [lkN_len]; exact hi)]; exact lkN_told t asks n i hi
    · obtain rfl : i = n := by omega
      have := elt_last (lkN t asks i).1 (askP t (lkN t asks i).2 (elt asks i)).1
      rw [lkN_len] at this
      exact this
theorem lookP_eq {t : PTr} {asks : List PAsk} (hs : soundP t = true) (hl : asks.length ≤ 500) : lookP t asks = (lkN t asks asks.length).1 := by
  unfold lookP
  rw [hs, decide_eq_true hl]; rfl
theorem mvN_eq {t : PTr} {asks : List PAsk} (hs : soundP t = true) (hl : asks.length ≤ 500) : ∀ k, k ≤ asks.length → mvN t asks k = ((lkN t asks k).2.past.length : Int)
  | 0, _ => rfl
  | k + 1, h => by
    show mvN t asks k + _ = (((askP t (lkN t asks k).2 (elt asks k)).2.past.length : Nat) : Int)
    rw [askP_mv, mvN_eq hs hl k (by omega), lookP_eq hs hl, lkN_told _ _ _ _ (by omega)]
/-- The first of the places that the session came from, or its place, is the beginning. -/
def Bt (L : Lk) : Prop := elt (L.past ++ [L.place]) 0 = -1
theorem Bt.move {L : Lk} (h : Bt L) (k : Int) : Bt (L.move k) := by
  show elt ((L.past ++ [L.place]) ++ [k]) 0 = -1
  rw [elt_app _ _ (by simp)]; exact h
theorem doP_bt {t : PTr} {L : Lk} {a : PAsk} (h : Bt L) : Bt (doP t L a).2.1 := by
  refine doP_elim (Q := fun r => Bt r.2.1) (fun _ => ?_) (fun _ => ?_) (fun _ => h.move _) (fun _ => h.move _) (fun _ => h.move _) (fun _ => h.move _) (fun _ => h.move _) (fun _ => ?_) (fun _ => ?_) (fun _ => h) (fun _ => h) (fun _ => ?_) ?_
  · unfold doStop
    split
    · exact h
    · exact h
  · unfold doClear
    split
    · exact h
    · exact h
  · unfold doUndo
    split
    · exact h
    · rename_i h0
      have h : elt (L.past ++ [L.place]) 0 = -1 := h
      rw [elt_app _ _ (by omega)] at h
      show elt (L.past.take (L.past.length - 1) ++ [elt L.past (L.past.length - 1)]) 0 = -1
      by_cases h1 : L.past.length = 1
      · rw [h1]
        have e : L.past.take (1 - 1) = [] := by simp
        rw [e]
        exact h
      · rw [elt_app _ _ (by rw [List.length_take]; omega), elt_eq (by rw [List.length_take]; omega), List.getElem_take]
        rw [elt_eq (by omega)] at h
        exact h
  · unfold doTo
    split
    · exact h
    · exact h.move _
  · unfold doValue
    split
    · exact h
    · exact h
  · unfold doCount
    split
    · exact h
    · exact h
theorem askP_bt {t : PTr} {L : Lk} {a : PAsk} (h : Bt L) : Bt (askP t L a).2 := by
  unfold askP
  split
  · split
    · exact doP_bt h
    · exact doP_bt h
  · exact h
theorem lkN_bt (t : PTr) (asks : List PAsk) : ∀ k, Bt (lkN t asks k).2
  | 0 => rfl
  | k + 1 => askP_bt (lkN_bt t asks k)
theorem undo_some {t : PTr} {L : Lk} (h : L.past.length ≠ 0) : askP t L undoA = ({ td0 with place := elt L.past (L.past.length - 1) }, ⟨elt L.past (L.past.length - 1), L.ss, L.past.take (L.past.length - 1)⟩) := by
  have e : doP t L undoA = (td0, ⟨elt L.past (L.past.length - 1), L.ss, L.past.take (L.past.length - 1)⟩, 0) := by
    show doUndo L = _
    unfold doUndo
    rw [if_neg h]
  unfold askP
  rw [if_pos undo_ok, e]
  rfl
theorem undo_none {t : PTr} {L : Lk} (h : L.past.length = 0) : askP t L undoA = ({ td0 with code := 4, place := L.place }, L) := by
  have e : doP t L undoA = (td0, L, 4) := by
    show doUndo L = _
    unfold doUndo
    rw [if_pos h]
  unfold askP
  rw [if_pos undo_ok, e]
  rfl
theorem lkN_app (t : PTr) (a b : List PAsk) : ∀ k, k ≤ a.length → lkN t (a ++ b) k = lkN t a k
  | 0, _ => rfl
  | k + 1, h => by
    show ((lkN t (a ++ b) k).1 ++ [(askP t (lkN t (a ++ b) k).2 (elt (a ++ b) k)).1], (askP t (lkN t (a ++ b) k).2 (elt (a ++ b) k)).2) = _
    rw [lkN_app t a b k (by omega), elt_app _ _ (by omega)]
    rfl
theorem elt_undo (a : List PAsk) (m j : Nat) (h : j < m) : elt (a ++ List.replicate m undoA) (a.length + j) = undoA := by
  rw [elt_eq (by simp; omega), List.getElem_append_right (by omega), List.getElem_replicate]
/-- Behind j of as many undos as there are moves. -/
theorem lkN_undo (t : PTr) (a : List PAsk) (m : Nat) : ∀ j, j ≤ m → j ≤ (lkN t a a.length).2.past.length →
    (lkN t (a ++ List.replicate m undoA) (a.length + j)).2.past = (lkN t a a.length).2.past.take ((lkN t a a.length).2.past.length - j)
  | 0, _, _ => by
    rw [Nat.add_zero, lkN_app _ _ _ _ (Nat.le_refl _), Nat.sub_zero, List.take_length]
  | j + 1, h, h2 => by
    have ih := lkN_undo t a m j (by omega) (by omega)
    show (askP t (lkN t (a ++ List.replicate m undoA) (a.length + j)).2 (elt (a ++ List.replicate m undoA) (a.length + j))).2.past = _
    rw [elt_undo _ _ _ (by omega)]
    have hl : (lkN t (a ++ List.replicate m undoA) (a.length + j)).2.past.length = (lkN t a a.length).2.past.length - j := by rw [ih, List.length_take]; omega
    rw [undo_some (by omega)]
    show (lkN t (a ++ List.replicate m undoA) (a.length + j)).2.past.take _ = _
    rw [hl, ih, List.take_take]
    congr 1
    omega
theorem bt_nil {L : Lk} (h : Bt L) (h0 : L.past.length = 0) : L.place = -1 := by
  have e : L.past = [] := List.length_eq_zero_iff.1 h0
  unfold Bt at h
  rw [e] at h
  exact h
/-- The law's last words. -/
theorem undo_law {t : PTr} {a : List PAsk} (hs : soundP t = true) (m : Nat) (hm : m = (lkN t a a.length).2.past.length) (hl : a.length + (m + 1) ≤ 500) :
    (lookP t (a ++ List.replicate (m + 1) undoA)).length = a.length + (m + 1) ∧
    (elt (lookP t (a ++ List.replicate (m + 1) undoA)) (a.length + m)).code = 4 ∧ (elt (lookP t (a ++ List.replicate (m + 1) undoA)) (a.length + m)).place = -1 ∧
    (0 < m → (elt (lookP t (a ++ List.replicate (m + 1) undoA)) (a.length + m - 1)).code = 0 ∧ (elt (lookP t (a ++ List.replicate (m + 1) undoA)) (a.length + m - 1)).place = -1) := by
  have hlen : (a ++ List.replicate (m + 1) undoA).length = a.length + (m + 1) := by simp
  rw [lookP_eq hs (by omega), hlen]
  have hp := lkN_undo t a (m + 1) m (by omega) (by omega)
  have hp0 : (lkN t (a ++ List.replicate (m + 1) undoA) (a.length + m)).2.past.length = 0 := by rw [hp, List.length_take]; omega
  have hpl := bt_nil (lkN_bt t (a ++ List.replicate (m + 1) undoA) (a.length + m)) hp0
  refine ⟨lkN_len _ _ _, ?_, ?_, fun hm0 => ?_⟩
  · rw [lkN_told _ _ _ _ (by omega), elt_undo _ _ _ (by omega), undo_none hp0]
  · rw [lkN_told _ _ _ _ (by omega), elt_undo _ _ _ (by omega), undo_none hp0]; exact hpl
  · obtain ⟨j, rfl⟩ : ∃ j, m = j + 1 := ⟨m - 1, by omega⟩
    have hq := lkN_undo t a (j + 1 + 1) j (by omega) (by omega)
    have hq0 : (lkN t (a ++ List.replicate (j + 1 + 1) undoA) (a.length + j)).2.past.length ≠ 0 := by rw [hq, List.length_take]; omega
    rw [show a.length + (j + 1) - 1 = a.length + j by omega, lkN_told _ _ _ _ (by omega), elt_undo _ _ _ (by omega), undo_some hq0]
    refine ⟨rfl, ?_⟩
    have : lkN t (a ++ List.replicate (j + 1 + 1) undoA) (a.length + (j + 1)) = lkN t (a ++ List.replicate (j + 1 + 1) undoA) (a.length + j + 1) := rfl
    rw [this] at hpl
    have e : (lkN t (a ++ List.replicate (j + 1 + 1) undoA) (a.length + j + 1)).2 = (askP t (lkN t (a ++ List.replicate (j + 1 + 1) undoA) (a.length + j)).2 (elt (a ++ List.replicate (j + 1 + 1) undoA) (a.length + j))).2 := rfl
    rw [e, elt_undo _ _ _ (by omega), undo_some hq0] at hpl
    exact hpl
theorem cntN_cut (ms : List PMom) (s : PStop) {k : Int} {m : Nat} (h : k < m) : ∀ n, m ≤ n → cntN ms s k n = cntN ms s k m
  | 0, hm => by obtain rfl : m = 0 := by omega
                rfl
  | n + 1, hm => by
    by_cases e : m = n + 1
    · rw [e]
    · show cntN ms s k n + _ = _
      rw [cntN_cut ms s h n (by omega), decide_eq_false (by omega)]
      simp
theorem cntN_rng (ms : List PMom) (s : PStop) (k : Int) : ∀ n : Nat, 0 ≤ cntN ms s k n ∧ cntN ms s k n ≤ n
  | 0 => by simp [cntN]
  | n + 1 => by
    have := cntN_rng ms s k n
    unfold cntN
    split <;> omega
end Go.Proofs.Lens

namespace Go.Proofs.YtcklnjjbhngbcaaGreatDoor
open Go.RowKit Go.Proofs.Lens
set_option linter.unusedSimpArgs false

set_option maxRecDepth 100000 in
set_option maxHeartbeats 4000000 in
theorem do13_calls (lo s sb tb x : Nat) (v1 v2 : Value) (t : PTr) (D : Nat → Value) (L : Lk) (vs vu : Value) (a : PAsk) (w : World) (h : SeS w lo s v1 v2 D L vs vu) (he : SeE w s sb tb v1 v2) (hx : Td0 w x)
    (hr : RdTr w v1 v2 t) (hsm : smTr t) (hso : soundP t = true) (hok : LkOk t L) (hlo : lo ≤ s) (hlx : lo ≤ x) (hn0 : 0 ≤ a.n) :
    Calls Tryz.prog 155 #[.agg #[.int .i64 a.op, .int .i64 a.n, .string a.nm, .int .i64 a.stop.kind, .int .i64 a.stop.fn, .int .i64 a.stop.line, .string a.stop.nm], .pointer (some ⟨x, 0, none⟩), .pointer (some ⟨sb, 0, none⟩), .pointer (some ⟨tb, 0, none⟩)] w (DoPost (doCount t L a) lo s x v1 v2 D w) := by
  obtain ⟨A3, c3, rfl, hn3, hm3⟩ := h.st.cap
  obtain ⟨A4, c4, rfl, hn4, hm4⟩ := h.un.cap
  have HS := Lib.hid h
  have HE := Lib.hid he
  have HX := Lib.hid hx
  have HR := Lib.hid hr
  have HSM := Lib.hid hsm
  have HSO := Lib.hid hso
  have HOK := Lib.hid hok
  have hlw : lo ≤ w.heap.size := Nat.le_trans hlo (Nat.le_of_lt h.blk.lt)
  obtain ⟨⟨A1, c1, rfl, hn1, -⟩, ⟨vv, ⟨A2, c2, rfl, hn2, -⟩, -⟩⟩ := hr
  have hln := hok.ln
  have hpl := hok.lo
  have hph := hok.hi
  have hmn := (sound_fns (sound_iff hso)).2.2
  have HA0 := Lib.hid (askBox w a)
  have hbw := bl_alloc (Below.refl _ w) (.cells #[.int .i64 a.op, .int .i64 a.n, .string a.nm, .int .i64 a.stop.kind, .int .i64 a.stop.fn, .int .i64 a.stop.line, .string a.stop.nm] 47)
  have hsz : (w.alloc (.cells #[.int .i64 a.op, .int .i64 a.n, .string a.nm, .int .i64 a.stop.kind, .int .i64 a.stop.fn, .int .i64 a.stop.line, .string a.stop.nm] 47)).heap.size = w.heap.size + 1 := by simp
  clear h he hx hsm hso hok
  go_enter Tryz.func155, Tryz.ntmps155
  go_upto_region 1 with fail
  generalize World.alloc w _ = W at HA0 hbw hsz ⊢
  have HMV := Lib.hid (Mv.of_below (ts := eTys) hbw hlw)
  replace HS := Lib.hid (HS.out.later hbw); replace HE := Lib.hid (HE.out.later hbw); replace HX := Lib.hid (HX.out.later hbw); replace HR := Lib.hid (HR.out.later hbw); clear hbw
  obtain ⟨q, hq⟩ : ∃ q, w.heap.size = q := ⟨_, rfl⟩
  rw [hq] at HA0 hsz hlw ⊢
  obtain ⟨i, hia⟩ : ∃ i : Nat, a.n = (i : Int) := ⟨a.n.toNat, by omega⟩
  have HIA := Lib.hid hia
  refine wp_region_H (fun w' : World => Below W.drew.heap.size W.drew w') (by kernel_rfl) ?_
  have hszd : W.drew.heap.size = q + 1 := hsz
  replace HMV := Lib.hid HMV.out.drew
  have hbd : Below W.heap.size W W.drew := bl_drew (Below.refl _ _)
  replace HS := Lib.hid (HS.out.later hbd); replace HE := Lib.hid (HE.out.later hbd); replace HX := Lib.hid (HX.out.later hbd); replace HR := Lib.hid (HR.out.later hbd); replace HA0 := Lib.hid (HA0.out.later hbd); clear hbd
  generalize W.drew = W2 at HMV HS HE HX HR HA0 hszd ⊢
  clear hsz
  have hsz := hszd
  clear hszd
  have HS0 : Hid (Below W2.heap.size W2 W2) := Lib.hid (Below.refl _ _)
  have zs : W2.cell? ⟨sb, 0, none⟩ = some (.pointer (some ⟨s, 0, none⟩)) := HE.out.sbx.cell (j := 0) (by omega)
  have zv : W2.cell? ⟨s, 3, none⟩ = some (.slice A3 L.ss.length c3) := HS.out.blk.cell (j := 3) (by omega)
  have zn : W2.cell? ⟨q, 1, none⟩ = some (.int .i64 a.n) := HA0.out.cell (j := 1) (by omega)
  rw [hia] at zn hn0
  clear hia
  refine wpAnyH_take2 0 (v := ?v0m) (by rfl) (by kernel_rfl) (by intro _ _ _ h; exact h) HS0.out (by rfl) ?hy0m ?rest0m
  case hy0m =>
    intro w' hSw
    have szs := cell_later hSw zs
    have szv := cell_later hSw zv
    have szn := cell_later hSw zn
    clear hSw
    go_simp
    try with_reducible rfl
  simp only [Act.put, List.setIfInBounds_toArray, List.set_cons_zero, List.set_cons_succ]
  refine wpAnyH_take2 1 (v := ?v1m) (by rfl) (by kernel_rfl) (by intro _ _ _ h; exact h) HS0.out (by rfl) ?hy1m ?rest1m
  case hy1m =>
    intro w' hSw
    have szs := cell_later hSw zs
    have szv := cell_later hSw zv
    have szn := cell_later hSw zn
    clear hSw
    go_simp
    try with_reducible rfl
  simp only [Act.put, List.setIfInBounds_toArray, List.set_cons_zero, List.set_cons_succ]
  refine wpAnyH_take2 2 (v := ?v2m) (by rfl) (by kernel_rfl) (by intro _ _ _ h; exact h) HS0.out (by rfl) ?hy2m ?rest2m
  case hy2m =>
    intro w' hSw
    have szs := cell_later hSw zs
    have szv := cell_later hSw zv
    have szn := cell_later hSw zn
    clear hSw
    go_simp
    try with_reducible rfl
  simp only [Act.put, List.setIfInBounds_toArray, List.set_cons_zero, List.set_cons_succ]
  refine wpAnyH_take2 3 (v := ?v3m) (by rfl) (by kernel_rfl) (by intro _ _ _ h; exact h) HS0.out (by rfl) ?hy3m ?rest3m
  case hy3m =>
    intro w' hSw
    have szs := cell_later hSw zs
    have szv := cell_later hSw zv
    have szn := cell_later hSw zn
    clear hSw
    go_simp
    try with_reducible rfl
  simp only [Act.put, List.setIfInBounds_toArray, List.set_cons_zero, List.set_cons_succ]
  refine wpAnyH_take2 4 (v := ?v4m) (by rfl) (by kernel_rfl) (by intro _ _ _ h; exact h) HS0.out (by rfl) ?hy4m ?rest4m
  case hy4m =>
    intro w' hSw
    have szs := cell_later hSw zs
    have szv := cell_later hSw zv
    have szn := cell_later hSw zn
    clear hSw
    go_simp
    try with_reducible rfl
  simp only [Act.put, List.setIfInBounds_toArray, List.set_cons_zero, List.set_cons_succ]
  refine wpAnyH_take2 5 (v := ?v5m) (by rfl) (by kernel_rfl) (by intro _ _ _ h; exact h) HS0.out (by rfl) ?hy5m ?rest5m
  case hy5m =>
    intro w' hSw
    have szs := cell_later hSw zs
    have szv := cell_later hSw zv
    have szn := cell_later hSw zn
    clear hSw
    go_simp
    try with_reducible rfl
  simp only [Act.put, List.setIfInBounds_toArray, List.set_cons_zero, List.set_cons_succ]
  refine wpAnyH_take2 6 (v := ?v6m) (by rfl) (by kernel_rfl) (by intro _ _ _ h; exact h) HS0.out (by rfl) ?hy6m ?rest6m
  case hy6m =>
    intro w' hSw
    have szs := cell_later hSw zs
    have szv := cell_later hSw zv
    have szn := cell_later hSw zn
    clear hSw
    go_simp
    try with_reducible rfl
  simp only [Act.put, List.setIfInBounds_toArray, List.set_cons_zero, List.set_cons_succ]
  refine wpAnyH_take2 7 (v := ?v7m) (by rfl) (by kernel_rfl) (by intro _ _ _ h; exact h) HS0.out (by rfl) ?hy7m ?rest7m
  case hy7m =>
    intro w' hSw
    have szs := cell_later hSw zs
    have szv := cell_later hSw zv
    have szn := cell_later hSw zn
    clear hSw
    go_simp
    try with_reducible rfl
  simp only [Act.put, List.setIfInBounds_toArray, List.set_cons_zero, List.set_cons_succ]
  refine wpAnyH_done (by kernel_rfl) ?_ _
  simp only [List.getElem_toArray, List.getElem_cons_zero, List.getElem_cons_succ, List.setIfInBounds_toArray, List.set_cons_zero, List.set_cons_succ]
  by_cases hc : L.ss.length ≤ i
  · have hci : (L.ss.length : Int) ≤ (i : Int) := by omega
    clear HS0
    go_wp2_with fail
    go_ret
    unfold doCount
    rw [if_pos (by rw [HIA.out]; omega)]
    exact DoPost.plain rfl rfl HS.out HX.out HMV.out
  · have hci : (i : Int) < (L.ss.length : Int) := by omega
    obtain ⟨st, hst⟩ : ∃ st, elt L.ss i = st := ⟨_, rfl⟩
    have hso : stopOk st = true := by rw [← hst]; exact elt_ok HOK.out.ok (by omega)
    have HSTO := Lib.hid hso
    obtain ⟨Av9, cv9, hv9, hop⟩ := HS.out.st.open'
    obtain ⟨rfl, rfl⟩ : A3 = Av9 ∧ c3 = cv9 := by simpa using hv9
    obtain ⟨b3, rfl, -, -, hcl, -⟩ := hop (by omega)
    have q0 : W2.cell? ⟨b3, i * 4, none⟩ = some (.int .i64 st.kind) := (hcl i (by omega) 0 (by omega)).trans (by rw [← hst]; rfl)
    have q1 : W2.cell? ⟨b3, i * 4 + 1, none⟩ = some (.int .i64 st.fn) := (hcl i (by omega) 1 (by omega)).trans (by rw [← hst]; rfl)
    have q2 : W2.cell? ⟨b3, i * 4 + 2, none⟩ = some (.int .i64 st.line) := (hcl i (by omega) 2 (by omega)).trans (by rw [← hst]; rfl)
    have q3 : W2.cell? ⟨b3, i * 4 + 3, none⟩ = some (.string st.nm) := (hcl i (by omega) 3 (by omega)).trans (by rw [← hst]; rfl)
    have HST := Lib.hid hst
    clear HS0 hop hv9 hcl hst hso
    go_upto_region 3 with fail
    clear zs zv zn
    have hbd : Below W2.heap.size W2 W2.drew := bl_drew (Below.refl _ _)
    replace q0 := cell_later hbd q0
    replace q1 := cell_later hbd q1
    replace q2 := cell_later hbd q2
    replace q3 := cell_later hbd q3
    clear hbd
    refine wp_region_H (fun w' : World => Below W2.drew.heap.size W2.drew w') (by kernel_rfl) ?_
    have hszd : W2.drew.heap.size = q + 1 := hsz
    replace HMV := Lib.hid HMV.out.drew
    have hbd : Below W2.heap.size W2 W2.drew := bl_drew (Below.refl _ _)
    replace HS := Lib.hid (HS.out.later hbd); replace HE := Lib.hid (HE.out.later hbd); replace HX := Lib.hid (HX.out.later hbd); replace HR := Lib.hid (HR.out.later hbd); replace HA0 := Lib.hid (HA0.out.later hbd); clear hbd
    generalize W2.drew = W3 at HMV HS HE HX HR HA0 q0 q1 q2 q3 hszd ⊢
    clear hsz
    have hsz := hszd
    clear hszd
    have HS0 : Hid (Below W3.heap.size W3 W3) := Lib.hid (Below.refl _ _)
    have zs : W3.cell? ⟨sb, 0, none⟩ = some (.pointer (some ⟨s, 0, none⟩)) := HE.out.sbx.cell (j := 0) (by omega)
    have zt0 : W3.cell? ⟨tb, 0, none⟩ = some (.slice A1 t.fns.length c1) := HE.out.tbx.cell (j := 0) (by omega)
    have zt1 : W3.cell? ⟨tb, 1, none⟩ = some (.slice A2 t.moms.length c2) := HE.out.tbx.cell (j := 1) (by omega)
    have zv : W3.cell? ⟨s, 3, none⟩ = some (.slice (some ⟨b3, 0, none⟩) L.ss.length c3) := HS.out.blk.cell (j := 3) (by omega)
    have zn : W3.cell? ⟨q, 1, none⟩ = some (.int .i64 a.n) := HA0.out.cell (j := 1) (by omega)
    rw [HIA.out] at zn
    refine wpAnyH_take2 0 (v := ?v0k) (by rfl) (by kernel_rfl) (by intro _ _ _ h; exact h) HS0.out (by rfl) ?hy0k ?rest0k
    case hy0k =>
      intro w' hSw
      have szs := cell_later hSw zs
      have szt0 := cell_later hSw zt0
      have szt1 := cell_later hSw zt1
      have szv := cell_later hSw zv
      have szn := cell_later hSw zn
      clear hSw
      go_simp
      try with_reducible rfl
    simp only [Act.put, List.setIfInBounds_toArray, List.set_cons_zero, List.set_cons_succ]
    refine wpAnyH_take2 1 (v := ?v1k) (by rfl) (by kernel_rfl) (by intro _ _ _ h; exact h) HS0.out (by rfl) ?hy1k ?rest1k
    case hy1k =>
      intro w' hSw
      have szs := cell_later hSw zs
      have szt0 := cell_later hSw zt0
      have szt1 := cell_later hSw zt1
      have szv := cell_later hSw zv
      have szn := cell_later hSw zn
      clear hSw
      go_simp
      try with_reducible rfl
    simp only [Act.put, List.setIfInBounds_toArray, List.set_cons_zero, List.set_cons_succ]
    refine wpAnyH_take2 2 (v := ?v2k) (by rfl) (by kernel_rfl) (by intro _ _ _ h; exact h) HS0.out (by rfl) ?hy2k ?rest2k
    case hy2k =>
      intro w' hSw
      have szs := cell_later hSw zs
      have szt0 := cell_later hSw zt0
      have szt1 := cell_later hSw zt1
      have szv := cell_later hSw zv
      have szn := cell_later hSw zn
      clear hSw
      go_simp
      try with_reducible rfl
    simp only [Act.put, List.setIfInBounds_toArray, List.set_cons_zero, List.set_cons_succ]
    refine wpAnyH_take2 3 (v := ?v3k) (by rfl) (by kernel_rfl) (by intro _ _ _ h; exact h) HS0.out (by rfl) ?hy3k ?rest3k
    case hy3k =>
      intro w' hSw
      have szs := cell_later hSw zs
      have szt0 := cell_later hSw zt0
      have szt1 := cell_later hSw zt1
      have szv := cell_later hSw zv
      have szn := cell_later hSw zn
      clear hSw
      go_simp
      try with_reducible rfl
    simp only [Act.put, List.setIfInBounds_toArray, List.set_cons_zero, List.set_cons_succ]
    refine wpAnyH_take2 4 (v := ?v4k) (by rfl) (by kernel_rfl) (by intro _ _ _ h; exact h) HS0.out (by rfl) ?hy4k ?rest4k
    case hy4k =>
      intro w' hSw
      have szs := cell_later hSw zs
      have szt0 := cell_later hSw zt0
      have szt1 := cell_later hSw zt1
      have szv := cell_later hSw zv
      have szn := cell_later hSw zn
      clear hSw
      go_simp
      try with_reducible rfl
    simp only [Act.put, List.setIfInBounds_toArray, List.set_cons_zero, List.set_cons_succ]
    refine wpAnyH_take2 5 (v := ?v5k) (by rfl) (by kernel_rfl) (by intro _ _ _ h; exact h) HS0.out (by rfl) ?hy5k ?rest5k
    case hy5k =>
      intro w' hSw
      have szs := cell_later hSw zs
      have szt0 := cell_later hSw zt0
      have szt1 := cell_later hSw zt1
      have szv := cell_later hSw zv
      have szn := cell_later hSw zn
      clear hSw
      go_simp
      try with_reducible rfl
    simp only [Act.put, List.setIfInBounds_toArray, List.set_cons_zero, List.set_cons_succ]
    refine wpAnyH_take2 6 (v := ?v6k) (by rfl) (by kernel_rfl) (by intro _ _ _ h; exact h) HS0.out (by rfl) ?hy6k ?rest6k
    case hy6k =>
      intro w' hSw
      have szs := cell_later hSw zs
      have szt0 := cell_later hSw zt0
      have szt1 := cell_later hSw zt1
      have szv := cell_later hSw zv
      have szn := cell_later hSw zn
      clear hSw
      go_simp
      try with_reducible rfl
    simp only [Act.put, List.setIfInBounds_toArray, List.set_cons_zero, List.set_cons_succ]
    refine wpAnyH_take2 7 (v := ?v7k) (by rfl) (by kernel_rfl) (by intro _ _ _ h; exact h) HS0.out (by rfl) ?hy7k ?rest7k
    case hy7k =>
      intro w' hSw
      have szs := cell_later hSw zs
      have szt0 := cell_later hSw zt0
      have szt1 := cell_later hSw zt1
      have szv := cell_later hSw zv
      have szn := cell_later hSw zn
      clear hSw
      go_simp
      rfl
    simp only [Act.put, List.setIfInBounds_toArray, List.set_cons_zero, List.set_cons_succ]
    refine wpAnyH_take2 8 (v := ?v8k) (by rfl) (by kernel_rfl) (by intro _ _ _ h; exact h) HS0.out (by rfl) ?hy8k ?rest8k
    case hy8k =>
      intro w' hSw
      have szs := cell_later hSw zs
      have szt0 := cell_later hSw zt0
      have szt1 := cell_later hSw zt1
      have szv := cell_later hSw zv
      have szn := cell_later hSw zn
      have sq0 := cell_later hSw q0
      have sq1 := cell_later hSw q1
      have sq2 := cell_later hSw q2
      have sq3 := cell_later hSw q3
      clear hSw
      go_simp
      try with_reducible rfl
    simp only [Act.put, List.setIfInBounds_toArray, List.set_cons_zero, List.set_cons_succ]
    refine wpAnyH_take2 11 (v := ?v11k) (by rfl) (by kernel_rfl) (by intro _ _ _ h; exact h) HS0.out (by rfl) ?hy11k ?rest11k
    case hy11k =>
      intro w' hSw
      clear hSw
      go_simp
      try with_reducible rfl
    simp only [Act.put, List.setIfInBounds_toArray, List.set_cons_zero, List.set_cons_succ]
    refine wpAnyH_one 9 (by rfl) (by kernel_rfl) rfl ?_
    intro K hK
    go_simp
    refine (holds_un _ _ t st _ HR.out HSM.out HSO.out HSTO.out).mono ?_; rintro e w4 ⟨u, rfl, hO, hb⟩
    have HO := Lib.hid hO
    have HS1 := Lib.hid hb
    obtain ⟨A5, c5, rfl, -⟩ := hO.cap
    dsimp only
    refine hK.out _ _ HS1.out ?_
    clear hK K hO
    refine wpAnyH_take2 10 (v := ?v10n) (by rfl) (by kernel_rfl) (by intro _ _ _ h; exact h) HS1.out (by rfl) ?hy10n ?rest10n
    case hy10n =>
      intro w' hSw
      clear hSw
      go_simp
      try with_reducible rfl
    simp only [Act.put, List.setIfInBounds_toArray, List.set_cons_zero, List.set_cons_succ]
    refine wpAnyH_done (by kernel_rfl) ?_ _
    simp only [List.getElem_toArray, List.getElem_cons_zero, List.getElem_cons_succ, List.setIfInBounds_toArray, List.set_cons_zero, List.set_cons_succ]
    have hb := HS1.out
    replace HMV := Lib.hid (HMV.out.trans (Mv.of_below hb (by omega)))
    replace HS := Lib.hid (HS.out.later hb); replace HX := Lib.hid (HX.out.later hb); replace HE := Lib.hid (HE.out.later hb); clear hb
    clear zs zt0 zt1 zv zn q0 q1 q2 q3 HS0 HS1 HR HA0 hsz
    have HO0 := Lib.hid HO.out.rd
    have hlx8 : lo ≤ w4.heap.size := HMV.out.bl.size |> Nat.le_trans (by omega)
    go_wp2_with fail
    go_loopw [29] (fun k wr => ∃ j : Nat, j ≤ t.moms.length ∧ k = .int .i64 j ∧ Blk wr x 38 6 (tdF ⟨0, 0, cntN t.moms st L.place j, ⟨#[]⟩, [], []⟩ (.slice none 0 0) (.slice none 0 0)) ∧ SeS wr lo s (.slice A1 t.fns.length c1) (.slice A2 t.moms.length c2) D L (.slice (some ⟨b3, 0, none⟩) L.ss.length c3) (.slice A4 L.past.length c4) ∧ SeE wr s sb tb (.slice A1 t.fns.length c1) (.slice A2 t.moms.length c2) ∧ OwR wr W3.heap.size 4 1 t.moms.length (hdC t.moms st) (.slice A5 t.moms.length c5) ∧ Mx eTys x lo w wr) (fun k _ => t.moms.length - (intOf k).toNat)
    case atStart => exact ⟨0, Nat.zero_le _, rfl, HX.out, HS.out, HE.out, HO.out, Mx.ofMv HMV.out⟩
    case round =>
      obtain ⟨j9, hj, rfl, hX, hS, hE, hO, hM⟩ := hrel
      clear HX HS HE HO HMV
      have HX := Lib.hid hX
      have HS := Lib.hid hS
      have HE := Lib.hid hE
      have HO := Lib.hid hO
      have HM := Lib.hid hM
      clear hX hS hE hM
      by_cases hlt : j9 < t.moms.length
      · have hlt' : (j9 : Int) < (t.moms.length : Int) := by omega
        obtain ⟨A', c', he, -, hrow⟩ := hO.rd
        obtain ⟨rfl, rfl⟩ : A5 = A' ∧ c5 = c' := by simpa using he
        obtain ⟨bh, oh, rfl, hch⟩ := hrow (by omega)
        have zh0 := hch j9 hlt 0 (by omega)
        rw [Nat.mul_one, Nat.add_zero] at zh0
        obtain ⟨hh, hhe⟩ : ∃ hh, holdsP t.moms st j9 = hh := ⟨_, rfl⟩
        have zh : wr.cell? ⟨bh, oh + j9, none⟩ = some (.bool hh) := zh0.trans (by rw [← hhe]; rfl)
        have HHE := Lib.hid hhe
        have zs : wr.cell? ⟨sb, 0, none⟩ = some (.pointer (some ⟨s, 0, none⟩)) := HE.out.sbx.cell (j := 0) (by omega)
        have za : wr.cell? ⟨s, 2, none⟩ = some (.int .i64 L.place) := HS.out.blk.cell (j := 2) (by omega)
        obtain ⟨cn, hcn⟩ : ∃ cn, cntN t.moms st L.place j9 = cn := ⟨_, rfl⟩
        have hcr := cntN_rng t.moms st L.place j9
        rw [hcn] at hcr
        have xc : wr.cell? ⟨x, 2, none⟩ = some (.int .i64 cn) := (HX.out.cell (j := 2) (by omega)).trans (by rw [← hcn]; rfl)
        have xf := HX.out.free 2
        have HCN := Lib.hid hcn
        clear he hrow hch zh0 hhe hcn hO
        cases hh with
        | false =>
          go_wp2_with fail
          go_roundw
          case rel =>
            refine ⟨j9 + 1, by omega, by go_num, HX.out.congr fun j hj => ?_, HS.out, HE.out, HO.out, HM.out⟩
            have e : cntN t.moms st L.place (j9 + 1) = cntN t.moms st L.place j9 := by
              show cntN t.moms st L.place j9 + (if (decide ((j9 : Int) ≤ L.place) && holdsP t.moms st j9) = true then 1 else 0) = _
              rw [HHE.out]
              simp
            rw [e]
          case measure => simp [intOf]; omega
        | true =>
          by_cases hp : (j9 : Int) ≤ L.place
          · go_wp2_with fail
            go_roundw
            case rel =>
              refine ⟨j9 + 1, by omega, by go_num, (HX.out.set (j := 2) (by omega) _).congr fun j hj => ?_, HS.out.farX HX.out 2 _, HE.out.farX HX.out 2 _, HO.out.other HX.out (by decide) 2 _, HM.out.set hlx 2 _⟩
              have e : cntN t.moms st L.place (j9 + 1) = cn + 1 := by
                show cntN t.moms st L.place j9 + (if (decide ((j9 : Int) ≤ L.place) && holdsP t.moms st j9) = true then 1 else 0) = _
                rw [HHE.out, decide_eq_true hp, HCN.out]
                rfl
              rw [e]
              match j, hj with
              | 0, _ => rfl
              | 1, _ => rfl
              | 2, _ => rfl
              | 3, _ => rfl
              | 4, _ => rfl
              | 5, _ => rfl
            case measure => simp [intOf]; omega
          · have hp' : L.place < (j9 : Int) := by omega
            go_wp2_with fail
            go_roundw
            case rel =>
              refine ⟨j9 + 1, by omega, by go_num, HX.out.congr fun j hj => ?_, HS.out, HE.out, HO.out, HM.out⟩
              have e : cntN t.moms st L.place (j9 + 1) = cntN t.moms st L.place j9 := by
                show cntN t.moms st L.place j9 + (if (decide ((j9 : Int) ≤ L.place) && holdsP t.moms st j9) = true then 1 else 0) = _
                rw [decide_eq_false (by omega)]
                simp
              rw [e]
            case measure => simp [intOf]; omega
      · obtain rfl : j9 = t.moms.length := by omega
        clear hO
        go_wp2_with fail
        go_ret
        unfold doCount
        rw [if_neg (by rw [HIA.out]; omega), HIA.out, Int.toNat_natCast, HST.out]
        exact ⟨rfl, ⟨_, _, HS.out⟩, TdAt.of HX.out (fun j hj => rfl) OwR.nil (owr_z OwR.nil), HM.out⟩
end Go.Proofs.YtcklnjjbhngbcaaGreatDoor
