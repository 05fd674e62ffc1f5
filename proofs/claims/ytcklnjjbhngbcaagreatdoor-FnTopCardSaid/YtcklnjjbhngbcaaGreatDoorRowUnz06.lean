/- Lemmas and contracts of functions that the theorem of this claim leans on (texts B4, B11, B15, E2). -/
import Derived.OrdersHeld
import Derived.Lib.Hide
import Derived.StillTail
import Derived.Test.YtcklnjjbhngbcaaGreatDoorRowUnz05
import Derived.Deep.DeepCutAuto
import Derived.Deep.CutBlock
import Derived.Deep.QuietTactic
import Derived.BigQuiet
import Derived.StillTailTactics
import Derived.Test.YtcklnjjbhngbcaaGreatDoorRowUnz04
namespace Go.Proofs.Lens
open Go Go.RowKit Lib

section
variable {P : Program} {ops : Array Oper} {md : Region.Mode} {Q : Exit → Act → World → Prop} {S : World → Prop} {z : Nat}

/-- Whatever order is picked from here on, and S holds behind every operation but the last one, z. -/
def wpAnyF (P : Program) (md : Region.Mode) (ops : Array Oper) (Q : Exit → Act → World → Prop) (S : World → Prop) (z : Nat) : Nat → Array Bool → Act → World → Prop
  | 0, listed, a, w => Region.ready md ops listed = [] ∧ Q .normal a w
  | fuel + 1, listed, a, w =>
    (Region.ready md ops listed = [] → Q .normal a w) ∧
    ∀ i ∈ Region.ready md ops listed, wpOp P ops Q i (fun a' w' => (i ≠ z → S w') ∧ wpAnyF P md ops Q S z fuel (listed.setIfInBounds i true) a' w') a w
theorem wpAny_of_F : ∀ (fuel : Nat) (listed : Array Bool) (a : Act) (w : World), wpAnyF P md ops Q S z fuel listed a w → wpAny P md ops Q fuel listed a w
  | 0, _, _, _, h => h
  | fuel + 1, _, _, _, h => ⟨h.1, fun i hi => wpOp_mono (fun a' w' h' => wpAny_of_F fuel _ a' w' h'.2) (h.2 i hi)⟩

theorem wpAnyF_first {i : Nat} {oi : Oper} {v : Value} (hi : ops[i]? = some oi) (hsel : ∀ (j : Nat) (o : Oper) cs b, ops[j]? = some o → o.op ≠ .select cs b)
    (hQ : ∀ c a w, Q (.panic c) (a.put oi.dst v) w → Q (.panic c) a w) (hz : Region.waitsFor md ops z i = true) :
    ∀ (fuel : Nat) (listed : Array Bool) (a : Act) (w : World),
      (∀ j oj, ops[j]? = some oj → j ≠ i → listed.getD j true = false → (∀ e ∈ oj.after, Region.binds md e = true → e.on ≠ i) → oi.apart ops oj = true) →
      i ∈ Region.ready md ops listed → YieldsIf P ops S oi v a → S w →
      wpAnyF P md ops Q S z fuel (listed.setIfInBounds i true) (a.put oi.dst v) w → wpAnyF P md ops Q S z (fuel + 1) listed a w := by
  intro fuel
  induction fuel with
  | zero =>
    intro listed a w _ hr hy hS H
    refine ⟨fun h => (by rw [h] at hr; cases hr), fun j hj => ?_⟩
    by_cases hji : j = i
    · subst hji; exact hy.wpOp hi hS ⟨fun _ => hS, H⟩
    · have := ready_mono hj hji
      rw [H.1] at this
      cases this
  | succ fuel ih =>
    intro listed a w hfree hr hy hS H
    refine ⟨fun h => (by rw [h] at hr; cases hr), fun j hj => ?_⟩
    by_cases hji : j = i
    · subst hji; exact hy.wpOp hi hS ⟨fun _ => hS, H⟩
    · have hun := (mem_ready.1 hr).1
      have h1 := H.2 j (ready_mono hj hji)
      obtain ⟨hjun, oj, hoj, hall⟩ := mem_ready.1 hj
      have hjz : j ≠ z := fun hh => by
        obtain ⟨oz, hoz, e, he, hb, hon⟩ := Region.waitsFor_spec hz
        rw [← hh, hoj] at hoz
        cases hoz
        have h2 := hall e he hb
        rw [hon, getD_both hun] at h2
        cases h2
      have hnot : ∀ e ∈ oj.after, Region.binds md e = true → e.on ≠ i := fun e he hb heq => by
        have h1 := hall e he hb
        rw [heq, getD_both hun] at h1
        cases h1
      have h2 := wpOp_putIf hoj (hfree j oj hoj hji hjun hnot) (fun cs b => hsel i oi cs b hi) (fun cs b => hsel j oj cs b hoj) hQ hy h1
      have hfree' : ∀ k ok, ops[k]? = some ok → k ≠ i → (listed.setIfInBounds j true).getD k true = false →
          (∀ e ∈ ok.after, Region.binds md e = true → e.on ≠ i) → oi.apart ops ok = true := fun k ok hk hki hun hno => by
        refine hfree k ok hk hki ?_ hno
        by_cases hjk : j = k
        · subst hjk; exact hjun
        · rw [getD_set_ne true hjk] at hun; exact hun
      refine wpOp_mono (fun a' w' h3 => ⟨h3.2.1, ih (listed.setIfInBounds j true) a' w' hfree' (ready_mono hr (Ne.symm hji)) h3.1 (h3.2.1 hjz) ?_⟩) h2
      rw [Array.setIfInBounds_comm _ _ hji]
      exact h3.2.2

/-- Number i is taken first. -/
theorem wpAnyF_take (i : Nat) {oi : Oper} {v : Value} {fuel : Nat} {listed : Array Bool} {a : Act} {w : World} (hi : ops[i]? = some oi)
    (hs : (Region.noSelect ops && Region.waitsFor md ops z i && Region.free md ops listed i && (Region.ready md ops listed).contains i) = true)
    (hQ : ∀ c a w, Q (.panic c) (a.put oi.dst v) w → Q (.panic c) a w) (hS : S w) (hw : Region.wanted oi (yielded ops a.tmps) = true) (hy : ∀ w, S w → (execOp a.eval oi).run P w = .ok (.value v) w)
    (h : wpAnyF P md ops Q S z fuel (listed.setIfInBounds i true) (a.put oi.dst v) w) : wpAnyF P md ops Q S z (fuel + 1) listed a w := by
  simp only [Bool.and_eq_true] at hs
  exact wpAnyF_first hi (Region.noSelect_spec hs.1.1.1) hQ hs.1.1.2 fuel listed a w (Region.free_spec hi hs.1.2) (by simpa using hs.2) (.inl ⟨hw, hy⟩) hS h
/-- One alone may come up. -/
theorem wpAnyF_one (k : Nat) {o : Oper} {fuel : Nat} {listed : Array Bool} {a : Act} {w : World} (ho : ops[k]? = some o) (hr : Region.ready md ops listed = [k]) (hg : o.guard = none)
    (h : ∀ K : Act → World → Prop, Hid (∀ a w, (k ≠ z → S w) → wpAnyF P md ops Q S z fuel (listed.setIfInBounds k true) a w → K a w) → Oper.wp P o a w K Q) : wpAnyF P md ops Q S z (fuel + 1) listed a w := by
  refine ⟨fun h0 => (by rw [hr] at h0; cases h0), fun i hi => ?_⟩
  rw [hr] at hi
  obtain rfl : i = k := by simpa using hi
  unfold wpOp
  simp only [ho]
  have hw : Region.wanted o (yielded ops a.tmps) = true := by simp [Region.wanted, hg]
  rw [if_pos hw]
  exact .inl (h _ (Lib.hid fun a' w' h1 h2 => ⟨h1, h2⟩))
theorem wpAnyF_done {listed : Array Bool} {a : Act} {w : World} (hr : Region.ready md ops listed = []) (h : Q .normal a w) : ∀ fuel, wpAnyF P md ops Q S z fuel listed a w
  | 0 => ⟨hr, h⟩
  | _ + 1 => ⟨fun _ => h, by rw [hr]; simp⟩
/-- The beginning. -/
theorem wp_region_F {id : Nat} {a : Act} {w : World} (z : Nat) (S : World → Prop) (hm : P.follows .mixedOrders = true) (h : wpAnyF P .any ops Q S z ops.size (Array.replicate ops.size false) a w.drew) : (Code.region id ops true).wp P Q a w :=
  wp_region_any hm (wpAny_of_F _ _ _ _ h)
end
end Go.Proofs.Lens

namespace Go.Proofs.Lens
open Go Go.RowKit Lib

section
variable {P : Program} {ops : Array Oper} {md : Region.Mode} {Q : Exit → Act → World → Prop} {S S' : World → Prop} {z : Nat}
theorem wpAnyF_mono (hS : ∀ w, S' w → S w) : ∀ (fuel : Nat) {listed : Array Bool} {a : Act} {w : World}, wpAnyF P md ops Q S' z fuel listed a w → wpAnyF P md ops Q S z fuel listed a w
  | 0, _, _, _, h => h
  | fuel + 1, _, _, _, h => ⟨h.1, fun i hi => wpOp_mono (fun _ _ h' => ⟨fun hz => hS _ (h'.1 hz), wpAnyF_mono hS fuel h'.2⟩) (h.2 i hi)⟩
theorem wpAnyF_two (k l : Nat) {o o' : Oper} {fuel : Nat} {listed : Array Bool} {a : Act} {w : World} (ho : ops[k]? = some o) (ho' : ops[l]? = some o') (hr : Region.ready md ops listed = [k, l]) (hg : o.guard = none) (hg' : o'.guard = none)
    (h : ∀ K : Act → World → Prop, Hid (∀ a w, (k ≠ z → S w) → wpAnyF P md ops Q S z fuel (listed.setIfInBounds k true) a w → K a w) → Oper.wp P o a w K Q)
    (h' : ∀ K : Act → World → Prop, Hid (∀ a w, (l ≠ z → S w) → wpAnyF P md ops Q S z fuel (listed.setIfInBounds l true) a w → K a w) → Oper.wp P o' a w K Q) : wpAnyF P md ops Q S z (fuel + 1) listed a w := by
  refine ⟨fun h0 => (by rw [hr] at h0; cases h0), fun i hi => ?_⟩
  rw [hr] at hi
  have hi : i = k ∨ i = l := by simpa using hi
  rcases hi with rfl | rfl
  · unfold wpOp
    simp only [ho]
    have hw : Region.wanted o (yielded ops a.tmps) = true := by simp [Region.wanted, hg]
    rw [if_pos hw]
    exact .inl (h _ (Lib.hid fun a' w' h1 h2 => ⟨h1, h2⟩))
  · unfold wpOp
    simp only [ho']
    have hw : Region.wanted o' (yielded ops a.tmps) = true := by simp [Region.wanted, hg']
    rw [if_pos hw]
    exact .inl (h' _ (Lib.hid fun a' w' h1 h2 => ⟨h1, h2⟩))
end
end Go.Proofs.Lens

namespace Go.Proofs.Lens
open Go Go.RowKit Lib

section
variable {P : Program} {ops : Array Oper} {md : Region.Mode} {Q : Exit → Act → World → Prop} {S : World → Prop}
theorem wpAnyH_one (k : Nat) {o : Oper} {fuel : Nat} {listed : Array Bool} {a : Act} {w : World} (ho : ops[k]? = some o) (hr : Region.ready md ops listed = [k]) (hg : o.guard = none)
    (h : ∀ K : Act → World → Prop, Hid (∀ a w, S w → wpAnyH P md ops Q S fuel (listed.setIfInBounds k true) a w → K a w) → Oper.wp P o a w K Q) : wpAnyH P md ops Q S (fuel + 1) listed a w := by
  refine wpAnyH_all hr (by simp) fun i hi => ?_
  obtain rfl : i = k := by simpa using hi
  unfold wpOp
  simp only [ho]
  have hw : Region.wanted o (yielded ops a.tmps) = true := by simp [Region.wanted, hg]
  rw [if_pos hw]
  exact .inl (h _ (Lib.hid fun a' w' h1 h2 => ⟨h1, h2⟩))
theorem wpAnyH_take2 (i : Nat) {oi : Oper} {v : Value} {fuel : Nat} {listed : Array Bool} {a : Act} {w : World} (hi : ops[i]? = some oi)
    (hs : (Region.noSelect ops && Region.free md ops listed i && (Region.ready md ops listed).contains i) = true)
    (hQ : ∀ c a w, Q (.panic c) (a.put oi.dst v) w → Q (.panic c) a w) (hS : S w) (hw : Region.wanted oi (yielded ops a.tmps) = true) (hy : ∀ w, S w → (execOp a.eval oi).run P w = .ok (.value v) w)
    (h : wpAnyH P md ops Q S fuel (listed.setIfInBounds i true) (a.put oi.dst v) w) : wpAnyH P md ops Q S (fuel + 1) listed a w := by
  simp only [Bool.and_eq_true] at hs
  exact wpAnyH_take hi hs.1.1 hs.1.2 hs.2 hQ (.inl ⟨hw, hy⟩) hS h
theorem wp_region_H {id : Nat} {a : Act} {w : World} (S : World → Prop) (hm : P.follows .mixedOrders = true) (h : wpAnyH P .any ops Q S ops.size (Array.replicate ops.size false) a w.drew) : (Code.region id ops true).wp P Q a w :=
  wp_region_held hm h
end
end Go.Proofs.Lens

namespace Go.Proofs.YtcklnjjbhngbcaaGreatDoor
open Go.RowKit Go.Proofs.Lens
set_option linter.unusedSimpArgs false

/-- The types of the session's own blocks that asks turn. -/
def eTys : List TypeId := [94, 45, 1]
/-- What turns but for the block x. -/
structure Mx (ts : List TypeId) (x lo : Nat) (w w' : World) : Prop where
  bl : Below lo w w'
  kp : ∀ (b : Nat) (o : Obj), w.heap[b]? = some o → (∀ cur e fr, o = .cells cur e fr → e ∉ ts) → b ≠ x → w'.heap[b]? = some o
section
variable {ts : List TypeId} {x lo : Nat} {w w1 w2 wb : World}
theorem Mx.ofMv (h : Mv ts lo w w1) : Mx ts x lo w w1 := ⟨h.bl, fun b o hb hn _ => h.kp b o hb hn⟩
theorem Mx.trans (h : Mx ts x lo w w1) (k : Mx ts x lo w1 w2) : Mx ts x lo w w2 := ⟨bl_trans9 h.bl k.bl, fun b o hb hn hx => k.kp b o (h.kp b o hb hn hx) hn hx⟩
theorem Mx.below (h : Below w.heap.size w w1) (hl : lo ≤ w.heap.size) : Mx ts x lo w w1 := Mx.ofMv (Mv.of_below h hl)
theorem Mx.set (h : Mx ts x lo w w1) (hl : lo ≤ x) (j : Nat) (u : Value) : Mx ts x lo w (w1.setCell ⟨x, j, none⟩ u) :=
  ⟨bl_set h.bl hl _, fun b o hb hn hx => by rw [Below.heap_setCell _ _ _ _ (by exact hx)]; exact h.kp b o hb hn hx⟩
/-- The block x is new since the world wb. -/
theorem Mx.base (h : Mx ts x lo w w1) (h0 : Mv ts lo wb w) (hx : wb.heap.size ≤ x) : Mv ts lo wb w1 :=
  ⟨bl_trans9 h0.bl h.bl, fun b o hb hn => h.kp b o (h0.kp b o hb hn) hn (by have := (Array.getElem?_eq_some_iff.1 hb).1; omega)⟩
theorem blk_mx {b : Nat} {e : TypeId} {N : Nat} {f : Nat → Value} (hB : Blk w b e N f) (h : Mx ts x lo w w1) (he : e ∉ ts) (hx : b ≠ x) : Blk w1 b e N f :=
  hB.keep (by
    obtain ⟨cur, h1, -⟩ := id hB
    rw [h1]
    exact h.kp b _ h1 (fun cur' e' fr' hh => by cases hh; exact he) hx)
end
/-- The cells of a session. -/
def seF (v1 v2 : Value) (k : Int) (vs vu : Value) (D : Nat → Value) (j : Nat) : Value := match j with
  | 0 => v1 | 1 => v2 | 2 => .int .i64 k | 3 => vs | 4 => vu | j + 5 => D j
def ptrB (b : Nat) : Value := .pointer (some ⟨b, 0, none⟩)
def unV (fb sm : Nat → Nat) (i _j : Nat) : Value := .func (.func 144) #[] #[ptrB (fb i), ptrB (sm i)]
/-- The list of what undoes. -/
def UnD (w : World) (lo s : Nat) (past : List Int) (vu : Value) : Prop :=
  ∃ fb sm : Nat → Nat, OwR w lo 1 1 past.length (unV fb sm) vu ∧ ∀ i, i < past.length → Blk w (fb i) 3 1 (fun _ => .int .i64 (elt past i)) ∧ Blk w (sm i) 83 1 (fun _ => ptrB s)
/-- The session s of a trace in the state L. -/
structure SeS (w : World) (lo s : Nat) (v1 v2 : Value) (D : Nat → Value) (L : Lk) (vs vu : Value) : Prop where
  blk : Blk w s 94 19 (seF v1 v2 L.place vs vu D)
  st : OwR w lo 45 4 L.ss.length (stopC L.ss) vs
  un : UnD w lo s L.past vu
section
variable {w w' : World} {lo s : Nat} {v1 v2 vs vu : Value} {D : Nat → Value} {L : Lk}
theorem UnD.later {past : List Int} (h : UnD w lo s past vu) (hb : Below w.heap.size w w') : UnD w' lo s past vu := by
  obtain ⟨fb, sm, h1, h2⟩ := h
  exact ⟨fb, sm, h1.later hb, fun i hi => ⟨(h2 i hi).1.later hb, (h2 i hi).2.later hb⟩⟩
theorem SeS.later (h : SeS w lo s v1 v2 D L vs vu) (hb : Below w.heap.size w w') : SeS w' lo s v1 v2 D L vs vu := ⟨h.blk.later hb, h.st.later hb, h.un.later hb⟩
theorem UnD.cap {past : List Int} (h : UnD w lo s past vu) : ∃ A c, vu = .slice A past.length c ∧ past.length ≤ c ∧ c ≤ 9223372036854775807 := by
  obtain ⟨fb, sm, h1, -⟩ := h
  exact h1.cap
theorem UnD.far {past : List Int} (h : UnD w lo s past vu) {b N : Nat} {e : TypeId} {f : Nat → Value} (hB : Blk w b e N f) (h1 : 1 ≠ e) (h2 : 3 ≠ e) (h3 : 83 ≠ e) (j : Nat) (u : Value) : UnD (w.setCell ⟨b, j, none⟩ u) lo s past vu := by
  obtain ⟨fb, sm, g1, g2⟩ := h
  exact ⟨fb, sm, g1.other hB h1 _ _, fun i hi => ⟨(g2 i hi).1.far ((g2 i hi).1.ne hB h2) _, (g2 i hi).2.far ((g2 i hi).2.ne hB h3) _⟩⟩
/-- The place is set. -/
theorem SeS.setAt (h : SeS w lo s v1 v2 D L vs vu) (k : Int) : SeS (w.setCell ⟨s, 2, none⟩ (.int .i64 k)) lo s v1 v2 D ⟨k, L.ss, L.past⟩ vs vu :=
  ⟨(h.blk.set (j := 2) (by omega) _).congr fun j hj => by
    match j, hj with
    | 0, _ => rfl
    | 1, _ => rfl
    | 2, _ => rfl
    | 3, _ => rfl
    | 4, _ => rfl
    | j + 5, _ => rfl, h.st.other h.blk (by decide) _ _, h.un.far h.blk (by decide) (by decide) (by decide) _ _⟩
end
def snocN (f : Nat → Nat) (n x i : Nat) : Nat := if i = n then x else f i
theorem i_fn : (Tryz.prog.info? 1).map (fun i => (i.zero, i.size, i.bytes)) = some (some .nilFunc, 1, 8) := by kernel_rfl

set_option maxRecDepth 100000 in
set_option maxHeartbeats 4000000 in
theorem semove_calls (lo s : Nat) (v1 v2 : Value) (D : Nat → Value) (L : Lk) (vs vu : Value) (k : Int) (w : World) (h : SeS w lo s v1 v2 D L vs vu) (hlo : lo ≤ s) (hl : L.past.length ≤ 1000000) :
    Calls Tryz.prog 103 #[.pointer (some ⟨s, 0, none⟩), .int .i64 k] w fun e w' => e = .returned (.tuple #[]) ∧ (∃ vu', SeS w' lo s v1 v2 D (L.move k) vs vu') ∧ Mv eTys lo w w' := by
  have H := Lib.hid h
  obtain ⟨A, c, rfl, -⟩ := h.un.cap
  have hsw := h.blk.lt
  have c2 : w.cell? ⟨s, 2, none⟩ = some (.int .i64 L.place) := h.blk.cell (j := 2) (by omega)
  have c4 : w.cell? ⟨s, 4, none⟩ = some (.slice A L.past.length c) := h.blk.cell (j := 4) (by omega)
  clear h
  go_enter Tryz.func103, Tryz.ntmps103
  go_upto_region 2 with fail
  clear c2 c4
  have HS1 := Lib.hid ((Blk.made w #[.pointer (some ⟨s, 0, none⟩)] 83).congr (f' := fun _ => ptrB s) fun j hj => by
    obtain rfl : j = 0 := by simp at hj; omega
    rfl)
  have HI1 := Lib.hid ((Blk.made (w.alloc (.cells #[.pointer (some ⟨s, 0, none⟩)] 83)) #[.int .i64 L.place] 3).congr (f' := fun _ => .int .i64 L.place) fun j hj => by
    obtain rfl : j = 0 := by simp at hj; omega
    rfl)
  have hbw := bl_alloc (bl_alloc (Below.refl _ w) (.cells #[.pointer (some ⟨s, 0, none⟩)] 83)) (.cells #[.int .i64 L.place] 3)
  replace HS1 := Lib.hid (HS1.out.alloc (.cells #[.int .i64 L.place] 3))
  rw [World.size_alloc] at HI1
  have hsz : ((w.alloc (.cells #[.pointer (some ⟨s, 0, none⟩)] 83)).alloc (.cells #[.int .i64 L.place] 3)).heap.size = w.heap.size + 2 := by simp
  generalize World.alloc (World.alloc w _) _ = W at HS1 HI1 hbw hsz ⊢
  have H2 := Lib.hid (H.out.later hbw)
  have HMV := Lib.hid (Mv.of_below (ts := eTys) hbw (show lo ≤ w.heap.size by omega))
  obtain ⟨sb, hsb⟩ : ∃ x, w.heap.size = x := ⟨_, rfl⟩
  rw [hsb] at HS1 HI1 hsw hsz ⊢
  have hsb0 : w.heap.size ≤ sb := by omega
  clear hbw H hsb
  have HS0 : Hid (W.drew.cell? ⟨sb, 0, none⟩ = some (.pointer (some ⟨s, 0, none⟩)) ∧ W.drew.cell? ⟨s, 4, none⟩ = some (.slice A L.past.length c)) := Lib.hid ⟨HS1.out.cell (j := 0) (by simp), H2.out.blk.cell (j := 4) (by omega)⟩
  refine wp_region_F 10 (fun w' : World => w'.cell? ⟨sb, 0, none⟩ = some (.pointer (some ⟨s, 0, none⟩)) ∧ w'.cell? ⟨s, 4, none⟩ = some (.slice A L.past.length c)) (by kernel_rfl) ?_
  have HMVd := Lib.hid (HMV.out.drew)
  have H2d := Lib.hid (H2.out.later (bl_drew (Below.refl _ _)))
  have HS1d := Lib.hid (HS1.out.drew)
  have HI1d := Lib.hid (HI1.out.drew)
  have hszd : W.drew.heap.size = sb + 2 := hsz
  generalize W.drew = W2 at HS0 HMVd H2d HS1d HI1d hszd ⊢
  clear HMV H2 HS1 HI1 hsz
  refine wpAnyF_take 0 (v := ?v0m) (by rfl) (by kernel_rfl) (by intro _ _ _ h; exact h) HS0.out (by rfl) ?hy0m ?rest0m
  case hy0m =>
    intro w' hSw
    obtain ⟨s0, s1⟩ := hSw
    go_simp
    try with_reducible rfl
  simp only [Act.put, List.setIfInBounds_toArray, List.set_cons_zero, List.set_cons_succ]
  refine wpAnyF_take 1 (v := ?v1m) (by rfl) (by kernel_rfl) (by intro _ _ _ h; exact h) HS0.out (by rfl) ?hy1m ?rest1m
  case hy1m =>
    intro w' hSw
    obtain ⟨s0, s1⟩ := hSw
    go_simp
    try with_reducible rfl
  simp only [Act.put, List.setIfInBounds_toArray, List.set_cons_zero, List.set_cons_succ]
  refine wpAnyF_take 2 (v := ?v2m) (by rfl) (by kernel_rfl) (by intro _ _ _ h; exact h) HS0.out (by rfl) ?hy2m ?rest2m
  case hy2m =>
    intro w' hSw
    obtain ⟨s0, s1⟩ := hSw
    go_simp
    try with_reducible rfl
  simp only [Act.put, List.setIfInBounds_toArray, List.set_cons_zero, List.set_cons_succ]
  refine wpAnyF_take 3 (v := ?v3m) (by rfl) (by kernel_rfl) (by intro _ _ _ h; exact h) HS0.out (by rfl) ?hy3m ?rest3m
  case hy3m =>
    intro w' hSw
    obtain ⟨s0, s1⟩ := hSw
    go_simp
    try with_reducible rfl
  simp only [Act.put, List.setIfInBounds_toArray, List.set_cons_zero, List.set_cons_succ]
  refine wpAnyF_take 4 (v := ?v4m) (by rfl) (by kernel_rfl) (by intro _ _ _ h; exact h) HS0.out (by rfl) ?hy4m ?rest4m
  case hy4m =>
    intro w' hSw
    obtain ⟨s0, s1⟩ := hSw
    go_simp
    try with_reducible rfl
  simp only [Act.put, List.setIfInBounds_toArray, List.set_cons_zero, List.set_cons_succ]
  refine wpAnyF_take 5 (v := ?v5m) (by rfl) (by kernel_rfl) (by intro _ _ _ h; exact h) HS0.out (by rfl) ?hy5m ?rest5m
  case hy5m =>
    intro w' hSw
    obtain ⟨s0, s1⟩ := hSw
    go_simp
    try with_reducible rfl
  simp only [Act.put, List.setIfInBounds_toArray, List.set_cons_zero, List.set_cons_succ]
  refine wpAnyF_one 6 (by rfl) (by kernel_rfl) rfl ?_
  intro K hK
  go_simp
  refine hK.out _ _ (fun _ => ⟨(HS1d.out.alloc _).cell (j := 0) (by simp), (H2d.out.blk.alloc _).cell (j := 4) (by omega)⟩) ?_
  clear hK K
  refine wpAnyF_one 7 (by rfl) (by kernel_rfl) rfl ?_
  intro K hK
  obtain ⟨fb, sm, hO, hB⟩ := H2d.out.un
  have HBS := Lib.hid hB
  have hnew : ∀ j u, [Value.func (.func 144) #[] #[ptrB (sb + 1), ptrB sb]][j]? = some u → (W2.alloc (.cells #[.func (.func 144) #[] #[ptrB (sb + 1), ptrB sb]] 1)).cell? ⟨sb + 2, 0 + j, none⟩ = some u := fun j u hj => by
    rw [Nat.zero_add, ← hszd]
    exact BoxAt.new W2 [.func (.func 144) #[] #[ptrB (sb + 1), ptrB sb]] 1 j u hj
  have hlo2 : lo ≤ W2.heap.size := by omega
  refine wp_appendG _ _ _ 91 (by rfl) lo 1 .nilFunc 1 8 1 Tryz.underlying91 i_fn rfl (by omega) _ L.past.length (unV fb sm) (unV (snocN fb L.past.length (sb + 1)) (snocN sm L.past.length sb)) (by rfl) (hO.later (bl_alloc (Below.refl _ _) _))
    [Value.func (.func 144) #[] #[ptrB (sb + 1), ptrB sb]] rfl (by omega) (fun u hu => by rw [List.mem_singleton.1 hu]; rfl) (sb + 2) 0 1 (by rfl) hnew ?_ ?_ (by simp; omega) (by omega) (by omega) ?_
  · intro i hi j _
    unfold unV snocN
    rw [if_neg (by omega), if_neg (by omega)]
  · intro i hi j hj
    obtain rfl : i = 0 := by omega
    obtain rfl : j = 0 := by omega
    show some _ = some _
    unfold unV snocN
    rw [if_pos (by omega), if_pos (by omega)]
  intro g9 cap9 w7 hO7 hg7 hat7 hlt7
  have hOa := hO.later (bl_alloc (Below.refl _ W2) (.cells #[.func (.func 144) #[] #[ptrB (sb + 1), ptrB sb]] 1))
  have hba := bl_alloc (Below.refl _ W2) (.cells #[.func (.func 144) #[] #[ptrB (sb + 1), ptrB sb]] 1)
  have hmv : Mv [1] lo (W2.alloc (.cells #[.func (.func 144) #[] #[ptrB (sb + 1), ptrB sb]] 1)) w7 :=
    (Mv.refl _ _ _).grown (by simp; omega) hg7 (fun b hb => by obtain ⟨N, F, hB⟩ := hOa.block hb; exact ⟨(hOa.lt b hb).1, _, N, F, hB, by simp⟩)
  have HBK := Lib.hid ((H2d.out.blk.later hba).mv hmv (by decide))
  have HST := Lib.hid ((H2d.out.st.later hba).mv hmv (by decide))
  have HUN : Hid (UnD w7 lo s (L.past ++ [L.place]) (.slice (some ⟨g9, 0, none⟩) (L.past.length + 1) cap9)) := Lib.hid ⟨_, _, by rw [show (L.past ++ [L.place]).length = L.past.length + 1 by simp]; exact hO7, fun i hi => by
    have hi : i < L.past.length + 1 := by simpa using hi
    unfold snocN
    by_cases hc : i = L.past.length
    · subst hc
      rw [if_pos rfl, if_pos rfl, elt_last]
      exact ⟨(HI1d.out.later hba).mv hmv (by decide), (HS1d.out.later hba).mv hmv (by decide)⟩
    · rw [if_neg hc, if_neg hc, elt_app _ _ (by omega)]
      exact ⟨((HBS.out i (by omega)).1.later hba).mv hmv (by decide), ((HBS.out i (by omega)).2.later hba).mv hmv (by decide)⟩⟩
  have HS7 := Lib.hid ((HS1d.out.later hba).mv hmv (by decide))
  have HMV7 := Lib.hid ((HMVd.out.alloc hlo2 (.cells #[.func (.func 144) #[] #[ptrB (sb + 1), ptrB sb]] 1)).trans (hmv.mono (fun e he => by rw [List.mem_singleton.1 he]; decide)))
  have hsz7 : sb + 2 < w7.heap.size := by have h1 := hmv.bl.size; rw [World.size_alloc] at h1; omega
  refine hK.out _ _ (fun _ => ⟨HS7.out.cell (j := 0) (by simp), HBK.out.cell (j := 4) (by omega)⟩) ?_
  clear hK K hOa hba hmv hO7 hg7 hat7 hlt7 hO hB HBS hnew HMVd H2d HS1d HI1d HS0 hszd hlo2
  have c4 : w7.cell? ⟨s, 4, none⟩ = some (.slice A L.past.length c) := HBK.out.cell (j := 4) (by omega)
  have f4 := HBK.out.free 4
  have z7 : w7.cell? ⟨sb, 0, none⟩ = some (.pointer (some ⟨s, 0, none⟩)) := HS7.out.cell (j := 0) (by simp)
  simp only [Act.put, List.setIfInBounds_toArray, List.set_cons_zero, List.set_cons_succ]
  refine wpAnyF_one 8 (by rfl) (by kernel_rfl) rfl ?_
  intro K hK
  go_simp
  refine hK.out _ _ (fun _ => ⟨z7, c4⟩) ?_
  clear hK K
  refine wpAnyF_one 9 (by rfl) (by kernel_rfl) rfl ?_
  intro K hK
  go_simp
  refine hK.out _ _ (fun _ => ⟨z7, c4⟩) ?_
  clear hK K
  refine wpAnyF_one 10 (by rfl) (by kernel_rfl) rfl ?_
  intro K hK
  go_simp
  refine hK.out _ _ (fun h => absurd rfl h) ?_
  clear hK K
  refine wpAnyF_done (by kernel_rfl) ?_ _
  have HSE : Hid (SeS (w7.setCell ⟨s, 4, none⟩ (.slice (some ⟨g9, 0, none⟩) (L.past.length + 1) cap9)) lo s v1 v2 D ⟨L.place, L.ss, L.past ++ [L.place]⟩ vs (.slice (some ⟨g9, 0, none⟩) (L.past.length + 1) cap9)) := Lib.hid
    ⟨(HBK.out.set (j := 4) (by omega) _).congr fun j hj => by
      match j, hj with
      | 0, _ => rfl
      | 1, _ => rfl
      | 2, _ => rfl
      | 3, _ => rfl
      | 4, _ => rfl
      | j + 5, _ => rfl, HST.out.other HBK.out (by decide) _ _, HUN.out.far HBK.out (by decide) (by decide) (by decide) _ _⟩
  have HS8 := Lib.hid (HS7.out.far (p := ⟨s, 4, none⟩) (by dsimp only; omega) (.slice (some ⟨g9, 0, none⟩) (L.past.length + 1) cap9))
  have HMV8 := Lib.hid (HMV7.out.set (p := ⟨s, 4, none⟩) hlo HBK.out (by decide) (.slice (some ⟨g9, 0, none⟩) (L.past.length + 1) cap9))
  clear c4 f4 z7 HBK HST HUN HS7 HMV7
  generalize World.setCell w7 _ _ = w8 at HSE HS8 HMV8 ⊢
  have z8 : w8.cell? ⟨sb, 0, none⟩ = some (.pointer (some ⟨s, 0, none⟩)) := HS8.out.cell (j := 0) (by simp)
  have c2 : w8.cell? ⟨s, 2, none⟩ = some (.int .i64 L.place) := HSE.out.blk.cell (j := 2) (by omega)
  have f2 := HSE.out.blk.free 2
  go_wp2
  go_end0
  exact ⟨rfl, ⟨_, HSE.out.setAt k⟩, HMV8.out.set (p := ⟨s, 2, none⟩) hlo HSE.out.blk (by decide) _⟩
end Go.Proofs.YtcklnjjbhngbcaaGreatDoor
