/- A list of moments that a call builds by append: its cells and its variables in blocks of its own. -/
import Derived.Test.YtcklnjjbhngbcaaGreatDoorB8
import Derived.Test.YtcklnjjbhngbcaaGreatDoorB6
import Derived.Test.YtcklnjjbhngbcaaGreatDoorB1
namespace Go.Proofs.YtcklnjjbhngbcaaGreatDoor
open Go.RowKit Go.Proofs.Lens

theorem i_mom' : (Tryz.prog.info? 114).map (fun i => (i.zero, i.size, i.bytes)) = some (some (.agg #[.int .i64 0, .int .i64 0, .int .i64 0, .int .i64 0, .string ⟨#[]⟩, .slice none 0 0]), 6, 72) := by kernel_rfl
theorem i_var' : (Tryz.prog.info? 40).map (fun i => (i.zero, i.size, i.bytes)) = some (some (.agg #[.string ⟨#[]⟩, .string ⟨#[]⟩]), 2, 32) := by kernel_rfl
def BMoms (w : World) (lo : Nat) (v : Value) (ms : List PMom) : Prop :=
  ∃ vv : Nat → Value, OwR w lo 114 6 ms.length (momC ms vv) v ∧ ∀ i, i < ms.length → OwR w lo 40 2 (elt ms i).vars.length (varC (elt ms i).vars) (vv i)
section
variable {w w' : World} {lo lo' : Nat} {v : Value} {ms : List PMom}
theorem BMoms.nil : BMoms w lo (.slice none 0 0) [] := ⟨fun _ => undef, OwR.nil, fun i hi => absurd hi (by simp)⟩
theorem BMoms.later (h : BMoms w lo v ms) (hb : Below w.heap.size w w') : BMoms w' lo v ms := by
  obtain ⟨vv, h1, h2⟩ := h
  exact ⟨vv, h1.later hb, fun i hi => (h2 i hi).later hb⟩
theorem BMoms.lower (h : BMoms w lo v ms) (hl : lo' ≤ lo) : BMoms w lo' v ms := by
  obtain ⟨vv, h1, h2⟩ := h
  exact ⟨vv, h1.lower hl, fun i hi => (h2 i hi).lower hl⟩
theorem BMoms.mv {ts : List TypeId} {lo' : Nat} (h : BMoms w lo v ms) (hm : Mv ts lo' w w') (h1 : 114 ∉ ts) (h2 : 40 ∉ ts) : BMoms w' lo v ms := by
  obtain ⟨vv, a, b⟩ := h
  exact ⟨vv, a.mv hm h1, fun i hi => (b i hi).mv hm h2⟩
theorem BMoms.rd (h : BMoms w lo v ms) : RdMoms w v ms := by
  obtain ⟨vv, a, b⟩ := h
  exact ⟨vv, a.rd, fun i hi => (b i hi).rd⟩
theorem BMoms.cap (h : BMoms w lo v ms) : ∃ A cap, v = .slice A ms.length cap ∧ ms.length ≤ cap ∧ cap ≤ 9223372036854775807 := by
  obtain ⟨vv, a, b⟩ := h
  exact a.cap
theorem BMoms.lt (h : BMoms w lo v ms) : ∀ b, v.ownBlock = some b → lo ≤ b ∧ b < w.heap.size := by
  obtain ⟨vv, a, b⟩ := h
  exact a.lt
end
/-- The six cells of a moment, its variables in the slice vx. -/
def momV (m : PMom) (vx : Value) : List Value := [.int .i64 m.kind, .int .i64 m.task, .int .i64 m.fn, .int .i64 m.line, .string m.text, vx]
theorem momV_at (m : PMom) (vx : Value) {j : Nat} (hj : j < 6) : (momV m vx)[j]? = some (match j with
  | 0 => .int .i64 m.kind | 1 => .int .i64 m.task | 2 => .int .i64 m.fn | 3 => .int .i64 m.line | 4 => .string m.text | _ => vx) := by
  match j, hj with
  | 0, _ => rfl
  | 1, _ => rfl
  | 2, _ => rfl
  | 3, _ => rfl
  | 4, _ => rfl
  | 5, _ => rfl
def snocV (vv : Nat → Value) (n : Nat) (vx : Value) (i : Nat) : Value := if i = n then vx else vv i
theorem momC_old (ms : List PMom) (vv : Nat → Value) (m : PMom) (vx : Value) {i : Nat} (hi : i < ms.length) (j : Nat) : momC ms vv i j = momC (ms ++ [m]) (snocV vv ms.length vx) i j := by
  have e : elt (ms ++ [m]) i = elt ms i := by rw [elt_eq (by simp; omega), elt_eq hi, List.getElem_append_left hi]
  unfold momC snocV
  rw [e, if_neg (by omega)]
theorem momC_new (ms : List PMom) (vv : Nat → Value) (m : PMom) (vx : Value) {j : Nat} (hj : j < 6) : (momV m vx)[j]? = some (momC (ms ++ [m]) (snocV vv ms.length vx) ms.length j) := by
  have e : elt (ms ++ [m]) ms.length = m := by rw [elt_eq (by simp)]; simp
  rw [momV_at m vx hj]
  unfold momC snocV
  rw [e, if_pos rfl]
  match j, hj with
  | 0, _ => rfl
  | 1, _ => rfl
  | 2, _ => rfl
  | 3, _ => rfl
  | 4, _ => rfl
  | 5, _ => rfl
/-- What an append leaves. -/
theorem BMoms.snoc {w' : World} {lo : Nat} {v' vx : Value} {ms : List PMom} {m : PMom} {vv : Nat → Value} (h2 : ∀ i, i < ms.length → OwR w' lo 40 2 (elt ms i).vars.length (varC (elt ms i).vars) (vv i))
    (hO : OwR w' lo 114 6 (ms ++ [m]).length (momC (ms ++ [m]) (snocV vv ms.length vx)) v') (hx : OwR w' lo 40 2 m.vars.length (varC m.vars) vx) : BMoms w' lo v' (ms ++ [m]) := by
  refine ⟨_, hO, fun i hi => ?_⟩
  unfold snocV
  by_cases h : i = ms.length
  · subst h
    have e : elt (ms ++ [m]) ms.length = m := by rw [elt_eq (by simp)]; simp
    rw [if_pos rfl, e]; exact hx
  · have hi' : i < ms.length := by simp at hi; omega
    have e : elt (ms ++ [m]) i = elt ms i := by rw [elt_eq (by simp; omega), elt_eq hi', List.getElem_append_left hi']
    rw [if_neg h, e]; exact h2 i hi'
theorem owr_one {w : World} {lo : Nat} {e : TypeId} {sz n : Nat} {C : Nat → Nat → Value} {v : Value} (h : OwR w lo e sz n C v) : v.oneCell' = true := by
  obtain ⟨A, c, rfl, -⟩ := h.cap
  rfl
theorem momV_one (m : PMom) {vx : Value} (hv : vx.oneCell' = true) : ∀ u ∈ momV m vx, u.oneCell' = true := by
  intro u hu
  simp only [momV, List.mem_cons, List.not_mem_nil, or_false] at hu
  rcases hu with rfl | rfl | rfl | rfl | rfl | rfl
  · rfl
  · rfl
  · rfl
  · rfl
  · rfl
  · exact hv
/-- An append of one moment comes up. -/
theorem wp_appendM {o : Oper} {a : Act} {K : Act → World → Prop} {Q : Exit → Act → World → Prop} (w : World) (s x : Operand)
    (ho : o.op = .call { callee := .builtin .append, args := #[s, x], argTypes := #[24, 24] }) (lo : Nat) (v : Value) (ms : List PMom) (m : PMom) (vx : Value) (hs : a.eval s = v)
    (hM : BMoms w lo v ms) (hvx : OwR w lo 40 2 m.vars.length (varC m.vars) vx) (bx cx : Nat) (hnews : ∀ j u, (momV m vx)[j]? = some u → w.cell? ⟨bx, 0 + j, none⟩ = some u) (hx : a.eval x = .slice (some ⟨bx, 0, none⟩) 1 cx) (hlo : lo ≤ w.heap.size) (hn : ms.length ≤ 1048576)
    (h : ∀ g cap w', BMoms w' lo (.slice (some ⟨g, 0, none⟩) (ms ++ [m]).length cap) (ms ++ [m]) → Mv [114] lo w w' → w.heap.size ≤ w'.heap.size →
      K (a.put o.dst (.slice (some ⟨g, 0, none⟩) (ms ++ [m]).length cap)) w') : o.wp Tryz.prog a w K Q := by
  obtain ⟨vv, hO, hV⟩ := hM
  have hl1 : (ms ++ [m]).length = ms.length + 1 := by simp
  refine wp_appendG w s x 24 ho lo 114 _ 6 72 1 Tryz.underlying24 i_mom' rfl (by omega) v ms.length (momC ms vv) (momC (ms ++ [m]) (snocV vv ms.length vx)) hs hO (momV m vx) rfl (by omega) ?_ bx 0 cx hx hnews
    (fun i hi j _ => momC_old ms vv m vx hi j) (fun i hi j hj => ?_) hlo (by omega) (by omega) ?_
  · exact momV_one m (owr_one hvx)
  · obtain rfl : i = 0 := by omega
    rw [Nat.zero_mul, Nat.zero_add, Nat.add_zero]; exact momC_new ms vv m vx hj
  · intro g cap w' h1 h2 h3 h4
    have hmv : Mv [114] lo w w' := (Mv.refl _ _ _).grown hlo h2 (fun b hb => by obtain ⟨N, F, hB⟩ := hO.block hb; exact ⟨(hO.lt b hb).1, _, N, F, hB, by simp⟩)
    rw [← hl1] at h1 ⊢
    exact h g cap w' (BMoms.snoc (fun i hi => (hV i hi).mv hmv (by decide)) h1 (hvx.mv hmv (by decide))) hmv h2.size
theorem new_at (w : World) (ns : List Value) (t : TypeId) (j : Nat) (u : Value) (h : ns[j]? = some u) : (w.alloc (.cells ns.toArray t)).cell? ⟨w.heap.size, 0 + j, none⟩ = some u := by
  rw [Nat.zero_add]
  exact BoxAt.new w ns t j u h
/-- The walk stands at an append of one moment. -/
theorem wpList_appendM {ops : Array Oper} {rest : List Oper} {o : Oper} {a : Act} {Q : Exit → Act → World → Prop} (w : World) (hgd : o.guard = none) (s x : Operand)
    (ho : o.op = .call { callee := .builtin .append, args := #[s, x], argTypes := #[24, 24] }) (lo : Nat) (v : Value) (ms : List PMom) (m : PMom) (vx : Value) (hs : a.eval s = v)
    (hM : BMoms w lo v ms) (hvx : OwR w lo 40 2 m.vars.length (varC m.vars) vx) (news : Array Value) (hnews : news = (momV m vx).toArray) (hx : a.eval x = .slice (some ⟨w.heap.size, 0, none⟩) 1 1) (hlo : lo ≤ w.heap.size) (hn : ms.length ≤ 1048576)
    (h : ∀ g cap w', BMoms w' lo (.slice (some ⟨g, 0, none⟩) (ms ++ [m]).length cap) (ms ++ [m]) → Mv [114] lo w w' → w.heap.size ≤ w'.heap.size →
      wpList Tryz.prog ops Q rest (a.put o.dst (.slice (some ⟨g, 0, none⟩) (ms ++ [m]).length cap)) w') : wpList Tryz.prog ops Q (o :: rest) a (w.alloc (.cells news 114)) := by
  subst hnews
  refine wpList_plain hgd fun _ hK => wp_appendM _ s x ho lo v ms m vx hs (hM.later (bl_alloc (Below.refl _ _) _)) (hvx.later (bl_alloc (Below.refl _ _) _)) w.heap.size 1 (new_at w _ _) hx (by simp; omega) hn fun g cap w' h1 h2 h3 => hK _ _ (h g cap w' h1 ?_ (by simp at h3; omega))
  exact ((Mv.refl _ _ _).alloc hlo _).trans h2
theorem momC_new2 (ms : List PMom) (vv : Nat → Value) (m1 m2 : PMom) (vx1 vx2 : Value) {i j : Nat} (hi : i < 2) (hj : j < 6) :
    (momV m1 vx1 ++ momV m2 vx2)[i * 6 + j]? = some (momC (ms ++ [m1] ++ [m2]) (snocV (snocV vv ms.length vx1) (ms.length + 1) vx2) (ms.length + i) j) := by
  have hl : (ms ++ [m1]).length = ms.length + 1 := by simp
  match i, hi with
  | 0, _ =>
    have e := momC_old (ms ++ [m1]) (snocV vv ms.length vx1) m2 vx2 (i := ms.length) (by omega) j
    rw [hl] at e
    rw [Nat.zero_mul, Nat.zero_add, show ms.length + 0 = ms.length from rfl, ← e, ← momC_new ms vv m1 vx1 hj, List.getElem?_append_left (by simpa [momV] using hj)]
  | 1, _ =>
    have e := momC_new (ms ++ [m1]) (snocV vv ms.length vx1) m2 vx2 hj
    rw [hl] at e
    rw [← e, List.getElem?_append_right (by simp [momV])]
    simp [momV]
/-- .. of two. -/
theorem wp_appendM2 {o : Oper} {a : Act} {K : Act → World → Prop} {Q : Exit → Act → World → Prop} (w : World) (s x : Operand)
    (ho : o.op = .call { callee := .builtin .append, args := #[s, x], argTypes := #[24, 24] }) (lo : Nat) (v : Value) (ms : List PMom) (m1 m2 : PMom) (vx1 vx2 : Value) (hs : a.eval s = v)
    (hM : BMoms w lo v ms) (hvx1 : OwR w lo 40 2 m1.vars.length (varC m1.vars) vx1) (hvx2 : OwR w lo 40 2 m2.vars.length (varC m2.vars) vx2)
    (bx cx : Nat) (hnews : ∀ j u, (momV m1 vx1 ++ momV m2 vx2)[j]? = some u → w.cell? ⟨bx, 0 + j, none⟩ = some u) (hx : a.eval x = .slice (some ⟨bx, 0, none⟩) 2 cx) (hlo : lo ≤ w.heap.size) (hn : ms.length ≤ 1048576)
    (h : ∀ g cap w', BMoms w' lo (.slice (some ⟨g, 0, none⟩) (ms ++ [m1] ++ [m2]).length cap) (ms ++ [m1] ++ [m2]) → Mv [114] lo w w' → w.heap.size ≤ w'.heap.size →
      K (a.put o.dst (.slice (some ⟨g, 0, none⟩) (ms ++ [m1] ++ [m2]).length cap)) w') : o.wp Tryz.prog a w K Q := by
  obtain ⟨vv, hO, hV⟩ := hM
  have hl0 : (ms ++ [m1]).length = ms.length + 1 := by simp
  have hl1 : (ms ++ [m1] ++ [m2]).length = ms.length + 2 := by simp
  refine wp_appendG w s x 24 ho lo 114 _ 6 72 2 Tryz.underlying24 i_mom' rfl (by omega) v ms.length (momC ms vv) (momC (ms ++ [m1] ++ [m2]) (snocV (snocV vv ms.length vx1) (ms.length + 1) vx2)) hs hO (momV m1 vx1 ++ momV m2 vx2) rfl (by omega) ?_ bx 0 cx hx hnews
    (fun i hi j _ => ?_) (fun i hi j hj => momC_new2 ms vv m1 m2 vx1 vx2 hi hj) hlo (by omega) (by omega) ?_
  · intro u hu
    rcases List.mem_append.1 hu with hu | hu
    · exact momV_one m1 (owr_one hvx1) u hu
    · exact momV_one m2 (owr_one hvx2) u hu
  · have e := momC_old (ms ++ [m1]) (snocV vv ms.length vx1) m2 vx2 (i := i) (by omega) j
    rw [hl0] at e
    rw [← e, ← momC_old ms vv m1 vx1 hi j]
  · intro g cap w' h1 h2 h3 h4
    have hmv : Mv [114] lo w w' := (Mv.refl _ _ _).grown hlo h2 (fun b hb => by obtain ⟨N, F, hB⟩ := hO.block hb; exact ⟨(hO.lt b hb).1, _, N, F, hB, by simp⟩)
    rw [← hl1] at h1 ⊢
    refine h g cap w' ⟨_, h1, fun i hi => ?_⟩ hmv h2.size
    have hv1 : ∀ i, i < (ms ++ [m1]).length → OwR w' lo 40 2 (elt (ms ++ [m1]) i).vars.length (varC (elt (ms ++ [m1]) i).vars) (snocV vv ms.length vx1 i) := by
      intro i hi
      unfold snocV
      by_cases h : i = ms.length
      · subst h
        have e : elt (ms ++ [m1]) ms.length = m1 := by rw [elt_eq (by simp)]; simp
        rw [if_pos rfl, e]; exact hvx1.mv hmv (by decide)
      · have hi' : i < ms.length := by omega
        have e : elt (ms ++ [m1]) i = elt ms i := by rw [elt_eq (by simp; omega), elt_eq hi', List.getElem_append_left hi']
        rw [if_neg h, e]; exact (hV i hi').mv hmv (by decide)
    by_cases h : i = ms.length + 1
    · subst h
      have e : elt (ms ++ [m1] ++ [m2]) (ms.length + 1) = m2 := by rw [elt_eq (by simp)]; simp
      rw [e]
      show OwR w' lo _ 2 _ _ (if ms.length + 1 = ms.length + 1 then vx2 else _)
      rw [if_pos rfl]; exact hvx2.mv hmv (by decide)
    · have hi' : i < (ms ++ [m1]).length := by omega
      have e : elt (ms ++ [m1] ++ [m2]) i = elt (ms ++ [m1]) i := by rw [elt_eq (by simp at hi ⊢; omega), elt_eq hi', List.getElem_append_left hi']
      rw [e]
      show OwR w' lo _ 2 _ _ (if i = ms.length + 1 then vx2 else _)
      rw [if_neg h]; exact hv1 i hi'
theorem wpList_appendM2 {ops : Array Oper} {rest : List Oper} {o : Oper} {a : Act} {Q : Exit → Act → World → Prop} (w : World) (hgd : o.guard = none) (s x : Operand)
    (ho : o.op = .call { callee := .builtin .append, args := #[s, x], argTypes := #[24, 24] }) (lo : Nat) (v : Value) (ms : List PMom) (m1 m2 : PMom) (vx1 vx2 : Value) (hs : a.eval s = v)
    (hM : BMoms w lo v ms) (hvx1 : OwR w lo 40 2 m1.vars.length (varC m1.vars) vx1) (hvx2 : OwR w lo 40 2 m2.vars.length (varC m2.vars) vx2)
    (news : Array Value) (hnews : news = (momV m1 vx1 ++ momV m2 vx2).toArray) (hx : a.eval x = .slice (some ⟨w.heap.size, 0, none⟩) 2 2) (hlo : lo ≤ w.heap.size) (hn : ms.length ≤ 1048576)
    (h : ∀ g cap w', BMoms w' lo (.slice (some ⟨g, 0, none⟩) (ms ++ [m1] ++ [m2]).length cap) (ms ++ [m1] ++ [m2]) → Mv [114] lo w w' → w.heap.size ≤ w'.heap.size →
      wpList Tryz.prog ops Q rest (a.put o.dst (.slice (some ⟨g, 0, none⟩) (ms ++ [m1] ++ [m2]).length cap)) w') : wpList Tryz.prog ops Q (o :: rest) a (w.alloc (.cells news 114)) := by
  subst hnews
  refine wpList_plain hgd fun _ hK => wp_appendM2 _ s x ho lo v ms m1 m2 vx1 vx2 hs (hM.later (bl_alloc (Below.refl _ _) _)) (hvx1.later (bl_alloc (Below.refl _ _) _)) (hvx2.later (bl_alloc (Below.refl _ _) _)) w.heap.size 2 (new_at w _ _) hx (by simp; omega) hn fun g cap w' h1 h2 h3 => hK _ _ (h g cap w' h1 ?_ (by simp at h3; omega))
  exact ((Mv.refl _ _ _).alloc hlo _).trans h2
/-- The two cells of a trace's box. -/
def trF (a b : Value) (j : Nat) : Value := match j with | 0 => a | _ => b
theorem trF_set {w : World} {g : Nat} {a b : Value} (h : Blk w g 26 2 (trF a b)) (u : Value) : Blk (w.setCell ⟨g, 1, none⟩ u) g 26 2 (trF a u) :=
  (h.set (j := 1) (by omega) u).congr fun j hj => by match j, hj with | 0, _ => rfl | 1, _ => rfl
theorem bl_low9 {lo B : Nat} {w W : World} (h : Below B w W) (hl : lo ≤ B) : Below lo w W := ⟨h.os, h.tape, h.output, h.size, fun k hk => h.block k (Nat.lt_of_lt_of_le hk hl)⟩
theorem bl_trans9 {lo : Nat} {a b c : World} (h : Below lo a b) (k : Below lo b c) : Below lo a c := ⟨k.os.trans h.os, k.tape.trans h.tape, k.output.trans h.output, Nat.le_trans h.size k.size, fun j hj => (k.block j hj).trans (h.block j hj)⟩
theorem hM_far {w : World} {lo lo2 g : Nat} {v : Value} {ms : List PMom} {a b : Value} (h : BMoms w lo v ms) (hX : Blk w g 26 2 (trF a b)) (u : Value) (hl : lo2 ≤ g) : BMoms (w.setCell ⟨g, 1, none⟩ u) lo v ms :=
  h.mv ((Mv.refl [26] lo2 w).set hl hX (by simp) u) (by decide) (by decide)
end Go.Proofs.YtcklnjjbhngbcaaGreatDoor
