/- Lemmas and contracts of functions that the theorem of this claim leans on (texts B12, E5). -/
import Derived.Laws.OwnMore
import Derived.Test.YtcklnjjbhngbcaaGreatDoorRowUnz05
import Derived.Lib.SliceRun
import Derived.Test.YtcklnjjbhngbcaaGreatDoorRowUnz16
namespace Go.Proofs.Lens
open Go.RowKit

theorem OwR.src {w : World} {lo n sz c : Nat} {e : TypeId} {C : Nat → Nat → Value} {A : Option Addr} (h : OwR w lo e sz n C (.slice A n c)) :
    (A = none ∧ n = 0 ∧ c = 0) ∨ ∃ b off, A = some ⟨b, off, none⟩ ∧ ∀ i, i < n → ∀ j, j < sz → w.cell? ⟨b, off + (i * sz + j), none⟩ = some (C i j) := by
  rcases h with ⟨h1, h2⟩ | ⟨b, cap, f, h1, h2, h3, h4, h5, h6⟩
  · simp only [Value.slice.injEq] at h1
    exact .inl ⟨h1.1, h2, h1.2.2⟩
  · simp only [Value.slice.injEq, true_and] at h1
    refine .inr ⟨b, 0, h1.1, fun i hi j hj => ?_⟩
    have hle : n * sz ≤ cap * sz := Nat.mul_le_mul_right _ h3
    have hlt := mul_lt hi hj
    rw [Nat.zero_add, h5.cell (by omega), h6 i hi j hj]
/-- A literal's row. -/
theorem OwR.lit {w : World} {e : TypeId} {sz n : Nat} {C : Nat → Nat → Value} (cs : Array Value) (hs : cs.size = n * sz) (hm : n ≤ maxLen) (hC : ∀ i, i < n → ∀ j, j < sz → cs.getD (i * sz + j) undef = C i j) :
    OwR (w.alloc (.cells cs e)) w.heap.size e sz n C (.slice (some ⟨w.heap.size, 0, none⟩) n n) :=
  .inr ⟨w.heap.size, n, fun j => cs.getD j undef, rfl, Nat.le_refl _, Nat.le_refl _, hm, by rw [← hs]; exact Blk.made w cs e, hC⟩
section
variable {P : Program} {o : Oper} {a : Act} {K : Act → World → Prop} {Q : Exit → Act → World → Prop}
/-- At an operation that comes up in a region: what is appended lies in a block that is read, or is nil. -/
theorem wp_appendR (w : World) (s x : Operand) (t : TypeId)
    (ho : o.op = .call { callee := .builtin .append, args := #[s, x], argTypes := #[t, t] }) (lo : Nat) (e : TypeId) (z : Value) (sz bytes k : Nat) (ht : P.underlying t = some (.slice e))
    (hinfo : (P.info? e).map (fun i => (i.zero, i.size, i.bytes)) = some (some z, sz, bytes)) (hzs : z.cells.size = sz) (hsz : 0 < sz) (v : Value) (n : Nat) (C C' C2 : Nat → Nat → Value) (hs : a.eval s = v)
    (hO : OwR w lo e sz n C v) (A : Option Addr) (c : Nat) (hx : a.eval x = .slice A k c)
    (hsrc : (A = none ∧ k = 0 ∧ c = 0) ∨ ∃ b off, A = some ⟨b, off, none⟩ ∧ ∀ i, i < k → ∀ j, j < sz → w.cell? ⟨b, off + (i * sz + j), none⟩ = some (C2 i j)) (h1 : ∀ i j, (C2 i j).oneCell' = true)
    (hC : ∀ i, i < n → ∀ j, j < sz → C i j = C' i j) (hN : ∀ i, i < k → ∀ j, j < sz → C2 i j = C' (n + i) j) (hlo : lo ≤ w.heap.size) (hn : n + k ≤ 9223372036854775807) (hb : (n + k) * bytes ≤ 140737488355328)
    (h : ∀ v' w', OwR w' lo e sz (n + k) C' v' → w.grownBy w' v.ownBlock → K (a.put o.dst v') w') : o.wp P a w K Q := by
  cases hi : P.info? e with
  | none => rw [hi] at hinfo; cases hinfo
  | some i =>
    rw [hi] at hinfo
    simp only [Option.map_some, Option.some.injEq, Prod.mk.injEq] at hinfo
    obtain ⟨hz, hs1, hb1⟩ := hinfo
    rcases hsrc with ⟨rfl, rfl, rfl⟩ | ⟨b, off, rfl, hcell⟩
    · have hr := run_append_owned_none (P := P) (w := w) lo t o.type e i sz ht hi v n _ hO.row
      unfold Oper.wp execOp
      simp only [ho, resolve, invoke, builtin, Sem.run_bind, Sem.run_pure, Result.andThen_ok, List.map_toArray, List.map_cons, List.map_nil, hs, hx, hr]
      exact h v w (hO.congr hC) (World.grownBy.refl w _)
    · obtain ⟨v', w', hr, h2, h3, -⟩ := run_append_own (P := P) w lo t o.type e i z sz bytes ht hi hz hs1 hb1 hzs hsz v n (cellsR sz C n) hO.row ⟨b, off, none⟩ k c (cellsR sz C2 k) (cellsR_length _ _ _)
        (fun j u hj => by
          have hlt := (List.getElem?_eq_some_iff.1 hj).1
          rw [cellsR_length] at hlt
          have h4 : j / sz < k := by rw [Nat.div_lt_iff_lt_mul hsz]; exact hlt
          have h5 : j % sz < sz := Nat.mod_lt _ hsz
          have e1 : j / sz * sz + j % sz = j := by rw [Nat.mul_comm]; exact Nat.div_add_mod j sz
          have h6 := cellsR_at (C := C2) h4 h5
          rw [e1, hj] at h6
          have h7 := hcell _ h4 _ h5
          rw [e1] at h7
          have ha : (Addr.add ⟨b, off, none⟩ j) = ⟨b, off + j, none⟩ := by unfold Addr.add; split <;> simp_all
          rw [ha, h7, h6])
        (fun u hu => by
          obtain ⟨p, -, rfl⟩ := List.mem_map.1 hu
          exact h1 _ _) (by simp only [maxLen]; omega) hb hlo
      unfold Oper.wp execOp
      simp only [ho, resolve, invoke, builtin, Sem.run_bind, Sem.run_pure, Result.andThen_ok, List.map_toArray, List.map_cons, List.map_nil, hs, hx, hr]
      exact h v' w' (OwR.of_append h2 hC fun i hi j hj => by rw [cellsR_at hi hj, hN i hi j hj]) h3
end
section
variable {P : Program} {ops : Array Oper} {rest : List Oper} {o : Oper} {a : Act} {Q : Exit → Act → World → Prop}
theorem wpList_appendR (w : World) (hgd : o.guard = none) (s x : Operand) (t : TypeId)
    (ho : o.op = .call { callee := .builtin .append, args := #[s, x], argTypes := #[t, t] }) (lo : Nat) (e : TypeId) (z : Value) (sz bytes k : Nat) (ht : P.underlying t = some (.slice e))
    (hinfo : (P.info? e).map (fun i => (i.zero, i.size, i.bytes)) = some (some z, sz, bytes)) (hzs : z.cells.size = sz) (hsz : 0 < sz) (v : Value) (n : Nat) (C C' C2 : Nat → Nat → Value) (hs : a.eval s = v)
    (hO : OwR w lo e sz n C v) (A : Option Addr) (c : Nat) (hx : a.eval x = .slice A k c)
    (hsrc : (A = none ∧ k = 0 ∧ c = 0) ∨ ∃ b off, A = some ⟨b, off, none⟩ ∧ ∀ i, i < k → ∀ j, j < sz → w.cell? ⟨b, off + (i * sz + j), none⟩ = some (C2 i j)) (h1 : ∀ i j, (C2 i j).oneCell' = true)
    (hC : ∀ i, i < n → ∀ j, j < sz → C i j = C' i j) (hN : ∀ i, i < k → ∀ j, j < sz → C2 i j = C' (n + i) j) (hlo : lo ≤ w.heap.size) (hn : n + k ≤ 9223372036854775807) (hb : (n + k) * bytes ≤ 140737488355328)
    (h : ∀ v' w', OwR w' lo e sz (n + k) C' v' → w.grownBy w' v.ownBlock → wpList P ops Q rest (a.put o.dst v') w') : wpList P ops Q (o :: rest) a w :=
  wpList_plain hgd fun _K hK => wp_appendR w s x t ho lo e z sz bytes k ht hinfo hzs hsz v n C C' C2 hs hO A c hx hsrc h1 hC hN hlo hn hb fun v' w' h2 h3 => hK _ _ (h v' w' h2 h3)
end
end Go.Proofs.Lens

namespace Go.Proofs.YtcklnjjbhngbcaaGreatDoor
open Go.RowKit Go.Proofs.Lens
set_option linter.unusedSimpArgs false

/-- append of an empty slice, whatever its address, onto an owned one. -/
theorem wpList_append0 {P : Program} {ops : Array Oper} {rest : List Oper} {o : Oper} {a : Act} {Q : Exit → Act → World → Prop} (w : World) (hgd : o.guard = none) (s x : Operand) (t : TypeId)
    (ho : o.op = .call { callee := .builtin .append, args := #[s, x], argTypes := #[t, t] }) (lo : Nat) (e : TypeId) (z : Value) (sz bytes : Nat) (ht : P.underlying t = some (.slice e))
    (hinfo : (P.info? e).map (fun i => (i.zero, i.size, i.bytes)) = some (some z, sz, bytes)) (v : Value) (n : Nat) (C : Nat → Nat → Value) (hs : a.eval s = v) (hO : OwR w lo e sz n C v) (A : Option Addr) (c : Nat) (hx : a.eval x = .slice A 0 c)
    (h : wpList P ops Q rest (a.put o.dst v) w) : wpList P ops Q (o :: rest) a w := by
  refine wpList_plain hgd fun K hK => ?_
  cases hi : P.info? e with
  | none => rw [hi] at hinfo; cases hinfo
  | some i =>
    have hr : (Builtin.append_ #[t, t] o.type #[v, .slice A 0 c]).run P w = .ok v w := by
      rcases hO with ⟨rfl, rfl⟩ | ⟨b, cap, f, rfl, h2, h3, h4, h5, h6⟩
      · cases A with
        | none => simp [Builtin.append_, run_underlying ht, sizeOf, typeInfo, hi, Builtin.lenOf, Builtin.firstCells]
        | some p => simp [Builtin.append_, run_underlying ht, sizeOf, typeInfo, hi, Builtin.lenOf, Builtin.firstCells, loadCells, loadCellsFrom, storeCells]
      · cases A with
        | none => simp [Builtin.append_, run_underlying ht, sizeOf, typeInfo, hi, Builtin.lenOf, Builtin.firstCells, loadCells, loadCellsFrom, storeCells, h3]
        | some p => simp [Builtin.append_, run_underlying ht, sizeOf, typeInfo, hi, Builtin.lenOf, Builtin.firstCells, loadCells, loadCellsFrom, storeCells, h3]
    unfold Oper.wp execOp
    simp only [ho, resolve, invoke, builtin, Sem.run_bind, Sem.run_pure, Result.andThen_ok, List.map_toArray, List.map_cons, List.map_nil, hs, hx, hr]
    exact hK _ _ h
set_option maxRecDepth 100000 in
set_option maxHeartbeats 4000000 in
theorem clone_calls (A : Option Addr) (c : Nat) (xs : List PVar) (w : World) (h : RdVars w (.slice A xs.length c) xs) (hn : xs.length ≤ 1048576) :
    Calls Tryz.prog 151 #[.slice A xs.length c] w (OwRet w 40 2 xs.length (varC xs)) := by
  have H := Lib.hid h
  obtain ⟨A', c', he, -, hrow⟩ := h
  obtain ⟨rfl, rfl⟩ : A = A' ∧ c = c' := by simpa using he
  have heq := fun (W : World) => Go.Lib.run_eql_slice_nil (P := Tryz.prog) W 36 40 A xs.length c 0 0 Tryz.underlying36
  by_cases h0 : xs.length = 0
  · rw [h0] at heq ⊢
    cases A with
    | none =>
      go_enter Tryz.func151, Tryz.ntmps151
      go_wp2
      go_ret
      exact ⟨_, rfl, OwR.nil, Below.refl _ _⟩
    | some p =>
      go_enter Tryz.func151, Tryz.ntmps151
      go_wp2_with (at_builtin; refine stopped ?_)
      unfold Stopped
      refine wpList_append0 _ (by rfl) _ _ 36 (by rfl) w.heap.size 40 _ 2 32 Tryz.underlying36 i_var' (.slice (some ⟨w.heap.size, 0, none⟩) 0 0) 0 (varC xs) (by rfl) (OwR.lit #[] rfl (by simp) (fun i hi => absurd hi (by omega))) _ _ (by rfl) ?_
      go_wp2_with fail
      go_ret
      exact ⟨_, rfl, OwR.lit #[] rfl (by simp) (fun i hi => absurd hi (by omega)), bl_alloc (Below.refl _ _) _⟩
  · obtain ⟨b, o, rfl, hc⟩ := hrow (by omega)
    go_enter Tryz.func151, Tryz.ntmps151
    go_wp2_with (at_builtin; refine stopped ?_)
    unfold Stopped
    refine wpList_appendR _ (by rfl) _ _ 36 (by rfl) w.heap.size 40 _ 2 32 xs.length Tryz.underlying36 i_var' rfl (by omega) (.slice (some ⟨w.heap.size, 0, none⟩) 0 0) 0 (varC xs) (varC xs) (varC xs) (by rfl) (OwR.lit #[] rfl (by simp) (fun i hi => absurd hi (by omega))) _ _ (by rfl)
      (.inr ⟨b, o, rfl, fun i hi j hj => by rw [← Nat.add_assoc]; exact cell_later (bl_alloc (Below.refl _ w) (.cells #[] 40)) (hc i hi j hj)⟩) (fun i j => by unfold varC; split <;> rfl) (fun i hi => absurd hi (by omega)) (fun i hi j hj => by rw [Nat.zero_add]) (by simp) (by omega) (by omega) ?_
    intro v5 w5 hO5 hG5
    rw [Nat.zero_add] at hO5
    have HO5 := Lib.hid hO5
    have HB5 : Hid (Below w.heap.size w w5) := Lib.hid (bl_grown (bl_alloc (Below.refl _ _) _) hG5 (Nat.le_refl _))
    clear hO5 hG5 heq
    go_wp2_with fail
    go_ret
    exact ⟨_, rfl, HO5.out, HB5.out⟩
/-- What moment gives. -/
def MoPost (w : World) (vars : List PVar) (e : Ending) (w' : World) : Prop :=
  ∃ (m : PMom) (Av : Option Addr) (cv : Nat), e = .returned (.agg #[.int .i64 m.kind, .int .i64 m.task, .int .i64 m.fn, .int .i64 m.line, .string m.text, .slice Av m.vars.length cv]) ∧ m.vars = vars ∧ RdVars w' (.slice Av m.vars.length cv) m.vars ∧ Below w.heap.size w w'
set_option maxRecDepth 100000 in
set_option maxHeartbeats 4000000 in
theorem moment_calls (lo s : Nat) (v1 v2 : Value) (t : PTr) (D : Nat → Value) (L : Lk) (vs vu : Value) (w : World) (h : SeS w lo s v1 v2 D L vs vu) (hr : RdTr w v1 v2 t) (hln : t.moms.length ≤ 3000) :
    Calls Tryz.prog 152 #[.pointer (some ⟨s, 0, none⟩)] w (MoPost w (varsAt t L.place)) := by
  have HS := Lib.hid h
  have HR := Lib.hid hr
  have HR0 := Lib.hid hr
  obtain ⟨-, ⟨vv, ⟨A2, c2, rfl, hn2, -⟩, -⟩⟩ := hr
  clear h
  have HB := Lib.hid (bl_alloc (Below.refl _ w) (.cells #[.int .i64 0, .int .i64 0, .int .i64 0, .int .i64 0, .string ⟨#[]⟩, .slice none 0 0] 114))
  have HX := Lib.hid (Blk.made w #[.int .i64 0, .int .i64 0, .int .i64 0, .int .i64 0, .string ⟨#[]⟩, .slice none 0 0] 114)
  obtain ⟨p, hp⟩ : ∃ p, L.place = p := ⟨_, rfl⟩
  go_enter Tryz.func152, Tryz.ntmps152
  go_upto_region 1 with fail
  generalize World.alloc w _ = W at HB HX ⊢
  replace HS := Lib.hid (HS.out.later HB.out)
  replace HR := Lib.hid (HR.out.later HB.out)
  have z1 : W.cell? ⟨s, 1, none⟩ = some (.slice A2 t.moms.length c2) := HS.out.blk.cell (j := 1) (by omega)
  have z2 : W.cell? ⟨s, 2, none⟩ = some (.int .i64 p) := (HS.out.blk.cell (j := 2) (by omega)).trans (by rw [← hp]; rfl)
  have HP := Lib.hid hp
  clear hp
  obtain ⟨q, hq⟩ : ∃ q, inB p 0 ((t.moms.length : Int) - 1) = q := ⟨_, rfl⟩
  have HQ := Lib.hid hq
  clear hq
  have hwr : IntKind.i64.wrap ((t.moms.length : Int) - 1) = (t.moms.length : Int) - 1 := by rw [IntKind.wrap_i64]; omega
  have hbd : Below W.heap.size W W.drew := bl_drew (Below.refl _ _)
  replace z1 := cell_later hbd z1
  replace z2 := cell_later hbd z2
  have HX2 := Lib.hid (HX.out.later hbd)
  have HR2 := Lib.hid (HR.out.later hbd)
  have HB2 := Lib.hid (bl_then HB.out hbd)
  refine wp_region_F 11 (fun w' : World => Below W.drew.heap.size W.drew w') (by kernel_rfl) ?_
  clear hbd HX HR HB HS
  generalize W.drew = W2 at z1 z2 HX2 HR2 HB2 ⊢
  have HS0 : Hid (Below W2.heap.size W2 W2) := Lib.hid (Below.refl _ _)
  refine wpAnyF_takeC 0 [1, 2, 3] (v := ?v0m) (by rfl) (by kernel_rfl) (by intro _ _ _ h; exact h) HS0.out (by rfl) ?hy0m ?rest0m
  case hy0m =>
    intro w' hSw
    have sz1 := cell_later hSw z1
    have sz2 := cell_later hSw z2
    clear hSw
    go_simp
    try with_reducible rfl
  simp only [Act.put, List.setIfInBounds_toArray, List.set_cons_zero, List.set_cons_succ]
  refine wpAnyF_takeC 1 [2, 3] (v := ?v1m) (by rfl) (by kernel_rfl) (by intro _ _ _ h; exact h) HS0.out (by rfl) ?hy1m ?rest1m
  case hy1m =>
    intro w' hSw
    have sz1 := cell_later hSw z1
    have sz2 := cell_later hSw z2
    clear hSw
    go_simp
    try with_reducible rfl
  simp only [Act.put, List.setIfInBounds_toArray, List.set_cons_zero, List.set_cons_succ]
  refine wpAnyF_takeC 2 [3] (v := ?v2m) (by rfl) (by kernel_rfl) (by intro _ _ _ h; exact h) HS0.out (by rfl) ?hy2m ?rest2m
  case hy2m =>
    intro w' hSw
    have sz1 := cell_later hSw z1
    have sz2 := cell_later hSw z2
    clear hSw
    go_simp
    try with_reducible rfl
  simp only [Act.put, List.setIfInBounds_toArray, List.set_cons_zero, List.set_cons_succ]
  refine wpAnyF_takeC 3 [] (v := ?v3m) (by rfl) (by kernel_rfl) (by intro _ _ _ h; exact h) HS0.out (by rfl) ?hy3m ?rest3m
  case hy3m =>
    intro w' hSw
    have sz1 := cell_later hSw z1
    have sz2 := cell_later hSw z2
    clear hSw
    go_simp
    try with_reducible rfl
  simp only [Act.put, List.setIfInBounds_toArray, List.set_cons_zero, List.set_cons_succ]
  refine wpAnyF_takeC 4 [5, 6, 7, 8, 9, 10] (v := ?v4m) (by rfl) (by kernel_rfl) (by intro _ _ _ h; exact h) HS0.out (by rfl) ?hy4m ?rest4m
  case hy4m =>
    intro w' hSw
    have sz1 := cell_later hSw z1
    have sz2 := cell_later hSw z2
    clear hSw
    go_simp
    try with_reducible rfl
  simp only [Act.put, List.setIfInBounds_toArray, List.set_cons_zero, List.set_cons_succ]
  refine wpAnyF_takeC 5 [6, 7, 8, 9, 10] (v := ?v5m) (by rfl) (by kernel_rfl) (by intro _ _ _ h; exact h) HS0.out (by rfl) ?hy5m ?rest5m
  case hy5m =>
    intro w' hSw
    have sz1 := cell_later hSw z1
    have sz2 := cell_later hSw z2
    clear hSw
    go_simp
    try with_reducible rfl
  simp only [Act.put, List.setIfInBounds_toArray, List.set_cons_zero, List.set_cons_succ]
  refine wpAnyF_takeC 6 [7, 8, 9, 10] (v := ?v6m) (by rfl) (by kernel_rfl) (by intro _ _ _ h; exact h) HS0.out (by rfl) ?hy6m ?rest6m
  case hy6m =>
    intro w' hSw
    have sz1 := cell_later hSw z1
    have sz2 := cell_later hSw z2
    clear hSw
    go_simp
    try with_reducible rfl
  simp only [Act.put, List.setIfInBounds_toArray, List.set_cons_zero, List.set_cons_succ]
  refine wpAnyF_takeC 7 [8, 9, 10] (v := ?v7m) (by rfl) (by kernel_rfl) (by intro _ _ _ h; exact h) HS0.out (by rfl) ?hy7m ?rest7m
  case hy7m =>
    intro w' hSw
    have sz1 := cell_later hSw z1
    have sz2 := cell_later hSw z2
    clear hSw
    go_simp
    try with_reducible rfl
  simp only [Act.put, List.setIfInBounds_toArray, List.set_cons_zero, List.set_cons_succ]
  refine wpAnyF_takeC 8 [9, 10] (v := ?v8m) (by rfl) (by kernel_rfl) (by intro _ _ _ h; exact h) HS0.out (by rfl) ?hy8m ?rest8m
  case hy8m =>
    intro w' hSw
    have sz1 := cell_later hSw z1
    have sz2 := cell_later hSw z2
    clear hSw
    go_simp
    try with_reducible rfl
  simp only [Act.put, List.setIfInBounds_toArray, List.set_cons_zero, List.set_cons_succ]
  refine wpAnyF_takeC 9 [10] (v := ?v9m) (by rfl) (by kernel_rfl) (by intro _ _ _ h; exact h) HS0.out (by rfl) ?hy9m ?rest9m
  case hy9m =>
    intro w' hSw
    have sz1 := cell_later hSw z1
    have sz2 := cell_later hSw z2
    clear hSw
    go_simp
    try with_reducible rfl
  simp only [Act.put, List.setIfInBounds_toArray, List.set_cons_zero, List.set_cons_succ]
  refine wpAnyF_takeC 10 [] (v := ?v10m) (by rfl) (by kernel_rfl) (by intro _ _ _ h; exact h) HS0.out (by rfl) ?hy10m ?rest10m
  case hy10m =>
    intro w' hSw
    have sz1 := cell_later hSw z1
    have sz2 := cell_later hSw z2
    clear hSw
    go_simp
    try with_reducible rfl
  simp only [Act.put, List.setIfInBounds_toArray, List.set_cons_zero, List.set_cons_succ]
  refine wpAnyF_one 11 (by rfl) (by kernel_rfl) rfl ?_
  intro K hK
  go_simp
  refine (inside_is _ _ _ _ HQ.out).mono ?_; rintro e w3 ⟨rfl, rfl⟩
  dsimp only
  refine hK.out _ _ (fun h => absurd rfl h) ?_
  clear hK K
  refine wpAnyF_done (by kernel_rfl) ?_ _
  have c0 := HX2.out.cell (j := 0) (by simp)
  have c1 := HX2.out.cell (j := 1) (by simp)
  have c2' := HX2.out.cell (j := 2) (by simp)
  have c3 := HX2.out.cell (j := 3) (by simp)
  have c4 := HX2.out.cell (j := 4) (by simp)
  have c5 := HX2.out.cell (j := 5) (by simp)
  have e0 := HX2.out.free 0
  have e1 := HX2.out.free 1
  have e2 := HX2.out.free 2
  have e3 := HX2.out.free 3
  have e4 := HX2.out.free 4
  have e5 := HX2.out.free 5
  have hxl := HX2.out.lt
  cases q with
  | false =>
    go_wp2_with fail
    refine bodyPost_ret (v := .agg #[.int .i64 0, .int .i64 0, .int .i64 0, .int .i64 0, .string ⟨#[]⟩, .slice none 0 0]) (by simp [results, Tryz.results152, go_sem, c0, c1, c2', c3, c4, c5]) rfl ?_
    refine ⟨⟨0, 0, 0, 0, ⟨#[]⟩, []⟩, none, 0, rfl, ?_, ⟨none, 0, rfl, by simp, fun h => absurd h (by simp)⟩, ?_⟩
    · unfold varsAt
      rw [HP.out, if_neg (by rw [HQ.out]; simp)]
    · repeat (with_reducible first | exact HB2.out | refine bl_set ?_ (by dsimp only; omega) _)
  | true =>
    obtain ⟨hp0, hp1⟩ := inB_true.1 HQ.out
    obtain ⟨k, rfl⟩ : ∃ k : Nat, p = (k : Int) := ⟨p.toNat, by omega⟩
    obtain ⟨b, o, vx, rfl, d0, d1, d2, d3, d4, d5, hvx⟩ := rd_moment HR0.out.2 (k := k) (by omega)
    replace d0 := cell_later HB2.out d0
    replace d1 := cell_later HB2.out d1
    replace d2 := cell_later HB2.out d2
    replace d3 := cell_later HB2.out d3
    replace d4 := cell_later HB2.out d4
    replace d5 := cell_later HB2.out d5
    obtain ⟨Av, cv, rfl, -⟩ := id hvx
    have HVX := Lib.hid hvx
    have hki : (k : Int) < (t.moms.length : Int) := by omega
    clear hvx
    go_upto_region 2 with fail
    have hbd : Below W2.heap.size W2 W2.drew := bl_drew (Below.refl _ _)
    replace z1 := cell_later hbd z1
    replace z2 := cell_later hbd z2
    replace d0 := cell_later hbd d0
    replace d1 := cell_later hbd d1
    replace d2 := cell_later hbd d2
    replace d3 := cell_later hbd d3
    replace d4 := cell_later hbd d4
    replace d5 := cell_later hbd d5
    replace HX2 := Lib.hid (HX2.out.later hbd); replace HB2 := Lib.hid (bl_then HB2.out hbd); clear hbd
    refine wp_region_F 11 (fun w' : World => Below W2.drew.heap.size W2.drew w') (by kernel_rfl) ?_
    clear HS0 c0 c1 c2' c3 c4 c5 e0 e1 e2 e3 e4 e5 hxl HR2
    generalize W2.drew = W3 at z1 z2 d0 d1 d2 d3 d4 d5 HX2 HB2 ⊢
    have HS0 : Hid (Below W3.heap.size W3 W3) := Lib.hid (Below.refl _ _)
    refine wpAnyF_takeC 0 [] (v := ?v0k) (by rfl) (by kernel_rfl) (by intro _ _ _ h; exact h) HS0.out (by rfl) ?hy0k ?rest0k
    case hy0k =>
      intro w' hSw
      have sz1 := cell_later hSw z1
      have sz2 := cell_later hSw z2
      clear hSw
      go_simp
      try with_reducible rfl
    simp only [Act.put, List.setIfInBounds_toArray, List.set_cons_zero, List.set_cons_succ]
    refine wpAnyF_takeC 1 [] (v := ?v1k) (by rfl) (by kernel_rfl) (by intro _ _ _ h; exact h) HS0.out (by rfl) ?hy1k ?rest1k
    case hy1k =>
      intro w' hSw
      have sz1 := cell_later hSw z1
      have sz2 := cell_later hSw z2
      clear hSw
      go_simp
      try with_reducible rfl
    simp only [Act.put, List.setIfInBounds_toArray, List.set_cons_zero, List.set_cons_succ]
    refine wpAnyF_takeC 2 [] (v := ?v2k) (by rfl) (by kernel_rfl) (by intro _ _ _ h; exact h) HS0.out (by rfl) ?hy2k ?rest2k
    case hy2k =>
      intro w' hSw
      have sz1 := cell_later hSw z1
      have sz2 := cell_later hSw z2
      clear hSw
      go_simp
      try with_reducible rfl
    simp only [Act.put, List.setIfInBounds_toArray, List.set_cons_zero, List.set_cons_succ]
    refine wpAnyF_takeC 3 [] (v := ?v3k) (by rfl) (by kernel_rfl) (by intro _ _ _ h; exact h) HS0.out (by rfl) ?hy3k ?rest3k
    case hy3k =>
      intro w' hSw
      have sz1 := cell_later hSw z1
      have sz2 := cell_later hSw z2
      clear hSw
      go_simp
      try with_reducible rfl
    simp only [Act.put, List.setIfInBounds_toArray, List.set_cons_zero, List.set_cons_succ]
    refine wpAnyF_takeC 4 [] (v := ?v4k) (by rfl) (by kernel_rfl) (by intro _ _ _ h; exact h) HS0.out (by rfl) ?hy4k ?rest4k
    case hy4k =>
      intro w' hSw
      have sz1 := cell_later hSw z1
      have sz2 := cell_later hSw z2
      clear hSw
      go_simp
      try with_reducible rfl
    simp only [Act.put, List.setIfInBounds_toArray, List.set_cons_zero, List.set_cons_succ]
    refine wpAnyF_takeC 5 [] (v := ?v5k) (by rfl) (by kernel_rfl) (by intro _ _ _ h; exact h) HS0.out (by rfl) ?hy5k ?rest5k
    case hy5k =>
      intro w' hSw
      have sz1 := cell_later hSw z1
      have sz2 := cell_later hSw z2
      clear hSw
      go_simp
      try with_reducible rfl
    simp only [Act.put, List.setIfInBounds_toArray, List.set_cons_zero, List.set_cons_succ]
    refine wpAnyF_takeC 6 [] (v := ?v6k) (by rfl) (by kernel_rfl) (by intro _ _ _ h; exact h) HS0.out (by rfl) ?hy6k ?rest6k
    case hy6k =>
      intro w' hSw
      have sz1 := cell_later hSw z1
      have sz2 := cell_later hSw z2
      clear hSw
      go_simp
      try with_reducible rfl
    simp only [Act.put, List.setIfInBounds_toArray, List.set_cons_zero, List.set_cons_succ]
    refine wpAnyF_takeC 7 [] (v := ?v7k) (by rfl) (by kernel_rfl) (by intro _ _ _ h; exact h) HS0.out (by rfl) ?hy7k ?rest7k
    case hy7k =>
      intro w' hSw
      have sz1 := cell_later hSw z1
      have sz2 := cell_later hSw z2
      clear hSw
      go_simp
      try with_reducible rfl
    simp only [Act.put, List.setIfInBounds_toArray, List.set_cons_zero, List.set_cons_succ]
    refine wpAnyF_takeC 8 [] (v := ?v8k) (by rfl) (by kernel_rfl) (by intro _ _ _ h; exact h) HS0.out (by rfl) ?hy8k ?rest8k
    case hy8k =>
      intro w' hSw
      have sz1 := cell_later hSw z1
      have sz2 := cell_later hSw z2
      clear hSw
      go_simp
      try with_reducible rfl
    simp only [Act.put, List.setIfInBounds_toArray, List.set_cons_zero, List.set_cons_succ]
    refine wpAnyF_takeC 9 [] (v := ?v9k) (by rfl) (by kernel_rfl) (by intro _ _ _ h; exact h) HS0.out (by rfl) ?hy9k ?rest9k
    case hy9k =>
      intro w' hSw
      have sz1 := cell_later hSw z1
      have sz2 := cell_later hSw z2
      clear hSw
      go_simp
      rfl
    simp only [Act.put, List.setIfInBounds_toArray, List.set_cons_zero, List.set_cons_succ]
    refine wpAnyF_takeC 10 [] (v := ?v10k) (by rfl) (by kernel_rfl) (by intro _ _ _ h; exact h) HS0.out (by rfl) ?hy10k ?rest10k
    case hy10k =>
      intro w' hSw
      have sz1 := cell_later hSw z1
      have sz2 := cell_later hSw z2
      have sd0 := cell_later hSw d0
      have sd1 := cell_later hSw d1
      have sd2 := cell_later hSw d2
      have sd3 := cell_later hSw d3
      have sd4 := cell_later hSw d4
      have sd5 := cell_later hSw d5
      clear hSw
      go_simp
      try with_reducible rfl
    simp only [Act.put, List.setIfInBounds_toArray, List.set_cons_zero, List.set_cons_succ]
    have c0 := HX2.out.cell (j := 0) (by simp)
    have c1 := HX2.out.cell (j := 1) (by simp)
    have c2' := HX2.out.cell (j := 2) (by simp)
    have c3 := HX2.out.cell (j := 3) (by simp)
    have c4 := HX2.out.cell (j := 4) (by simp)
    have c5 := HX2.out.cell (j := 5) (by simp)
    have e0 := HX2.out.free 0
    have e1 := HX2.out.free 1
    have e2 := HX2.out.free 2
    have e3 := HX2.out.free 3
    have e4 := HX2.out.free 4
    have e5 := HX2.out.free 5
    refine wpAnyF_one 11 (by rfl) (by kernel_rfl) rfl ?_
    intro K hK
    go_simp
    refine hK.out _ _ (fun h => absurd rfl h) ?_
    clear hK K
    refine wpAnyF_done (by kernel_rfl) ?_ _
    go_wp2_with fail
    refine bodyPost_ret (v := .agg #[.int .i64 (elt t.moms k).kind, .int .i64 (elt t.moms k).task, .int .i64 (elt t.moms k).fn, .int .i64 (elt t.moms k).line, .string (elt t.moms k).text, .slice Av (elt t.moms k).vars.length cv]) (by simp [results, Tryz.results152, go_sem, c0, c1, c2', c3, c4, c5]) rfl ?_
    refine ⟨elt t.moms k, Av, cv, rfl, ?_, ?_, ?_⟩
    · unfold varsAt
      rw [HP.out, if_pos HQ.out]
      rfl
    · refine HVX.out.later ?_
      repeat (with_reducible first | exact HB2.out | refine bl_set ?_ (by dsimp only; omega) _)
    · repeat (with_reducible first | exact HB2.out | refine bl_set ?_ (by dsimp only; omega) _)
end Go.Proofs.YtcklnjjbhngbcaaGreatDoor
