/- Lemmas and contracts of functions that the theorem of this claim leans on (texts I1). -/
import Derived.Test.YtcklnjjbhngbcaaGreatDoorRowLkz02
import Derived.Test.YtcklnjjbhngbcaaGreatDoorRowLkz05
import Derived.Test.YtcklnjjbhngbcaaGreatDoorRowLkz04
namespace Go.Proofs.YtcklnjjbhngbcaaGreatDoor
open Go.RowKit Go.Proofs.Lens

def frNode (f : PFr) (q : Option Addr) (n : Nat) (j : Nat) : Value := match j with
  | 0 => .int .i64 f.fn | 1 => .int .i64 f.line | 2 => .int .i64 f.frm | 3 => .pointer q | _ => .int .i64 n
/-- A linked list of open calls. -/
def FrL (w : World) : Option Addr → List PFr → Prop
  | p, [] => p = none
  | p, f :: r => ∃ b q, p = some ⟨b, 0, none⟩ ∧ Blk w b 148 5 (frNode f q (r.length + 1)) ∧ FrL w q r
theorem FrL.keep {w w' : World} (hk : ∀ (b' N : Nat) (f : Nat → Value), Blk w b' 148 N f → w'.heap[b']? = w.heap[b']?) : ∀ {fs : List PFr} {p : Option Addr}, FrL w p fs → FrL w' p fs
  | [], _, h => h
  | _ :: _, _, ⟨b, q, h1, h2, h3⟩ => ⟨b, q, h1, h2.keep (hk b _ _ h2), FrL.keep hk h3⟩
theorem FrL.later {w w' : World} {fs : List PFr} {p : Option Addr} (h : FrL w p fs) (hb : Below w.heap.size w w') : FrL w' p fs := h.keep fun b' _ _ hB => hb.block b' hB.lt
theorem FrL.grown {w w' : World} {fs : List PFr} {p : Option Addr} (h : FrL w p fs) {g N : Nat} {e : TypeId} {f : Nat → Value} (hB : Blk w g e N f) (he : e ≠ 148) (hb : w.grownBy w' (some g)) : FrL w' p fs :=
  h.keep fun b _ _ hN => hb.block b hN.lt (fun hh => hB.ne hN he (Option.some.inj hh).symm)
theorem FrL.set {w : World} {fs : List PFr} {p : Option Addr} (h : FrL w p fs) {g N : Nat} {e : TypeId} {f : Nat → Value} (hB : Blk w g e N f) (he : e ≠ 148) (j : Nat) (u : Value) : FrL (w.setCell ⟨g, j, none⟩ u) p fs :=
  h.keep fun _ _ _ hN => Below.heap_setCell _ _ _ _ (fun hh => hB.ne hN he hh.symm)

/-- The walk's block. -/
structure IsW (w : World) (g : Nat) (v1 v2 : Value) (s : PS) (cl : List PFr) (f : Nat → Value) : Prop where
  blk : Blk w g 146 105 f
  v1 : f 0 = v1
  v2 : f 1 = v2
  cur : f 2 = .int .i64 s.cur
  stk : ∀ i : Nat, i < 101 → ∃ p, f (3 + i) = .pointer p ∧ FrL w p (s.stk i)
  cl : ∃ c, f 104 = .pointer c ∧ FrL w c cl
theorem IsW.later {w w' : World} {g : Nat} {v1 v2 : Value} {s : PS} {cl : List PFr} {f : Nat → Value} (h : IsW w g v1 v2 s cl f) (hb : Below w.heap.size w w') : IsW w' g v1 v2 s cl f :=
  ⟨h.blk.later hb, h.v1, h.v2, h.cur, fun i hi => by obtain ⟨p, h1, h2⟩ := h.stk i hi; exact ⟨p, h1, h2.later hb⟩, by obtain ⟨c, h1, h2⟩ := h.cl; exact ⟨c, h1, h2.later hb⟩⟩
/-- The running task's cell. -/
theorem IsW.top {w : World} {g : Nat} {v1 v2 : Value} {s : PS} {cl : List PFr} {f : Nat → Value} (h : IsW w g v1 v2 s cl f) (h0 : 0 ≤ s.cur) (h1 : s.cur ≤ 100) :
    ∃ p, w.cell? ⟨g, 3 + s.cur.toNat, none⟩ = some (.pointer p) ∧ FrL w p s.top := by
  obtain ⟨p, e, hl⟩ := h.stk s.cur.toNat (by omega)
  refine ⟨p, (h.blk.cell (by omega)).trans (by rw [e]), ?_⟩
  rwa [Int.toNat_of_nonneg h0] at hl

set_option maxRecDepth 100000 in
set_option maxHeartbeats 400000 in
theorem count_calls (p : Option Addr) (fs : List PFr) (w : World) (h : FrL w p fs) : Calls Tryz.prog 136 #[.pointer p] w fun e w' => e = .returned (.int .i64 fs.length) ∧ w = w' := by
  cases fs with
  | nil =>
    obtain rfl : p = none := h
    go_enter Tryz.func136, Tryz.ntmps136
    go_wp2
    go_ret
    exact ⟨rfl, rfl⟩
  | cons f r =>
    obtain ⟨b, q, rfl, hB, -⟩ := h
    have h4 : w.cell? ⟨b, 4, none⟩ = some (.int .i64 ((r.length + 1 : Nat) : Int)) := hB.cell (j := 4) (by omega)
    clear hB
    go_enter Tryz.func136, Tryz.ntmps136
    go_wp2
    go_ret
    exact ⟨rfl, rfl⟩

theorem zero_walk : Tryz.zeroCells146 = #[.slice none 0 0, .slice none 0 0, .int .i64 0] ++ Array.replicate 102 (.pointer none) := by kernel_rfl
theorem zero_walk_size : Tryz.zeroCells146.size = 105 := by rw [zero_walk]; simp
theorem zero_walk_at {j : Nat} (h3 : 3 ≤ j) (hj : j < 105) : Tryz.zeroCells146[j]? = some (.pointer none) := by
  rw [zero_walk, Array.getElem?_append_right (by simpa using h3)]
  simp only [List.size_toArray, List.length_cons, List.length_nil, Array.getElem?_replicate]
  rw [if_pos (by omega)]

set_option maxRecDepth 100000 in
set_option maxHeartbeats 400000 in
theorem newWalk_calls (v1 v2 : Value) (w : World) : Calls Tryz.prog 71 #[.agg #[v1, v2]] w fun e w' =>
    ∃ g f, e = .returned (.pointer (some ⟨g, 0, none⟩)) ∧ IsW w' g v1 v2 ps0 [] f ∧ w.heap.size ≤ g ∧ Below w.heap.size w w' := by
  go_enter Tryz.func71, Tryz.ntmps71
  go_wp2
  go_ret
  refine ⟨w.heap.size + 1, fun j => if j = 0 then v1 else if j = 1 then v2 else if j = 2 then .int .i64 0 else if j = 3 then .pointer (some ⟨w.heap.size + 1 + 1, 0, none⟩) else .pointer none, rfl, ?_, by omega, bl_alloc (bl_alloc (bl_alloc (Below.refl _ _) _) _) _⟩
  have hB : Blk (w.alloc (.cells #[v1, v2] 26) |>.alloc (.cells (((Tryz.zeroCells146.setIfInBounds 0 v1).setIfInBounds 1 v2).setIfInBounds 3 (Value.pointer (some ⟨w.heap.size + 1 + 1, 0, none⟩))) 146))
      (w.heap.size + 1) 146 105 (fun j => if j = 0 then v1 else if j = 1 then v2 else if j = 2 then .int .i64 0 else if j = 3 then .pointer (some ⟨w.heap.size + 1 + 1, 0, none⟩) else .pointer none) := by
    have h := Blk.new (w.alloc (.cells #[v1, v2] 26)) (((Tryz.zeroCells146.setIfInBounds 0 v1).setIfInBounds 1 v2).setIfInBounds 3 (Value.pointer (some ⟨w.heap.size + 1 + 1, 0, none⟩))) 146
      (fun j => if j = 0 then v1 else if j = 1 then v2 else if j = 2 then .int .i64 0 else if j = 3 then .pointer (some ⟨w.heap.size + 1 + 1, 0, none⟩) else .pointer none) (fun j hj => by
        simp only [Array.size_setIfInBounds, zero_walk_size] at hj
        simp only [Array.getElem?_setIfInBounds, Array.size_setIfInBounds, zero_walk_size]
        by_cases h3 : j = 3
        · subst h3; simp
        · by_cases h1 : j = 1
          · subst h1; simp
          · by_cases h0 : j = 0
            · subst h0; simp
            · by_cases h2 : j = 2
              · subst h2; rw [zero_walk]; simp
              · have := zero_walk_at (j := j) (by omega) (by omega)
                simp [Ne.symm h0, Ne.symm h1, Ne.symm h3, h0, h1, h2, h3, this])
    simpa only [Array.size_setIfInBounds, zero_walk_size, World.size_alloc] using h
  have hN := Blk.made ((w.alloc (.cells #[v1, v2] 26)).alloc (.cells (((Tryz.zeroCells146.setIfInBounds 0 v1).setIfInBounds 1 v2).setIfInBounds 3 (Value.pointer (some ⟨w.heap.size + 1 + 1, 0, none⟩))) 146))
    #[Value.int IntKind.i64 0, Value.int IntKind.i64 0, Value.int IntKind.i64 (-1), Value.pointer none, Value.int IntKind.i64 1] 148
  refine ⟨hB.alloc _, rfl, rfl, rfl, fun i hi => ?_, ⟨none, rfl, rfl⟩⟩
  by_cases h0 : i = 0
  · subst h0
    refine ⟨_, rfl, ?_⟩
    simp only [ps0]
    refine ⟨_, none, rfl, ?_, rfl⟩
    simp only [World.size_alloc] at hN
    refine hN.congr fun j hj => ?_
    match j, hj with
    | 0, _ => rfl
    | 1, _ => rfl
    | 2, _ => rfl
    | 3, _ => rfl
    | 4, _ => rfl
  · refine ⟨none, by show (if 3 + i = 0 then _ else _) = _; rw [if_neg (by omega), if_neg (by omega), if_neg (by omega), if_neg (by omega)], ?_⟩
    have : ¬ (i : Int) = 0 := by omega
    simp only [ps0, this]
    rfl

set_option maxRecDepth 100000 in
set_option maxHeartbeats 1000000 in
theorem check_calls (g : Nat) (v1 v2 : Value) (s : PS) (cl : List PFr) (f : Nat → Value) (m : PMom) (v : Value) (w : World) (h : IsW w g v1 v2 s cl f) (hlo : 0 ≤ s.cur) (hhi : s.cur ≤ 100) :
    Calls Tryz.prog 72 #[.pointer (some ⟨g, 0, none⟩), .agg #[.int .i64 m.kind, .int .i64 m.task, .int .i64 m.fn, .int .i64 m.line, .string m.text, v]] w fun e w' =>
      e = .returned (.int .i64 (checkP s m)) ∧ Below w.heap.size w w' := by
  obtain ⟨p, ht, hl⟩ := h.top hlo hhi
  have hc : w.cell? ⟨g, 2, none⟩ = some (.int .i64 s.cur) := (h.blk.cell (by omega)).trans (by rw [h.cur])
  have hg := h.blk.lt
  have HL := Lib.hid hl
  cases hs : s.top with
  | nil =>
    obtain rfl : p = none := by rw [hs] at hl; exact hl
    have HS := Lib.hid hs
    clear h hl hs
    go_enter Tryz.func72, Tryz.ntmps72
    go_wp2_with (first | (go_at_call 136; refine (count_calls none [] _ rfl).mono ?_; rintro e w1 ⟨rfl, rfl⟩) | go_quiet (fail))
    all_goals
      go_ret
      refine ⟨ret_int ?_, (by repeat (with_reducible first | exact Below.refl _ _ | exact HL.out | refine bl_drewN ?_ _ | refine bl_drew ?_ | refine bl_alloc ?_ _ | refine bl_set ?_ (by dsimp only; omega) _))⟩
      go_tidy
      unfold checkP
      rw [HS.out]
      grind
  | cons fr r =>
    obtain ⟨b, q, rfl, hB, -⟩ : ∃ b q, p = some ⟨b, 0, none⟩ ∧ Blk w b 148 5 (frNode fr q (r.length + 1)) ∧ FrL w q r := by rw [hs] at hl; exact hl
    have n0 : w.cell? ⟨b, 0, none⟩ = some (.int .i64 fr.fn) := hB.cell (j := 0) (by omega)
    have n2 : w.cell? ⟨b, 2, none⟩ = some (.int .i64 fr.frm) := hB.cell (j := 2) (by omega)
    have hbw := hB.lt
    have HS := Lib.hid hs
    have HL2 : Hid (FrL w (some ⟨b, 0, none⟩) (fr :: r)) := by rw [hs] at hl; exact hl
    clear h hl hs hB
    go_enter Tryz.func72, Tryz.ntmps72
    by_cases hf : m.fn = fr.fn
    · by_cases hk : m.kind = 3
      · have hd1 : (m.fn != fr.fn) = false := by simp [hf]
        have hd2 : (m.kind == 3) = true := by simp [hk]
        have HF := Lib.hid hf
        have HK := Lib.hid hk
        clear hf hk
        go_wp2_with (first | (go_at_call 136; refine (count_calls _ (fr :: r) _ (HL2.out.later (by repeat (with_reducible first | exact Below.refl _ _ | exact HL.out | refine bl_drewN ?_ _ | refine bl_drew ?_ | refine bl_alloc ?_ _ | refine bl_set ?_ (by dsimp only; omega) _)))).mono ?_; rintro e w1 ⟨rfl, rfl⟩) | go_quiet (fail))
        all_goals
          go_ret
          refine ⟨ret_int ?_, (by repeat (with_reducible first | exact Below.refl _ _ | exact HL.out | refine bl_drewN ?_ _ | refine bl_drew ?_ | refine bl_alloc ?_ _ | refine bl_set ?_ (by dsimp only; omega) _))⟩
          go_tidy
          unfold checkP
          rw [HS.out]
          have h1 := HF.out
          have h2 := HK.out
          grind
      · have hd1 : (m.fn != fr.fn) = false := by simp [hf]
        have hd2 : (m.kind == 3) = false := by simp [hk]
        have HF := Lib.hid hf
        have HK := Lib.hid hk
        clear hf hk
        go_wp2_with (first | (go_at_call 136; refine (count_calls _ (fr :: r) _ (HL2.out.later (by repeat (with_reducible first | exact Below.refl _ _ | exact HL.out | refine bl_drewN ?_ _ | refine bl_drew ?_ | refine bl_alloc ?_ _ | refine bl_set ?_ (by dsimp only; omega) _)))).mono ?_; rintro e w1 ⟨rfl, rfl⟩) | go_quiet (fail))
        all_goals
          go_ret
          refine ⟨ret_int ?_, (by repeat (with_reducible first | exact Below.refl _ _ | exact HL.out | refine bl_drewN ?_ _ | refine bl_drew ?_ | refine bl_alloc ?_ _ | refine bl_set ?_ (by dsimp only; omega) _))⟩
          go_tidy
          unfold checkP
          rw [HS.out]
          have h1 := HF.out
          have h2 := HK.out
          grind
    · have hd1 : (m.fn != fr.fn) = true := by simp [hf]
      have HF := Lib.hid hf
      clear hf
      go_wp2_with (first | (go_at_call 136; refine (count_calls _ (fr :: r) _ (HL2.out.later (by repeat (with_reducible first | exact Below.refl _ _ | exact HL.out | refine bl_drewN ?_ _ | refine bl_drew ?_ | refine bl_alloc ?_ _ | refine bl_set ?_ (by dsimp only; omega) _)))).mono ?_; rintro e w1 ⟨rfl, rfl⟩) | go_quiet (fail))
      all_goals
        go_ret
        refine ⟨ret_int ?_, (by repeat (with_reducible first | exact Below.refl _ _ | exact HL.out | refine bl_drewN ?_ _ | refine bl_drew ?_ | refine bl_alloc ?_ _ | refine bl_set ?_ (by dsimp only; omega) _))⟩
        go_tidy
        unfold checkP
        rw [HS.out]
        have h1 := HF.out
        grind
end Go.Proofs.YtcklnjjbhngbcaaGreatDoor
