/- Lemmas and contracts of functions that the theorem of this claim leans on (texts E10, E10b, E11). -/
import Derived.Test.YtcklnjjbhngbcaaGreatDoorRowUnz20
namespace Go.Proofs.YtcklnjjbhngbcaaGreatDoor
open Go.RowKit Go.Proofs.Lens
set_option linter.unusedSimpArgs false

theorem stF {P : Program} (fn : Fn) (bs : Array Value) (W : World) (a : Addr) (h : (W.cell? a).isSome = true) (hf : W.frozen? a = false) : (store a (.func fn #[] bs)).run P W = .ok () (W.setCell a (.func fn #[] bs)) := by
  obtain ⟨u, hu⟩ := Option.isSome_iff_exists.1 h
  rw [run_store P W _ _ _ rfl, hu]
  simp [hf]
def fnB (F : Nat) (bs : Array Value) : Value := .func (.func F) #[] bs
/-- What the session does with each ask. -/
def doV (sb tb sb2 tb2 : Nat) (j : Nat) : Value := match j with
  | 1 => fnB 99 #[ptrB sb]
  | 2 => fnB 100 #[ptrB sb]
  | 3 => fnB 102 #[ptrB sb, ptrB tb]
  | 4 => fnB 105 #[ptrB sb, ptrB tb]
  | 5 => fnB 107 #[ptrB sb, ptrB tb]
  | 6 => fnB 108 #[ptrB sb, ptrB tb]
  | 7 => fnB 110 #[ptrB sb, ptrB tb]
  | 8 => fnB 112 #[ptrB sb]
  | 9 => fnB 113 #[ptrB tb, ptrB sb]
  | 10 => fnB 148 #[ptrB tb2, ptrB sb2]
  | 11 => fnB 150 #[ptrB sb2]
  | 12 => fnB 153 #[ptrB sb2]
  | 13 => fnB 155 #[ptrB sb2, ptrB tb2]
  | _ => .nilFunc
def loF (F : Nat → Value) (sb2 tb2 : Nat) : Nat → Value :=
  upd (upd (upd (upd F 15 (fnB 148 #[ptrB tb2, ptrB sb2])) 16 (fnB 150 #[ptrB sb2])) 17 (fnB 153 #[ptrB sb2])) 18 (fnB 155 #[ptrB sb2, ptrB tb2])
set_option maxRecDepth 100000 in
set_option maxHeartbeats 4000000 in
theorem looks_calls (s : Nat) (A1 A2 : Option Addr) (n1 n2 c1 c2 : Nat) (F : Nat → Value) (w : World) (h : Blk w s 94 19 F) (h0 : F 0 = .slice A1 n1 c1) (h1 : F 1 = .slice A2 n2 c2) :
    Calls Tryz.prog 114 #[.pointer (some ⟨s, 0, none⟩)] w fun e w' => ∃ sb2 tb2, e = .returned (.tuple #[]) ∧ Blk w' s 94 19 (loF F sb2 tb2) ∧ SeE w' s sb2 tb2 (.slice A1 n1 c1) (.slice A2 n2 c2) ∧ Mv [94] s w w' := by
  have hst := @stF Tryz.prog
  have HB := Lib.hid h
  have z0 : w.cell? ⟨s, 0, none⟩ = some (.slice A1 n1 c1) := (h.cell (j := 0) (by omega)).trans (by rw [h0])
  have z1 : w.cell? ⟨s, 1, none⟩ = some (.slice A2 n2 c2) := (h.cell (j := 1) (by omega)).trans (by rw [h1])
  have hsw := h.lt
  clear h h0 h1
  go_enter Tryz.func114, Tryz.ntmps114
  go_upto_region 2 with fail
  have HS1 := Lib.hid (((Blk.made w #[.pointer (some ⟨s, 0, none⟩)] 83).alloc (.cells #[.slice A1 n1 c1, .slice A2 n2 c2] 26)).congr (f' := fun _ => ptrB s) fun j hj => by
    obtain rfl : j = 0 := by simp at hj; omega
    rfl)
  have HT1 := (Blk.made (w.alloc (.cells #[.pointer (some ⟨s, 0, none⟩)] 83)) #[.slice A1 n1 c1, .slice A2 n2 c2] 26).congr (f' := trF (.slice A1 n1 c1) (.slice A2 n2 c2)) fun j hj => by
    have hj : j < 2 := hj
    match j, hj with
    | 0, _ => rfl
    | 1, _ => rfl
  rw [World.size_alloc] at HT1
  have HT := Lib.hid HT1
  have hbl := bl_alloc (bl_alloc (Below.refl _ w) (.cells #[.pointer (some ⟨s, 0, none⟩)] 83)) (.cells #[.slice A1 n1 c1, .slice A2 n2 c2] 26)
  clear HT1
  generalize World.alloc (World.alloc w _) _ = W at HS1 HT hbl ⊢
  replace HB := Lib.hid (HB.out.later hbl)
  have HM := Lib.hid (Mv.of_below (ts := [94]) (lo := s) hbl (Nat.le_of_lt hsw))
  clear z0 z1 hbl
  have zs : W.cell? ⟨w.heap.size, 0, none⟩ = some (.pointer (some ⟨s, 0, none⟩)) := HS1.out.cell (j := 0) (by simp)
  have x15 := HB.out.cell (j := 15) (by omega)
  have f15 := HB.out.free 15
  have x16 := HB.out.cell (j := 16) (by omega)
  have f16 := HB.out.free 16
  have x17 := HB.out.cell (j := 17) (by omega)
  have f17 := HB.out.free 17
  have x18 := HB.out.cell (j := 18) (by omega)
  have f18 := HB.out.free 18
  have hne : s ≠ w.heap.size := by omega
  go_wp2_with fail
  go_end0
  refine ⟨w.heap.size, w.heap.size + 1, rfl, ?_, ?_, ?_⟩
  · exact (((HB.out.set (j := 15) (by omega) _).set (j := 16) (by omega) _).set (j := 17) (by omega) _).set (j := 18) (by omega) _
  · have hs2 := HS1.out.ne HB.out (by decide)
    have ht2 := HT.out.ne HB.out (by decide)
    exact ⟨(((HS1.out.far hs2 _).far hs2 _).far hs2 _).far hs2 _, (((HT.out.far ht2 _).far ht2 _).far ht2 _).far ht2 _⟩
  · exact (((HM.out.set (p := ⟨s, 15, none⟩) (Nat.le_refl _) HB.out (by simp) _).set (p := ⟨s, 16, none⟩) (Nat.le_refl _) (HB.out.set (j := 15) (by omega) _) (by simp) _).set (p := ⟨s, 17, none⟩) (Nat.le_refl _) ((HB.out.set (j := 15) (by omega) _).set (j := 16) (by omega) _) (by simp) _).set (p := ⟨s, 18, none⟩) (Nat.le_refl _) (((HB.out.set (j := 15) (by omega) _).set (j := 16) (by omega) _).set (j := 17) (by omega) _) (by simp) _
end Go.Proofs.YtcklnjjbhngbcaaGreatDoor

namespace Go.Proofs.YtcklnjjbhngbcaaGreatDoor
open Go.RowKit Go.Proofs.Lens
set_option linter.unusedSimpArgs false
/-- A new session's cells, ahead of looks. -/
def nsF (v1 v2 : Value) (sb tb : Nat) (j : Nat) : Value := match j with
  | 0 => v1 | 1 => v2 | 2 => .int .i64 (-1) | 3 => .slice none 0 0 | 4 => .slice none 0 0
  | 6 => doV sb tb 0 0 1 | 7 => doV sb tb 0 0 2 | 8 => doV sb tb 0 0 3 | 9 => doV sb tb 0 0 4 | 10 => doV sb tb 0 0 5 | 11 => doV sb tb 0 0 6 | 12 => doV sb tb 0 0 7 | 13 => doV sb tb 0 0 8 | 14 => doV sb tb 0 0 9
  | _ => .nilFunc
theorem nsF_end (v1 v2 : Value) (sb tb sb2 tb2 : Nat) (j : Nat) (hj : j < 19) : loF (nsF v1 v2 sb tb) sb2 tb2 j = seF v1 v2 lk0.place (.slice none 0 0) (.slice none 0 0) (doV sb tb sb2 tb2) j := by
  match j, hj with
  | 0, _ => rfl
  | 1, _ => rfl
  | 2, _ => rfl
  | 3, _ => rfl
  | 4, _ => rfl
  | 5, _ => rfl
  | 6, _ => rfl
  | 7, _ => rfl
  | 8, _ => rfl
  | 9, _ => rfl
  | 10, _ => rfl
  | 11, _ => rfl
  | 12, _ => rfl
  | 13, _ => rfl
  | 14, _ => rfl
  | 15, _ => rfl
  | 16, _ => rfl
  | 17, _ => rfl
  | 18, _ => rfl
  | j + 19, hj => exact absurd hj (by omega)
set_option maxRecDepth 100000 in
set_option maxHeartbeats 4000000 in
theorem newSession_calls (A1 A2 : Option Addr) (n1 n2 c1 c2 : Nat) (w : World) :
    Calls Tryz.prog 39 #[.agg #[.slice A1 n1 c1, .slice A2 n2 c2]] w fun e w' => ∃ s sb tb sb2 tb2, e = .returned (.pointer (some ⟨s, 0, none⟩)) ∧ SeS w' w.heap.size s (.slice A1 n1 c1) (.slice A2 n2 c2) (doV sb tb sb2 tb2) lk0 (.slice none 0 0) (.slice none 0 0) ∧
      SeE w' s sb tb (.slice A1 n1 c1) (.slice A2 n2 c2) ∧ SeE w' s sb2 tb2 (.slice A1 n1 c1) (.slice A2 n2 c2) ∧ w.heap.size ≤ s ∧ Below w.heap.size w w' := by
  have hst := @stF Tryz.prog
  go_enter Tryz.func39, Tryz.ntmps39
  go_upto_region 2 with fail
  have hB1 := ((Blk.made (w.alloc (.cells #[.slice A1 n1 c1, .slice A2 n2 c2] 26)) #[.slice A1 n1 c1, .slice A2 n2 c2, .int .i64 (-1), .slice none 0 0, .slice none 0 0, .nilFunc, .nilFunc, .nilFunc, .nilFunc, .nilFunc, .nilFunc, .nilFunc, .nilFunc, .nilFunc, .nilFunc, .nilFunc, .nilFunc, .nilFunc, .nilFunc] 94).alloc (.cells #[.pointer (some ⟨w.heap.size + 1, 0, none⟩)] 83)).congr (f' := seF (.slice A1 n1 c1) (.slice A2 n2 c2) (-1) (.slice none 0 0) (.slice none 0 0) (fun _ => .nilFunc)) fun j hj => by
    have hj : j < 19 := hj
    match j, hj with
    | 0, _ => rfl
    | 1, _ => rfl
    | 2, _ => rfl
    | 3, _ => rfl
    | 4, _ => rfl
    | 5, _ => rfl
    | 6, _ => rfl
    | 7, _ => rfl
    | 8, _ => rfl
    | 9, _ => rfl
    | 10, _ => rfl
    | 11, _ => rfl
    | 12, _ => rfl
    | 13, _ => rfl
    | 14, _ => rfl
    | 15, _ => rfl
    | 16, _ => rfl
    | 17, _ => rfl
    | 18, _ => rfl
    | j + 19, hj => exact absurd hj (by omega)
  have hT1 := (((Blk.made w #[.slice A1 n1 c1, .slice A2 n2 c2] 26).alloc (.cells #[.slice A1 n1 c1, .slice A2 n2 c2, .int .i64 (-1), .slice none 0 0, .slice none 0 0, .nilFunc, .nilFunc, .nilFunc, .nilFunc, .nilFunc, .nilFunc, .nilFunc, .nilFunc, .nilFunc, .nilFunc, .nilFunc, .nilFunc, .nilFunc, .nilFunc] 94)).alloc (.cells #[.pointer (some ⟨w.heap.size + 1, 0, none⟩)] 83)).congr (f' := trF (.slice A1 n1 c1) (.slice A2 n2 c2)) fun j hj => by
    have hj : j < 2 := hj
    match j, hj with
    | 0, _ => rfl
    | 1, _ => rfl
  have hS1 := (Blk.made ((w.alloc (.cells #[.slice A1 n1 c1, .slice A2 n2 c2] 26)).alloc (.cells #[.slice A1 n1 c1, .slice A2 n2 c2, .int .i64 (-1), .slice none 0 0, .slice none 0 0, .nilFunc, .nilFunc, .nilFunc, .nilFunc, .nilFunc, .nilFunc, .nilFunc, .nilFunc, .nilFunc, .nilFunc, .nilFunc, .nilFunc, .nilFunc, .nilFunc] 94)) #[.pointer (some ⟨w.heap.size + 1, 0, none⟩)] 83).congr (f' := fun _ => ptrB (w.heap.size + 1)) fun j hj => by
    obtain rfl : j = 0 := by simp at hj; omega
    rfl
  have hbl := bl_alloc (bl_alloc (bl_alloc (Below.refl _ w) (.cells #[.slice A1 n1 c1, .slice A2 n2 c2] 26)) (.cells #[.slice A1 n1 c1, .slice A2 n2 c2, .int .i64 (-1), .slice none 0 0, .slice none 0 0, .nilFunc, .nilFunc, .nilFunc, .nilFunc, .nilFunc, .nilFunc, .nilFunc, .nilFunc, .nilFunc, .nilFunc, .nilFunc, .nilFunc, .nilFunc, .nilFunc] 94)) (.cells #[.pointer (some ⟨w.heap.size + 1, 0, none⟩)] 83)
  simp only [World.size_alloc] at hB1 hT1 hS1
  generalize World.alloc (World.alloc (World.alloc w _) _) _ = W at hB1 hT1 hS1 hbl ⊢
  have HB : Hid (Blk W (w.heap.size + 1) 94 19 (seF (.slice A1 n1 c1) (.slice A2 n2 c2) (-1) (.slice none 0 0) (.slice none 0 0) (fun _ => .nilFunc))) := Lib.hid hB1
  have HT : Hid (Blk W w.heap.size 26 2 (trF (.slice A1 n1 c1) (.slice A2 n2 c2))) := Lib.hid hT1
  have HS : Hid (Blk W (w.heap.size + 1 + 1) 83 1 (fun _ => ptrB (w.heap.size + 1))) := Lib.hid hS1
  have HL := Lib.hid hbl
  clear hB1 hT1 hS1 hbl
  have zs : W.cell? ⟨w.heap.size + 1 + 1, 0, none⟩ = some (.pointer (some ⟨w.heap.size + 1, 0, none⟩)) := HS.out.cell (j := 0) (by omega)
  have x6 : W.cell? ⟨w.heap.size + 1, 6, none⟩ = some .nilFunc := HB.out.cell (j := 6) (by omega)
  have f6 := HB.out.free 6
  have x7 : W.cell? ⟨w.heap.size + 1, 7, none⟩ = some .nilFunc := HB.out.cell (j := 7) (by omega)
  have f7 := HB.out.free 7
  have x8 : W.cell? ⟨w.heap.size + 1, 8, none⟩ = some .nilFunc := HB.out.cell (j := 8) (by omega)
  have f8 := HB.out.free 8
  have x9 : W.cell? ⟨w.heap.size + 1, 9, none⟩ = some .nilFunc := HB.out.cell (j := 9) (by omega)
  have f9 := HB.out.free 9
  have x10 : W.cell? ⟨w.heap.size + 1, 10, none⟩ = some .nilFunc := HB.out.cell (j := 10) (by omega)
  have f10 := HB.out.free 10
  have x11 : W.cell? ⟨w.heap.size + 1, 11, none⟩ = some .nilFunc := HB.out.cell (j := 11) (by omega)
  have f11 := HB.out.free 11
  have x12 : W.cell? ⟨w.heap.size + 1, 12, none⟩ = some .nilFunc := HB.out.cell (j := 12) (by omega)
  have f12 := HB.out.free 12
  have x13 : W.cell? ⟨w.heap.size + 1, 13, none⟩ = some .nilFunc := HB.out.cell (j := 13) (by omega)
  have f13 := HB.out.free 13
  have x14 : W.cell? ⟨w.heap.size + 1, 14, none⟩ = some .nilFunc := HB.out.cell (j := 14) (by omega)
  have f14 := HB.out.free 14
  go_wp2_with fail
  have hB9 := (((((((((HB.out.set (j := 6) (by omega) (.func (.func 99) #[] #[.pointer (some ⟨w.heap.size + 1 + 1, 0, none⟩)])).set (j := 7) (by omega) (.func (.func 100) #[] #[.pointer (some ⟨w.heap.size + 1 + 1, 0, none⟩)])).set (j := 8) (by omega) (.func (.func 102) #[] #[.pointer (some ⟨w.heap.size + 1 + 1, 0, none⟩), .pointer (some ⟨w.heap.size, 0, none⟩)])).set (j := 9) (by omega) (.func (.func 105) #[] #[.pointer (some ⟨w.heap.size + 1 + 1, 0, none⟩), .pointer (some ⟨w.heap.size, 0, none⟩)])).set (j := 10) (by omega) (.func (.func 107) #[] #[.pointer (some ⟨w.heap.size + 1 + 1, 0, none⟩), .pointer (some ⟨w.heap.size, 0, none⟩)])).set (j := 11) (by omega) (.func (.func 108) #[] #[.pointer (some ⟨w.heap.size + 1 + 1, 0, none⟩), .pointer (some ⟨w.heap.size, 0, none⟩)])).set (j := 12) (by omega) (.func (.func 110) #[] #[.pointer (some ⟨w.heap.size + 1 + 1, 0, none⟩), .pointer (some ⟨w.heap.size, 0, none⟩)])).set (j := 13) (by omega) (.func (.func 112) #[] #[.pointer (some ⟨w.heap.size + 1 + 1, 0, none⟩)])).set (j := 14) (by omega) (.func (.func 113) #[] #[.pointer (some ⟨w.heap.size, 0, none⟩), .pointer (some ⟨w.heap.size + 1 + 1, 0, none⟩)]))
  have hB10 : Blk _ (w.heap.size + 1) 94 19 (nsF (.slice A1 n1 c1) (.slice A2 n2 c2) (w.heap.size + 1 + 1) w.heap.size) := hB9.congr fun j hj => by
    match j, hj with
    | 0, _ => rfl
    | 1, _ => rfl
    | 2, _ => rfl
    | 3, _ => rfl
    | 4, _ => rfl
    | 5, _ => rfl
    | 6, _ => rfl
    | 7, _ => rfl
    | 8, _ => rfl
    | 9, _ => rfl
    | 10, _ => rfl
    | 11, _ => rfl
    | 12, _ => rfl
    | 13, _ => rfl
    | 14, _ => rfl
    | 15, _ => rfl
    | 16, _ => rfl
    | 17, _ => rfl
    | 18, _ => rfl
    | j + 19, hj => exact absurd hj (by omega)
  clear hB9
  have hs2 := HS.out.ne HB.out (by decide)
  have ht2 := HT.out.ne HB.out (by decide)
  have hS9 := (((((((((HS.out.far (p := ⟨w.heap.size + 1, 6, none⟩) hs2 (.func (.func 99) #[] #[.pointer (some ⟨w.heap.size + 1 + 1, 0, none⟩)])).far (p := ⟨w.heap.size + 1, 7, none⟩) hs2 (.func (.func 100) #[] #[.pointer (some ⟨w.heap.size + 1 + 1, 0, none⟩)])).far (p := ⟨w.heap.size + 1, 8, none⟩) hs2 (.func (.func 102) #[] #[.pointer (some ⟨w.heap.size + 1 + 1, 0, none⟩), .pointer (some ⟨w.heap.size, 0, none⟩)])).far (p := ⟨w.heap.size + 1, 9, none⟩) hs2 (.func (.func 105) #[] #[.pointer (some ⟨w.heap.size + 1 + 1, 0, none⟩), .pointer (some ⟨w.heap.size, 0, none⟩)])).far (p := ⟨w.heap.size + 1, 10, none⟩) hs2 (.func (.func 107) #[] #[.pointer (some ⟨w.heap.size + 1 + 1, 0, none⟩), .pointer (some ⟨w.heap.size, 0, none⟩)])).far (p := ⟨w.heap.size + 1, 11, none⟩) hs2 (.func (.func 108) #[] #[.pointer (some ⟨w.heap.size + 1 + 1, 0, none⟩), .pointer (some ⟨w.heap.size, 0, none⟩)])).far (p := ⟨w.heap.size + 1, 12, none⟩) hs2 (.func (.func 110) #[] #[.pointer (some ⟨w.heap.size + 1 + 1, 0, none⟩), .pointer (some ⟨w.heap.size, 0, none⟩)])).far (p := ⟨w.heap.size + 1, 13, none⟩) hs2 (.func (.func 112) #[] #[.pointer (some ⟨w.heap.size + 1 + 1, 0, none⟩)])).far (p := ⟨w.heap.size + 1, 14, none⟩) hs2 (.func (.func 113) #[] #[.pointer (some ⟨w.heap.size, 0, none⟩), .pointer (some ⟨w.heap.size + 1 + 1, 0, none⟩)]))
  have hT9 := (((((((((HT.out.far (p := ⟨w.heap.size + 1, 6, none⟩) ht2 (.func (.func 99) #[] #[.pointer (some ⟨w.heap.size + 1 + 1, 0, none⟩)])).far (p := ⟨w.heap.size + 1, 7, none⟩) ht2 (.func (.func 100) #[] #[.pointer (some ⟨w.heap.size + 1 + 1, 0, none⟩)])).far (p := ⟨w.heap.size + 1, 8, none⟩) ht2 (.func (.func 102) #[] #[.pointer (some ⟨w.heap.size + 1 + 1, 0, none⟩), .pointer (some ⟨w.heap.size, 0, none⟩)])).far (p := ⟨w.heap.size + 1, 9, none⟩) ht2 (.func (.func 105) #[] #[.pointer (some ⟨w.heap.size + 1 + 1, 0, none⟩), .pointer (some ⟨w.heap.size, 0, none⟩)])).far (p := ⟨w.heap.size + 1, 10, none⟩) ht2 (.func (.func 107) #[] #[.pointer (some ⟨w.heap.size + 1 + 1, 0, none⟩), .pointer (some ⟨w.heap.size, 0, none⟩)])).far (p := ⟨w.heap.size + 1, 11, none⟩) ht2 (.func (.func 108) #[] #[.pointer (some ⟨w.heap.size + 1 + 1, 0, none⟩), .pointer (some ⟨w.heap.size, 0, none⟩)])).far (p := ⟨w.heap.size + 1, 12, none⟩) ht2 (.func (.func 110) #[] #[.pointer (some ⟨w.heap.size + 1 + 1, 0, none⟩), .pointer (some ⟨w.heap.size, 0, none⟩)])).far (p := ⟨w.heap.size + 1, 13, none⟩) ht2 (.func (.func 112) #[] #[.pointer (some ⟨w.heap.size + 1 + 1, 0, none⟩)])).far (p := ⟨w.heap.size + 1, 14, none⟩) ht2 (.func (.func 113) #[] #[.pointer (some ⟨w.heap.size, 0, none⟩), .pointer (some ⟨w.heap.size + 1 + 1, 0, none⟩)]))
  have hL9 := (bl_set (bl_set (bl_set (bl_set (bl_set (bl_set (bl_set (bl_set (bl_set HL.out (p := ⟨w.heap.size + 1, 6, none⟩) (Nat.le_succ _) (.func (.func 99) #[] #[.pointer (some ⟨w.heap.size + 1 + 1, 0, none⟩)])) (p := ⟨w.heap.size + 1, 7, none⟩) (Nat.le_succ _) (.func (.func 100) #[] #[.pointer (some ⟨w.heap.size + 1 + 1, 0, none⟩)])) (p := ⟨w.heap.size + 1, 8, none⟩) (Nat.le_succ _) (.func (.func 102) #[] #[.pointer (some ⟨w.heap.size + 1 + 1, 0, none⟩), .pointer (some ⟨w.heap.size, 0, none⟩)])) (p := ⟨w.heap.size + 1, 9, none⟩) (Nat.le_succ _) (.func (.func 105) #[] #[.pointer (some ⟨w.heap.size + 1 + 1, 0, none⟩), .pointer (some ⟨w.heap.size, 0, none⟩)])) (p := ⟨w.heap.size + 1, 10, none⟩) (Nat.le_succ _) (.func (.func 107) #[] #[.pointer (some ⟨w.heap.size + 1 + 1, 0, none⟩), .pointer (some ⟨w.heap.size, 0, none⟩)])) (p := ⟨w.heap.size + 1, 11, none⟩) (Nat.le_succ _) (.func (.func 108) #[] #[.pointer (some ⟨w.heap.size + 1 + 1, 0, none⟩), .pointer (some ⟨w.heap.size, 0, none⟩)])) (p := ⟨w.heap.size + 1, 12, none⟩) (Nat.le_succ _) (.func (.func 110) #[] #[.pointer (some ⟨w.heap.size + 1 + 1, 0, none⟩), .pointer (some ⟨w.heap.size, 0, none⟩)])) (p := ⟨w.heap.size + 1, 13, none⟩) (Nat.le_succ _) (.func (.func 112) #[] #[.pointer (some ⟨w.heap.size + 1 + 1, 0, none⟩)])) (p := ⟨w.heap.size + 1, 14, none⟩) (Nat.le_succ _) (.func (.func 113) #[] #[.pointer (some ⟨w.heap.size, 0, none⟩), .pointer (some ⟨w.heap.size + 1 + 1, 0, none⟩)]))
  generalize World.setCell (World.setCell (World.setCell (World.setCell (World.setCell (World.setCell (World.setCell (World.setCell (World.setCell W _ _) _ _) _ _) _ _) _ _) _ _) _ _) _ _) _ _ = W9 at hB10 hS9 hT9 hL9 ⊢
  have HS9 := Lib.hid hS9
  have HT9 := Lib.hid hT9
  have HL9 := Lib.hid hL9
  refine (looks_calls (w.heap.size + 1) A1 A2 n1 n2 c1 c2 _ W9 hB10 rfl rfl).mono ?_; rintro e w8 ⟨sb2, tb2, rfl, hB, hE, hm⟩
  have HB8 := Lib.hid hB
  have HE8 := Lib.hid hE
  have HS8 := Lib.hid (HS9.out.mv hm (by decide))
  have HT8 := Lib.hid (HT9.out.mv hm (by decide))
  have HL8 := Lib.hid (bl_trans9 HL9.out (bl_low9 hm.bl (Nat.le_succ _)))
  clear hB hE hm hB10 hS9 hT9 hL9 HS9 HT9 HL9 HB HT HS HL zs x6 f6 x7 f7 x8 f8 x9 f9 x10 f10 x11 f11 x12 f12 x13 f13 x14 f14
  have zs : w8.cell? ⟨w.heap.size + 1 + 1, 0, none⟩ = some (.pointer (some ⟨w.heap.size + 1, 0, none⟩)) := HS8.out.cell (j := 0) (by omega)
  go_wp2_with fail
  go_ret
  exact ⟨w.heap.size + 1, w.heap.size + 1 + 1, w.heap.size, sb2, tb2, rfl, ⟨HB8.out.congr fun j hj => nsF_end _ _ _ _ _ _ j hj, OwR.nil, fun _ => 0, fun _ => 0, OwR.nil, fun i hi => absurd hi (by simp [lk0])⟩, ⟨HS8.out, HT8.out⟩, HE8.out, Nat.le_succ _, HL8.out⟩
end Go.Proofs.YtcklnjjbhngbcaaGreatDoor

namespace Go.Proofs.YtcklnjjbhngbcaaGreatDoor
open Go.RowKit Go.Proofs.Lens
set_option linter.unusedSimpArgs false

set_option maxRecDepth 100000 in
set_option maxHeartbeats 2000000 in
theorem askOk_2 (a : PAsk) (w : World) (h1 : a.op = 2) (hz : a.nm.size ≤ 9223372036854775807) :
    Calls Tryz.prog 40 #[.agg #[.int .i64 a.op, .int .i64 a.n, .string a.nm, .int .i64 a.stop.kind, .int .i64 a.stop.fn, .int .i64 a.stop.line, .string a.stop.nm]] w fun e w' => e = .returned (.bool (askOk a)) ∧ Below w.heap.size w w' := by
  obtain ⟨op, n, nm, st⟩ := a
  simp only at h1 hz ⊢
  subst h1
  have HA : Hid (askOk ⟨2, n, nm, st⟩ = (inB n 0 49 && noS nm && noStop st)) := Lib.hid (by unfold askOk; simp)
  go_enter Tryz.func40, Tryz.ntmps40
  go_wp2_with fail
  refine (inside_calls _ _ _ _).mono ?_; rintro e w' ⟨rfl, rfl⟩
  obtain ⟨b, hb⟩ : ∃ b, inB n 0 49 = b := ⟨_, rfl⟩
  rw [hb]
  rw [hb] at HA
  cases b with
  | false =>
    go_wp2_with fail
    go_ret
    exact ⟨ret_bool (by rw [HA.out]; simp), (by repeat (with_reducible first | exact Below.refl _ _ | exact HL.out | refine bl_alloc ?_ _ | refine bl_set ?_ (by dsimp only; omega) _))⟩
  | true =>
    clear hb
    go_wp2_with fail
    all_goals
      go_ret
      refine ⟨ret_bool ?_, (by repeat (with_reducible first | exact Below.refl _ _ | exact HL.out | refine bl_alloc ?_ _ | refine bl_set ?_ (by dsimp only; omega) _))⟩
      go_tidy
      rw [HA.out]
      unfold noStop noS
      grind [inB, List.isEmpty_iff]
set_option maxRecDepth 100000 in
set_option maxHeartbeats 2000000 in
theorem askOk_13 (a : PAsk) (w : World) (h1 : a.op = 13) (hz : a.nm.size ≤ 9223372036854775807) :
    Calls Tryz.prog 40 #[.agg #[.int .i64 a.op, .int .i64 a.n, .string a.nm, .int .i64 a.stop.kind, .int .i64 a.stop.fn, .int .i64 a.stop.line, .string a.stop.nm]] w fun e w' => e = .returned (.bool (askOk a)) ∧ Below w.heap.size w w' := by
  obtain ⟨op, n, nm, st⟩ := a
  simp only at h1 hz ⊢
  subst h1
  have HA : Hid (askOk ⟨13, n, nm, st⟩ = (inB n 0 49 && noS nm && noStop st)) := Lib.hid (by unfold askOk; simp)
  go_enter Tryz.func40, Tryz.ntmps40
  go_wp2_with fail
  refine (inside_calls _ _ _ _).mono ?_; rintro e w' ⟨rfl, rfl⟩
  obtain ⟨b, hb⟩ : ∃ b, inB n 0 49 = b := ⟨_, rfl⟩
  rw [hb]
  rw [hb] at HA
  cases b with
  | false =>
    go_wp2_with fail
    go_ret
    exact ⟨ret_bool (by rw [HA.out]; simp), (by repeat (with_reducible first | exact Below.refl _ _ | exact HL.out | refine bl_alloc ?_ _ | refine bl_set ?_ (by dsimp only; omega) _))⟩
  | true =>
    clear hb
    go_wp2_with fail
    all_goals
      go_ret
      refine ⟨ret_bool ?_, (by repeat (with_reducible first | exact Below.refl _ _ | exact HL.out | refine bl_alloc ?_ _ | refine bl_set ?_ (by dsimp only; omega) _))⟩
      go_tidy
      rw [HA.out]
      unfold noStop noS
      grind [inB, List.isEmpty_iff]
set_option maxRecDepth 100000 in
set_option maxHeartbeats 2000000 in
theorem askOk_9 (a : PAsk) (w : World) (h1 : a.op = 9) (hz : a.nm.size ≤ 9223372036854775807) :
    Calls Tryz.prog 40 #[.agg #[.int .i64 a.op, .int .i64 a.n, .string a.nm, .int .i64 a.stop.kind, .int .i64 a.stop.fn, .int .i64 a.stop.line, .string a.stop.nm]] w fun e w' => e = .returned (.bool (askOk a)) ∧ Below w.heap.size w w' := by
  obtain ⟨op, n, nm, st⟩ := a
  simp only at h1 hz ⊢
  subst h1
  have HA : Hid (askOk ⟨9, n, nm, st⟩ = (inB n (-1) 3000 && noS nm && noStop st)) := Lib.hid (by unfold askOk; simp)
  go_enter Tryz.func40, Tryz.ntmps40
  go_wp2_with fail
  refine (inside_calls _ _ _ _).mono ?_; rintro e w' ⟨rfl, rfl⟩
  obtain ⟨b, hb⟩ : ∃ b, inB n (-1) 3000 = b := ⟨_, rfl⟩
  rw [hb]
  rw [hb] at HA
  cases b with
  | false =>
    go_wp2_with fail
    go_ret
    exact ⟨ret_bool (by rw [HA.out]; simp), (by repeat (with_reducible first | exact Below.refl _ _ | exact HL.out | refine bl_alloc ?_ _ | refine bl_set ?_ (by dsimp only; omega) _))⟩
  | true =>
    clear hb
    go_wp2_with fail
    all_goals
      go_ret
      refine ⟨ret_bool ?_, (by repeat (with_reducible first | exact Below.refl _ _ | exact HL.out | refine bl_alloc ?_ _ | refine bl_set ?_ (by dsimp only; omega) _))⟩
      go_tidy
      rw [HA.out]
      unfold noStop noS
      grind [inB, List.isEmpty_iff]
set_option maxRecDepth 100000 in
set_option maxHeartbeats 2000000 in
theorem askOk_10 (a : PAsk) (w : World) (h1 : a.op = 10) (hz : a.nm.size ≤ 9223372036854775807) :
    Calls Tryz.prog 40 #[.agg #[.int .i64 a.op, .int .i64 a.n, .string a.nm, .int .i64 a.stop.kind, .int .i64 a.stop.fn, .int .i64 a.stop.line, .string a.stop.nm]] w fun e w' => e = .returned (.bool (askOk a)) ∧ Below w.heap.size w w' := by
  obtain ⟨op, n, nm, st⟩ := a
  simp only at h1 hz ⊢
  subst h1
  have HA : Hid (askOk ⟨10, n, nm, st⟩ = (inB n 0 100 && noS nm && noStop st)) := Lib.hid (by unfold askOk; simp)
  go_enter Tryz.func40, Tryz.ntmps40
  go_wp2_with fail
  refine (inside_calls _ _ _ _).mono ?_; rintro e w' ⟨rfl, rfl⟩
  obtain ⟨b, hb⟩ : ∃ b, inB n 0 100 = b := ⟨_, rfl⟩
  rw [hb]
  rw [hb] at HA
  cases b with
  | false =>
    go_wp2_with fail
    go_ret
    exact ⟨ret_bool (by rw [HA.out]; simp), (by repeat (with_reducible first | exact Below.refl _ _ | exact HL.out | refine bl_alloc ?_ _ | refine bl_set ?_ (by dsimp only; omega) _))⟩
  | true =>
    clear hb
    go_wp2_with fail
    all_goals
      go_ret
      refine ⟨ret_bool ?_, (by repeat (with_reducible first | exact Below.refl _ _ | exact HL.out | refine bl_alloc ?_ _ | refine bl_set ?_ (by dsimp only; omega) _))⟩
      go_tidy
      rw [HA.out]
      unfold noStop noS
      grind [inB, List.isEmpty_iff]
set_option maxRecDepth 100000 in
set_option maxHeartbeats 2000000 in
theorem askOk_12 (a : PAsk) (w : World) (h1 : a.op = 12) (hz : a.nm.size ≤ 9223372036854775807) :
    Calls Tryz.prog 40 #[.agg #[.int .i64 a.op, .int .i64 a.n, .string a.nm, .int .i64 a.stop.kind, .int .i64 a.stop.fn, .int .i64 a.stop.line, .string a.stop.nm]] w fun e w' => e = .returned (.bool (askOk a)) ∧ Below w.heap.size w w' := by
  obtain ⟨op, n, nm, st⟩ := a
  simp only at h1 hz ⊢
  subst h1
  have HA : Hid (askOk ⟨12, n, nm, st⟩ = (inB nm.size 1 40 && decide (n = 0) && noStop st)) := Lib.hid (by unfold askOk; simp; rw [Bool.and_comm (decide (n = 0))])
  go_enter Tryz.func40, Tryz.ntmps40
  go_wp2_with fail
  refine (inside_calls _ _ _ _).mono ?_; rintro e w' ⟨rfl, rfl⟩
  obtain ⟨b, hb⟩ : ∃ b, inB nm.size 1 40 = b := ⟨_, rfl⟩
  rw [hb]
  rw [hb] at HA
  cases b with
  | false =>
    go_wp2_with fail
    go_ret
    exact ⟨ret_bool (by rw [HA.out]; simp), (by repeat (with_reducible first | exact Below.refl _ _ | exact HL.out | refine bl_alloc ?_ _ | refine bl_set ?_ (by dsimp only; omega) _))⟩
  | true =>
    clear hb
    go_wp2_with fail
    all_goals
      go_ret
      refine ⟨ret_bool ?_, (by repeat (with_reducible first | exact Below.refl _ _ | exact HL.out | refine bl_alloc ?_ _ | refine bl_set ?_ (by dsimp only; omega) _))⟩
      go_tidy
      rw [HA.out]
      unfold noStop noS
      grind [inB, List.isEmpty_iff]
set_option maxRecDepth 100000 in
set_option maxHeartbeats 2000000 in
theorem askOk_else (a : PAsk) (w : World) (h1 : a.op ≠ 1) (h2 : a.op ≠ 2) (h3 : a.op ≠ 13) (h9 : a.op ≠ 9) (h10 : a.op ≠ 10) (h12 : a.op ≠ 12) (hz : a.nm.size ≤ 9223372036854775807) :
    Calls Tryz.prog 40 #[.agg #[.int .i64 a.op, .int .i64 a.n, .string a.nm, .int .i64 a.stop.kind, .int .i64 a.stop.fn, .int .i64 a.stop.line, .string a.stop.nm]] w fun e w' => e = .returned (.bool (askOk a)) ∧ Below w.heap.size w w' := by
  obtain ⟨op, n, nm, st⟩ := a
  simp only at h1 h2 h3 h9 h10 h12 hz ⊢
  have q1 : (op == 1) = false := by simp [h1]
  have q2 : (op == 2) = false := by simp [h2]
  have q3 : (op == 13) = false := by simp [h3]
  have q9 : (op == 9) = false := by simp [h9]
  have q10 : (op == 10) = false := by simp [h10]
  have q12 : (op == 12) = false := by simp [h12]
  have HA : Hid (askOk ⟨op, n, nm, st⟩ = (inB op 1 13 && decide (n = 0) && noS nm && noStop st)) := Lib.hid (by unfold askOk; simp [h1, h2, h3, h9, h10, h12])
  clear h1 h2 h3 h9 h10 h12
  go_enter Tryz.func40, Tryz.ntmps40
  go_wp2_with fail
  refine (inside_calls _ _ _ _).mono ?_; rintro e w' ⟨rfl, rfl⟩
  obtain ⟨b, hb⟩ : ∃ b, inB op 1 13 = b := ⟨_, rfl⟩
  rw [hb]
  rw [hb] at HA
  cases b with
  | false =>
    go_wp2_with fail
    go_ret
    exact ⟨ret_bool (by rw [HA.out]; simp), (by repeat (with_reducible first | exact Below.refl _ _ | exact HL.out | refine bl_alloc ?_ _ | refine bl_set ?_ (by dsimp only; omega) _))⟩
  | true =>
    clear hb
    go_wp2_with fail
    all_goals
      go_ret
      refine ⟨ret_bool ?_, (by repeat (with_reducible first | exact Below.refl _ _ | exact HL.out | refine bl_alloc ?_ _ | refine bl_set ?_ (by dsimp only; omega) _))⟩
      go_tidy
      rw [HA.out]
      unfold noStop noS
      grind [inB, List.isEmpty_iff]
set_option maxRecDepth 100000 in
set_option maxHeartbeats 2000000 in
theorem askOk_1 (a : PAsk) (w : World) (h1 : a.op = 1) (hz : a.nm.size ≤ 9223372036854775807) :
    Calls Tryz.prog 40 #[.agg #[.int .i64 a.op, .int .i64 a.n, .string a.nm, .int .i64 a.stop.kind, .int .i64 a.stop.fn, .int .i64 a.stop.line, .string a.stop.nm]] w fun e w' => e = .returned (.bool (askOk a)) ∧ Below w.heap.size w w' := by
  obtain ⟨op, n, nm, st⟩ := a
  simp only at h1 hz ⊢
  subst h1
  obtain ⟨b, hb⟩ : ∃ b, stopOk st = b := ⟨_, rfl⟩
  have HA : Hid (askOk ⟨1, n, nm, st⟩ = (decide (n = 0) && noS nm && b)) := Lib.hid (by unfold askOk; simp [hb])
  have HX := Lib.hid ((Blk.made w #[.int .i64 1, .int .i64 n, .string nm, .int .i64 st.kind, .int .i64 st.fn, .int .i64 st.line, .string st.nm] 47).alloc (.cells #[.int .i64 1, .int .i64 0, .string ⟨#[]⟩, .int .i64 st.kind, .int .i64 st.fn, .int .i64 st.line, .string st.nm] 47))
  have hY := Blk.made (w.alloc (.cells #[.int .i64 1, .int .i64 n, .string nm, .int .i64 st.kind, .int .i64 st.fn, .int .i64 st.line, .string st.nm] 47)) #[.int .i64 1, .int .i64 0, .string ⟨#[]⟩, .int .i64 st.kind, .int .i64 st.fn, .int .i64 st.line, .string st.nm] 47
  rw [World.size_alloc] at hY
  have HY := Lib.hid hY
  have HL := Lib.hid (bl_alloc (bl_alloc (Below.refl _ w) (.cells #[.int .i64 1, .int .i64 n, .string nm, .int .i64 st.kind, .int .i64 st.fn, .int .i64 st.line, .string st.nm] 47)) (.cells #[.int .i64 1, .int .i64 0, .string ⟨#[]⟩, .int .i64 st.kind, .int .i64 st.fn, .int .i64 st.line, .string st.nm] 47))
  clear hY
  go_enter Tryz.func40, Tryz.ntmps40
  go_wp2_with fail
  refine (impl_StopOk_un st _ hb).mono ?_; rintro e w1 ⟨rfl, hbl⟩
  replace HX := Lib.hid (HX.out.later hbl); replace HY := Lib.hid (HY.out.later hbl); replace HL := Lib.hid (bl_then HL.out hbl); clear hbl
  have x0 : w1.cell? ⟨w.heap.size, 0, none⟩ = some (.int .i64 1) := HX.out.cell (j := 0) (by simp)
  have x1 : w1.cell? ⟨w.heap.size, 1, none⟩ = some (.int .i64 n) := HX.out.cell (j := 1) (by simp)
  have x2 : w1.cell? ⟨w.heap.size, 2, none⟩ = some (.string nm) := HX.out.cell (j := 2) (by simp)
  have x3 : w1.cell? ⟨w.heap.size, 3, none⟩ = some (.int .i64 st.kind) := HX.out.cell (j := 3) (by simp)
  have x4 : w1.cell? ⟨w.heap.size, 4, none⟩ = some (.int .i64 st.fn) := HX.out.cell (j := 4) (by simp)
  have x5 : w1.cell? ⟨w.heap.size, 5, none⟩ = some (.int .i64 st.line) := HX.out.cell (j := 5) (by simp)
  have x6 : w1.cell? ⟨w.heap.size, 6, none⟩ = some (.string st.nm) := HX.out.cell (j := 6) (by simp)
  have y0 : w1.cell? ⟨w.heap.size + 1, 0, none⟩ = some (.int .i64 1) := HY.out.cell (j := 0) (by simp)
  have y1 : w1.cell? ⟨w.heap.size + 1, 1, none⟩ = some (.int .i64 0) := HY.out.cell (j := 1) (by simp)
  have y2 : w1.cell? ⟨w.heap.size + 1, 2, none⟩ = some (.string ⟨#[]⟩) := HY.out.cell (j := 2) (by simp)
  have y3 : w1.cell? ⟨w.heap.size + 1, 3, none⟩ = some (.int .i64 st.kind) := HY.out.cell (j := 3) (by simp)
  have y4 : w1.cell? ⟨w.heap.size + 1, 4, none⟩ = some (.int .i64 st.fn) := HY.out.cell (j := 4) (by simp)
  have y5 : w1.cell? ⟨w.heap.size + 1, 5, none⟩ = some (.int .i64 st.line) := HY.out.cell (j := 5) (by simp)
  have y6 : w1.cell? ⟨w.heap.size + 1, 6, none⟩ = some (.string st.nm) := HY.out.cell (j := 6) (by simp)
  cases b with
  | false =>
    go_wp2_with fail
    go_ret
    exact ⟨ret_bool (by rw [HA.out]; simp), HL.out⟩
  | true =>
    clear hb
    go_wp2_with fail
    all_goals
      go_ret
      refine ⟨ret_bool ?_, HL.out⟩
      go_tidy
      rw [HA.out]
      unfold noS
      grind [inB, List.isEmpty_iff]
theorem askOk_calls (a : PAsk) (w : World) (hz : a.nm.size ≤ 9223372036854775807) :
    Calls Tryz.prog 40 #[.agg #[.int .i64 a.op, .int .i64 a.n, .string a.nm, .int .i64 a.stop.kind, .int .i64 a.stop.fn, .int .i64 a.stop.line, .string a.stop.nm]] w fun e w' => e = .returned (.bool (askOk a)) ∧ Below w.heap.size w w' := by
  by_cases h1 : a.op = 1
  · exact askOk_1 a w h1 hz
  by_cases h2 : a.op = 2
  · exact askOk_2 a w h2 hz
  by_cases h3 : a.op = 13
  · exact askOk_13 a w h3 hz
  by_cases h9 : a.op = 9
  · exact askOk_9 a w h9 hz
  by_cases h10 : a.op = 10
  · exact askOk_10 a w h10 hz
  by_cases h12 : a.op = 12
  · exact askOk_12 a w h12 hz
  exact askOk_else a w h1 h2 h3 h9 h10 h12 hz
end Go.Proofs.YtcklnjjbhngbcaaGreatDoor
