/- FnExactTraceOk's walk. -/
import Derived.Test.YtcklnjjbhngbcaaT7
import Derived.Test.YtcklnjjbhngbcaaI3
import Derived.Test.YtcklnjjbhngbcaaL4
import Derived.Deep.RegionHeld3
namespace Go.Proofs.Ytcklnjjbhngbcaa
open Go.RowKit Go.Proofs.Lens Go.ChangeShapes Go.WideShapes

theorem held_tr {w W W' : World} {a1 a2 a3 a4 : Addr} {v1 v2 v3 v4 : Value} (h : Below w.heap.size w W ∧ W.cell? a1 = some v1 ∧ W.cell? a2 = some v2 ∧ W.cell? a3 = some v3 ∧ W.cell? a4 = some v4) (hb : Below W.heap.size W W') :
    Below w.heap.size w W' ∧ W'.cell? a1 = some v1 ∧ W'.cell? a2 = some v2 ∧ W'.cell? a3 = some v3 ∧ W'.cell? a4 = some v4 :=
  ⟨bl_then h.1 hb, cell_later hb h.2.1, cell_later hb h.2.2.1, cell_later hb h.2.2.2.1, cell_later hb h.2.2.2.2⟩
theorem held_bl {w W : World} {a1 a2 a3 a4 : Addr} {v1 v2 v3 v4 : Value} (h : Below w.heap.size w W ∧ W.cell? a1 = some v1 ∧ W.cell? a2 = some v2 ∧ W.cell? a3 = some v3 ∧ W.cell? a4 = some v4) : Below w.heap.size w W := h.1
set_option maxRecDepth 100000 in
set_option maxHeartbeats 2000000 in
theorem traceOk_law (v1 v2 : Value) (t : PTr) (w : World) (hr : RdTr w v1 v2 t) (hz : szTr t) :
    Calls Try.prog 9 #[.agg #[v1, v2]] w fun e w' => e = .returned (.bool true) ∧ Below w.heap.size w w' := by
  have HT := Lib.hid hr
  have HZ := Lib.hid hz
  obtain ⟨⟨A1, c1, rfl, hn1, -⟩, ⟨vv, ⟨A2, c2, rfl, hn2, -⟩, -⟩⟩ := hr
  clear hz
  go_enter Try.func9, Try.ntmps9
  go_wp2_with fail
  refine (szTrace_calls _ _ t _ _ (HT.out.later (by repeat (with_reducible first | exact Below.refl _ _ | exact HL.out | refine bl_drewN ?_ _ | refine bl_drew ?_ | refine bl_alloc ?_ _ | refine bl_set ?_ (by dsimp only; omega) _))) HZ.out (by omega) (by omega)).mono ?_; rintro e w1 ⟨r, rfl, hr, hb⟩
  have HB := Lib.hid (bl_then (bl_alloc (Below.refl _ w) _) hb)
  have HX := Lib.hid ((BoxAt.new w [.slice A1 t.fns.length c1, .slice A2 t.moms.length c2] 64).later hb)
  clear hb
  rcases hr with hr | ⟨hr, -, hsm⟩
  · go_wp2
    go_ret
    exact ⟨rfl, HB.out⟩
  · have HS := Lib.hid hsm
    clear hsm
    obtain ⟨x0, x1⟩ := HX.out.open2
    go_wp2_with fail
    clear x0 x1
    refine (copyTrace_calls _ _ t _ (HT.out.later HB.out) HS.out).mono ?_; rintro e w2 ⟨B1, d1, B2, d2, rfl, hr2, hb⟩
    have HR := Lib.hid hr2
    clear hr2
    replace HB := Lib.hid (bl_then HB.out hb); replace HX := Lib.hid (HX.out.later hb); clear hb
    go_wp2_with fail
    refine (spec_TraceOk_calls _ _ t _ HR.out HS.out).mono ?_; rintro e w3 ⟨rfl, hb⟩
    have hz3 := hb.size
    replace HB := Lib.hid (bl_then HB.out hb); replace HX := Lib.hid (HX.out.later hb); clear hb
    obtain ⟨x0, x1⟩ := HX.out.open2
    have s0 := World.block_lt_of_cell? _ _ x0
    go_wp2_with fail
    clear x0 x1 s0 hz3
    refine (copyTrace_calls _ _ t _ (HT.out.later (bl_alloc HB.out _)) HS.out).mono ?_; rintro e w4 ⟨C1, e1, C2, e2, rfl, hr4, hb⟩
    have HF := Lib.hid ((BoxAt.new w3 [.int .i64 (faultP t).1, .int .i64 (faultP t).2] 67).later hb)
    replace hb := bl_then (bl_alloc (Below.refl _ w3) _) hb
    replace HB := Lib.hid (bl_then HB.out hb); replace HX := Lib.hid (HX.out.later hb); clear hb
    have HR4 := Lib.hid hr4
    clear hr4
    go_wp2_with fail
    refine (impl_TraceOk_calls _ _ t _ (HR4.out.later (by repeat (with_reducible first | exact Below.refl _ _ | exact HL.out | refine bl_drewN ?_ _ | refine bl_drew ?_ | refine bl_alloc ?_ _ | refine bl_set ?_ (by dsimp only; omega) _))) HS.out).mono ?_; rintro e w5 ⟨rfl, hb⟩
    have HY := Lib.hid ((BoxAt.new w4 [.slice C1 t.fns.length e1, .slice C2 t.moms.length e2] 35).later hb)
    replace hb := bl_then (bl_alloc (Below.refl _ w4) _) hb
    replace HB := Lib.hid (bl_then HB.out hb); replace HX := Lib.hid (HX.out.later hb); replace HF := Lib.hid (HF.out.later hb); replace HR4 := Lib.hid (HR4.out.later hb); clear hb
    obtain ⟨x0, x1⟩ := HX.out.open2
    obtain ⟨y0, y1⟩ := HY.out.open2
    obtain ⟨f0, f1⟩ := HF.out.open2
    have s0 := World.block_lt_of_cell? _ _ x0
    have s1 := World.block_lt_of_cell? _ _ y0
    have s2 := World.block_lt_of_cell? _ _ f0
    go_wp2_with fail
    clear x0 x1 y0 y1 f0 f1 s0 s1 s2
    refine (eqFault_calls _ _ _).mono ?_; rintro e w6 ⟨rfl, hb⟩
    replace hb := bl_then (bl_alloc (Below.refl _ w5) _) hb
    replace HB := Lib.hid (bl_then HB.out hb); replace HX := Lib.hid (HX.out.later hb); replace HY := Lib.hid (HY.out.later hb); replace HR4 := Lib.hid (HR4.out.later hb); clear hb
    obtain ⟨x0, x1⟩ := HX.out.open2
    obtain ⟨y0, y1⟩ := HY.out.open2
    go_wp2_with fail
    go_region_held3 (fun w' : World => Below w6.heap.size w6 w' ∧ w'.cell? ⟨w4.heap.size, 0, none⟩ = some (.slice C1 t.fns.length e1) ∧ w'.cell? ⟨w4.heap.size, 1, none⟩ = some (.slice C2 t.moms.length e2) ∧
        w'.cell? ⟨w.heap.size, 0, none⟩ = some (.slice A1 t.fns.length c1) ∧ w'.cell? ⟨w.heap.size, 1, none⟩ = some (.slice A2 t.moms.length c2))
      (first | exact ⟨bl_drew (Below.refl _ _), y0, y1, x0, x1⟩ | exact held_tr ‹_› hb7)
      (first | (go_at_call 46; refine (copyTrace_calls _ _ t _ ((HT.out.later HB.out).later (held_bl ‹_›)) HS.out).mono ?_; rintro e w7 ⟨G1, h1, G2, h2, rfl, hr7, hb7⟩) | (go_at_call 49; refine (eqTrace_calls _ _ _ _ t _ (HR4.out.later (held_bl ‹_›)) hr7).mono ?_; rintro e w8 ⟨rfl, hb7⟩))
    go_wp2
    go_ret
    exact ⟨rfl, bl_then HB.out (held_bl ‹_›)⟩

set_option maxRecDepth 100000 in
theorem traceOk_walk (H : Type) (enc : TypeId × Value → H) (W : World) (base : Nat) (args : Array Value) (ds : List (DataW H)) (ps : List MemPlace)
    (hval : ∀ (j : Nat) t v, Try.f9.params[j]? = some t → args[j]? = some v → Value.okWide Try.prog W .any base t v)
    (h : DataW.TrodAll enc Try.prog W 0 (fun _ => true) true Try.f9.params.toList args.toList ds ps) :
    Calls Try.prog 9 args W fun e W' => e = .returned (.bool true) ∧ Below W.heap.size W W' := by
  rw [Try.params9] at h hval
  obtain ⟨v0, d0, ha, _, h0⟩ := trodAll_one h
  have ha' : args = #[v0] := by simpa using ha
  subst ha'
  obtain ⟨v1, v2, t, rfl, hr, hz⟩ := rd_trace (hval 0 _ _ rfl rfl) h0
  exact traceOk_law v1 v2 t W hr hz
end Go.Proofs.Ytcklnjjbhngbcaa
