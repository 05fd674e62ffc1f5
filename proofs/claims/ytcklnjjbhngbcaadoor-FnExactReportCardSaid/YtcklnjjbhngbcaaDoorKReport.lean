/- FnExactReport's walk. -/
import Derived.Test.YtcklnjjbhngbcaaDoorD2
import Derived.Test.YtcklnjjbhngbcaaDoorD3
import Derived.Test.YtcklnjjbhngbcaaDoorL8
import Derived.Deep.RegionHeld3
namespace Go.Proofs.YtcklnjjbhngbcaaDoor
open Go.RowKit Go.Proofs.Lens Go.ChangeShapes Go.WideShapes

set_option maxRecDepth 100000 in
set_option maxHeartbeats 4000000 in
theorem report_law (v1 v2 : Value) (t : PTr) (w : World) (hr : RdTr w v1 v2 t) (hz : szTr t) (htab : Lib.TabBelow Tryd.prog w.heap.size w "internal/strconv.uint64pow10" .u64 Lib.pow10Tab) :
    Calls Tryd.prog 3 #[.agg #[v1, v2]] w fun e w' => e = .returned (.bool true) ∧ Below w.heap.size w w' := by
  have HT := Lib.hid hr
  have HZ := Lib.hid hz
  have HTB := Lib.hid htab
  obtain ⟨⟨A1, c1, rfl, hn1, -⟩, ⟨vv, ⟨A2, c2, rfl, hn2, -⟩, -⟩⟩ := hr
  clear hz htab
  go_enter Tryd.func3, Tryd.ntmps3
  go_wp2_with fail
  refine (szTrace_calls _ _ t _ _ (HT.out.later (by repeat (with_reducible first | exact Below.refl _ _ | exact HL.out | refine bl_drewN ?_ _ | refine bl_drew ?_ | refine bl_alloc ?_ _ | refine bl_set ?_ (by dsimp only; omega) _))) HZ.out (by omega) (by omega)).mono ?_; rintro e w1 ⟨r, rfl, hr, hb⟩
  have HB := Lib.hid (bl_then (bl_alloc (Below.refl _ w) _) hb)
  have HX := Lib.hid ((BoxAt.new w [.slice A1 t.fns.length c1, .slice A2 t.moms.length c2] 25).later hb)
  clear hb
  rcases hr with hr | ⟨hr, -, hsm⟩
  · go_wp2
    go_ret
    exact ⟨rfl, HB.out⟩
  · have HS := Lib.hid hsm
    clear hsm
    obtain ⟨x0, x1⟩ := HX.out.open2
    go_wp2_with fail
    clear x0 x1
    refine (copyTrace_calls _ _ t _ (HT.out.later HB.out) HS.out).mono ?_; rintro e w2 ⟨B1, d1, B2, d2, rfl, hr2, hb⟩
    have HR := Lib.hid hr2
    clear hr2
    replace HB := Lib.hid (bl_then HB.out hb); replace HX := Lib.hid (HX.out.later hb); clear hb
    go_wp2_with fail
    refine (spec_Report_calls _ _ t _ HR.out HS.out).mono ?_; rintro e w3 ⟨rfl, hb⟩
    replace HB := Lib.hid (bl_then HB.out hb); replace HX := Lib.hid (HX.out.later hb); clear hb
    clear HR
    have HIR := Lib.hid (fun (v1 v2 : Value) (W : World) (h : RdTr W v1 v2 t) (ht : Lib.TabBelow Tryd.prog W.heap.size W "internal/strconv.uint64pow10" .u64 Lib.pow10Tab) => impl_Report_calls v1 v2 t W h HS.out ht)
    generalize (⟨(repP t).toArray⟩ : ByteArray) = S at HIR ⊢
    obtain ⟨x0, x1⟩ := HX.out.open2
    go_wp2_with fail
    clear x0 x1
    refine (copyTrace_calls _ _ t _ (HT.out.later HB.out) HS.out).mono ?_; rintro e w4 ⟨C1, e1, C2, e2, rfl, hr4, hb⟩
    have HR4 := Lib.hid hr4
    clear hr4
    replace HB := Lib.hid (bl_then HB.out hb); replace HX := Lib.hid (HX.out.later hb); clear hb
    go_wp2_with fail
    have HTW : Hid (Lib.TabBelow Tryd.prog (w4.alloc (.cells #[.slice C1 t.fns.length e1, .slice C2 t.moms.length e2] 30)).heap.size (w4.alloc (.cells #[.slice C1 t.fns.length e1, .slice C2 t.moms.length e2] 30)) "internal/strconv.uint64pow10" .u64 Lib.pow10Tab) := Lib.hid (fun W' h' => HTB.out W' (bl_then (bl_alloc HB.out _) h'))
    refine (HIR.out _ _ _ (HR4.out.later (by repeat (with_reducible first | exact Below.refl _ _ | exact HL.out | refine bl_drewN ?_ _ | refine bl_drew ?_ | refine bl_alloc ?_ _ | refine bl_set ?_ (by dsimp only; omega) _))) HTW.out).mono ?_; rintro e w6 ⟨rfl, hb⟩
    have HY := Lib.hid ((BoxAt.new w4 [.slice C1 t.fns.length e1, .slice C2 t.moms.length e2] 30).later hb)
    replace hb := bl_then (bl_alloc (Below.refl _ w4) _) hb
    clear HTW HIR
    replace HB := Lib.hid (bl_then HB.out hb); replace HX := Lib.hid (HX.out.later hb); replace HR4 := Lib.hid (HR4.out.later hb); clear hb
    obtain ⟨x0, x1⟩ := HX.out.open2
    obtain ⟨y0, y1⟩ := HY.out.open2
    go_wp2_with fail
    go_region_held3 (fun w' : World => Below w6.heap.size w6 w' ∧ w'.cell? ⟨w4.heap.size, 0, none⟩ = some (.slice C1 t.fns.length e1) ∧ w'.cell? ⟨w4.heap.size, 1, none⟩ = some (.slice C2 t.moms.length e2) ∧
        w'.cell? ⟨w.heap.size, 0, none⟩ = some (.slice A1 t.fns.length c1) ∧ w'.cell? ⟨w.heap.size, 1, none⟩ = some (.slice A2 t.moms.length c2))
      (first | exact ⟨bl_drew (Below.refl _ _), y0, y1, x0, x1⟩ | exact held_tr' ‹_› hb7)
      (first | (go_at_call 6; refine (copyTrace_calls _ _ t _ ((HT.out.later HB.out).later (held_bl' ‹_›)) HS.out).mono ?_; rintro e w7' ⟨G1, h1, G2, h2, rfl, hr7, hb7⟩) | (go_at_call 8; refine (eqTrace_calls _ _ _ _ t _ (HR4.out.later (held_bl' ‹_›)) hr7).mono ?_; rintro e w8 ⟨rfl, hb7⟩))
    have hb : Below w6.heap.size w6 w8 := held_bl' ‹_›
    clear x0 x1 y0 y1 hr7 hb7
    replace HB := Lib.hid (bl_then HB.out hb); clear hb
    go_wp2
    go_ret
    exact ⟨rfl, HB.out⟩
end Go.Proofs.YtcklnjjbhngbcaaDoor
