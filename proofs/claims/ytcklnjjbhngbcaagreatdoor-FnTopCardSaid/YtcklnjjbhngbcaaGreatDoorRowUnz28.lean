/- Lemmas and contracts of functions that the theorem of this claim leans on (texts G3). -/
import Derived.Test.YtcklnjjbhngbcaaGreatDoorRowUnz25
import Derived.Test.YtcklnjjbhngbcaaGreatDoorRowUnz27
namespace Go.Proofs.YtcklnjjbhngbcaaGreatDoor
open Go.RowKit Go.Proofs.Lens

theorem IsS.mvG {w w' : World} {lo lo' g T : Nat} {s : PS} {f : Nat → Value} {ts : List TypeId} (h : IsS w lo g T s f) (hm : Mv ts lo' w w') (h1 : 161 ∉ ts) (h2 : 35 ∉ ts) (h3 : 42 ∉ ts) : IsS w' lo g T s f :=
  ⟨h.lo1, h.lo2, h.blk.mv hm h1, h.tb.mv hm h2, fun i hi => (h.row i hi).mv hm h3, h.ne⟩
/-- The cells of a moment's box. -/
def mF (m : PMom) (vx : Value) (j : Nat) : Value := (momV m vx).getD j undef
theorem mbox_new (W : World) : Blk (W.alloc (.cells #[.int .i64 0, .int .i64 0, .int .i64 0, .int .i64 0, .string eT, .slice none 0 0] 114)) W.heap.size 114 6 (mF ⟨0, 0, 0, 0, eT, []⟩ (.slice none 0 0)) :=
  (Blk.made W #[.int .i64 0, .int .i64 0, .int .i64 0, .int .i64 0, .string eT, .slice none 0 0] 114).congr fun j hj => by
    have hj : j < 6 := hj
    match j, hj with
    | 0, _ => rfl
    | 1, _ => rfl
    | 2, _ => rfl
    | 3, _ => rfl
    | 4, _ => rfl
    | 5, _ => rfl
theorem mF_store {w : World} {mb : Nat} {F : Nat → Value} (h : Blk w mb 114 6 F) (m : PMom) (vx : Value) :
    Blk ((((((w.setCell ⟨mb, 0, none⟩ (.int .i64 m.kind)).setCell ⟨mb, 1, none⟩ (.int .i64 m.task)).setCell ⟨mb, 2, none⟩ (.int .i64 m.fn)).setCell ⟨mb, 3, none⟩ (.int .i64 m.line)).setCell ⟨mb, 4, none⟩ (.string m.text)).setCell ⟨mb, 5, none⟩ vx)
      mb 114 6 (mF m vx) :=
  ((((((h.set (j := 0) (by omega) _).set (j := 1) (by omega) _).set (j := 2) (by omega) _).set (j := 3) (by omega) _).set (j := 4) (by omega) _).set (j := 5) (by omega) _).congr fun j hj => by
    match j, hj with
    | 0, _ => rfl
    | 1, _ => rfl
    | 2, _ => rfl
    | 3, _ => rfl
    | 4, _ => rfl
    | 5, _ => rfl
/-- Six stores into a block that is new. -/
theorem mv_six {ts : List TypeId} {lo mb : Nat} {w W : World} (h : Mv ts lo w W) (hl : lo ≤ mb) (hw : w.heap.size ≤ mb) (u0 u1 u2 u3 u4 u5 : Value) :
    Mv ts lo w ((((((W.setCell ⟨mb, 0, none⟩ u0).setCell ⟨mb, 1, none⟩ u1).setCell ⟨mb, 2, none⟩ u2).setCell ⟨mb, 3, none⟩ u3).setCell ⟨mb, 4, none⟩ u4).setCell ⟨mb, 5, none⟩ u5) :=
  (((((h.setNew hl hw _).setNew hl hw _).setNew hl hw _).setNew hl hw _).setNew hl hw _).setNew hl hw _
theorem mv_sixT {lo mb : Nat} {W : World} {F : Nat → Value} (hB : Blk W mb 114 6 F) (hl : lo ≤ mb) (u0 u1 u2 u3 u4 u5 : Value) :
    Mv [114] lo W ((((((W.setCell ⟨mb, 0, none⟩ u0).setCell ⟨mb, 1, none⟩ u1).setCell ⟨mb, 2, none⟩ u2).setCell ⟨mb, 3, none⟩ u3).setCell ⟨mb, 4, none⟩ u4).setCell ⟨mb, 5, none⟩ u5) := by
  have b1 := hB.set (j := 0) (by omega) u0
  have b2 := b1.set (j := 1) (by omega) u1
  have b3 := b2.set (j := 2) (by omega) u2
  have b4 := b3.set (j := 3) (by omega) u3
  have b5 := b4.set (j := 4) (by omega) u4
  have hi : 114 ∈ [114] := List.mem_singleton.2 rfl
  exact ((((((Mv.refl [114] lo W).set (p := ⟨mb, 0, none⟩) hl hB hi u0).set (p := ⟨mb, 1, none⟩) hl b1 hi u1).set (p := ⟨mb, 2, none⟩) hl b2 hi u2).set (p := ⟨mb, 3, none⟩) hl b3 hi u3).set (p := ⟨mb, 4, none⟩) hl b4 hi u4).set (p := ⟨mb, 5, none⟩) hl b5 hi u5
/-- A moment's box under way, the choices, and what has turned since wr. -/
structure BxSt (ts : List TypeId) (wb wr W : World) (lo g : Nat) (cv : Value) (mb : Nat) (m : PMom) (vx : Value) (c : Cu) : Prop where
  hg : g ≤ mb
  hm : wr.heap.size ≤ mb
  hb : wb.heap.size ≤ mb
  blk : Blk W mb 114 6 (mF m vx)
  va : OwR W lo 40 2 m.vars.length (varC m.vars) vx
  cu : CuAt W g cv c
  mv : Mv ts g wr W
  m0 : Mv [72] g wb W
section
variable {ts : List TypeId} {wb wr W : World} {lo g : Nat} {cv : Value} {mb : Nat} {m : PMom} {vx : Value} {c : Cu}
theorem BxSt.setG (h : BxSt ts wb wr W lo g cv mb m vx c) {j : Nat} (hj : j < 6) (u : Value) (m' : PMom) (hv : m'.vars = m.vars) (hF : ∀ i, i < 6 → upd (mF m vx) j u i = mF m' vx i) : BxSt ts wb wr (W.setCell ⟨mb, j, none⟩ u) lo g cv mb m' vx c :=
  ⟨h.hg, h.hm, h.hb, (h.blk.set hj u).congr hF, by rw [hv]; exact h.va.other h.blk (by decide) j u, ⟨h.cu.blk.mv ((Mv.refl [114] 0 W).set (p := ⟨mb, j, none⟩) (Nat.zero_le _) h.blk (List.mem_singleton.2 rfl) u) (by decide), h.cu.sd⟩, h.mv.setNew h.hg h.hm u, h.m0.setNew h.hg h.hb u⟩
theorem BxSt.kind (h : BxSt ts wb wr W lo g cv mb m vx c) (k : Int) : BxSt ts wb wr (W.setCell ⟨mb, 0, none⟩ (.int .i64 k)) lo g cv mb ⟨k, m.task, m.fn, m.line, m.text, m.vars⟩ vx c :=
  h.setG (by omega) _ _ rfl fun i hi => by match i, hi with | 0, _ => rfl | 1, _ => rfl | 2, _ => rfl | 3, _ => rfl | 4, _ => rfl | 5, _ => rfl
theorem BxSt.task (h : BxSt ts wb wr W lo g cv mb m vx c) (k : Int) : BxSt ts wb wr (W.setCell ⟨mb, 1, none⟩ (.int .i64 k)) lo g cv mb ⟨m.kind, k, m.fn, m.line, m.text, m.vars⟩ vx c :=
  h.setG (by omega) _ _ rfl fun i hi => by match i, hi with | 0, _ => rfl | 1, _ => rfl | 2, _ => rfl | 3, _ => rfl | 4, _ => rfl | 5, _ => rfl
theorem BxSt.fn (h : BxSt ts wb wr W lo g cv mb m vx c) (k : Int) : BxSt ts wb wr (W.setCell ⟨mb, 2, none⟩ (.int .i64 k)) lo g cv mb ⟨m.kind, m.task, k, m.line, m.text, m.vars⟩ vx c :=
  h.setG (by omega) _ _ rfl fun i hi => by match i, hi with | 0, _ => rfl | 1, _ => rfl | 2, _ => rfl | 3, _ => rfl | 4, _ => rfl | 5, _ => rfl
theorem BxSt.line (h : BxSt ts wb wr W lo g cv mb m vx c) (k : Int) : BxSt ts wb wr (W.setCell ⟨mb, 3, none⟩ (.int .i64 k)) lo g cv mb ⟨m.kind, m.task, m.fn, k, m.text, m.vars⟩ vx c :=
  h.setG (by omega) _ _ rfl fun i hi => by match i, hi with | 0, _ => rfl | 1, _ => rfl | 2, _ => rfl | 3, _ => rfl | 4, _ => rfl | 5, _ => rfl
theorem BxSt.text (h : BxSt ts wb wr W lo g cv mb m vx c) (k : ByteArray) : BxSt ts wb wr (W.setCell ⟨mb, 4, none⟩ (.string k)) lo g cv mb ⟨m.kind, m.task, m.fn, m.line, k, m.vars⟩ vx c :=
  h.setG (by omega) _ _ rfl fun i hi => by match i, hi with | 0, _ => rfl | 1, _ => rfl | 2, _ => rfl | 3, _ => rfl | 4, _ => rfl | 5, _ => rfl
theorem BxSt.pick {W' : World} {c' : Cu} (h : BxSt [72] wb wr W lo g cv mb m vx c) (hc : CuAt W' g cv c') (hm : Mv [72] g W W') : BxSt [72] wb wr W' lo g cv mb m vx c' :=
  ⟨h.hg, h.hm, h.hb, h.blk.mv hm (by decide), h.va.mv hm (by decide), hc, h.mv.trans hm, h.m0.trans hm⟩
theorem BxSt.later {W' : World} (h : BxSt ts wb wr W lo g cv mb m vx c) (hb : Below W.heap.size W W') : BxSt ts wb wr W' lo g cv mb m vx c :=
  ⟨h.hg, h.hm, h.hb, h.blk.later hb, h.va.later hb, h.cu.later hb, h.mv.trans (Mv.of_below hb (Nat.le_of_lt h.cu.blk.lt)), h.m0.trans (Mv.of_below hb (Nat.le_of_lt h.cu.blk.lt))⟩
theorem BxSt.wide (h : BxSt [72] wb wr W lo g cv mb m vx c) : BxSt [72, 3] wb wr W lo g cv mb m vx c :=
  ⟨h.hg, h.hm, h.hb, h.blk, h.va, h.cu, h.mv.mono (by simp), h.m0⟩
theorem BxSt.ints {W' : World} {lo' : Nat} (h : BxSt [72] wb wr W lo g cv mb m vx c) (hl : g ≤ lo') (hm : Mv [3] lo' W W') (h0 : Mv [72] g wb W') : BxSt [72, 3] wb wr W' lo g cv mb m vx c :=
  ⟨h.hg, h.hm, h.hb, h.blk.mv hm (by decide), h.va.mv hm (by decide), h.cu.mv hm (by decide), (h.mv.mono (by simp)).trans ((hm.mono (by simp)).lower hl), h0⟩
theorem BxSt.cells (h : BxSt ts wb wr W lo g cv mb m vx c) : W.cell? ⟨mb, 0, none⟩ = some (.int .i64 m.kind) ∧ W.cell? ⟨mb, 1, none⟩ = some (.int .i64 m.task) ∧ W.cell? ⟨mb, 2, none⟩ = some (.int .i64 m.fn) ∧ W.cell? ⟨mb, 3, none⟩ = some (.int .i64 m.line) ∧
    W.cell? ⟨mb, 4, none⟩ = some (.string m.text) ∧ W.cell? ⟨mb, 5, none⟩ = some vx ∧ W.frozen? ⟨mb, 0, none⟩ = false ∧ W.frozen? ⟨mb, 1, none⟩ = false ∧ W.frozen? ⟨mb, 2, none⟩ = false ∧ W.frozen? ⟨mb, 3, none⟩ = false ∧ W.frozen? ⟨mb, 4, none⟩ = false :=
  ⟨h.blk.cell (j := 0) (by omega), h.blk.cell (j := 1) (by omega), h.blk.cell (j := 2) (by omega), h.blk.cell (j := 3) (by omega), h.blk.cell (j := 4) (by omega), h.blk.cell (j := 5) (by omega), h.blk.free 0, h.blk.free 1, h.blk.free 2, h.blk.free 3, h.blk.free 4⟩
end
theorem i_int' : (Tryz.prog.info? 3).map (fun i => (i.zero, i.size, i.bytes)) = some (some (.int .i64 0), 1, 8) := by kernel_rfl
theorem intC_last' (r : List Int) (x : Int) (j : Nat) : intC (r ++ [x]) r.length j = .int .i64 x := by
  unfold intC
  rw [elt_eq (by simp)]; simp
theorem intC_old' (r : List Int) (x : Int) {i : Nat} (hi : i < r.length) (j : Nat) : intC (r ++ [x]) i j = intC r i j := by
  unfold intC
  rw [elt_eq (by simp; omega), elt_eq hi, List.getElem_append_left hi]
def fixB (s : PS) (m : PMom) : Bool := match s.top with | [] => decide (m.kind = 1) | _ :: _ => false
theorem fixM_eq (s : PS) (m : PMom) : fixM s m = if fixB s m = true then ⟨2, m.task, 1, m.line, m.text, m.vars⟩ else m := by
  unfold fixM fixB
  cases s.top with
  | nil => simp
  | cons f r => simp
/-- What turned since then is new. -/
theorem mv_new {ts : List TypeId} {lo : Nat} {w W W' : World} (h : Mv ts lo w W) (hl : lo ≤ w.heap.size) (k : Below w.heap.size W W') : Mv ts lo w W' :=
  ⟨⟨k.os.trans h.bl.os, k.tape.trans h.bl.tape, k.output.trans h.bl.output, Nat.le_trans h.bl.size k.size, fun j hj => (k.block j (by omega)).trans (h.bl.block j hj)⟩,
    fun b o hb hn => by rw [k.block b (Array.getElem?_eq_some_iff.1 hb).1]; exact h.kp b o hb hn⟩
theorem hM_far0 {w : World} {lo g N : Nat} {v : Value} {ms : List PMom} {F : Nat → Value} (h : BMoms w lo v ms) (hX : Blk w g 26 N F) (j : Nat) (_hj : j < N) (u : Value) : BMoms (w.setCell ⟨g, j, none⟩ u) lo v ms :=
  h.mv ((Mv.refl [26] 0 w).set (p := ⟨g, j, none⟩) (Nat.zero_le _) hX (List.mem_singleton.2 rfl) u) (by decide) (by decide)
def strsF (j : Nat) : Value := #[Value.string ⟨#[109, 97, 105, 110]⟩, .string ⟨#[102]⟩, .string ⟨#[]⟩, .string ⟨#[103]⟩].getD j undef

set_option maxRecDepth 100000 in
set_option maxHeartbeats 40000000 in
theorem trace_calls (w0 : World) (g : Nat) (cv : Value) (code : List Nat) (c : Cu) (n : Nat) (w : World) (hr : RdBytes w0 cv code) (hg : w0.heap.size ≤ g) (hb0 : Below w0.heap.size w0 w) (h : CuAt w g cv c) (hp : c.pos ≤ 10000000) (hn : n ≤ 89) (hcode : code.length ≤ 1048576) :
    Calls Tryz.prog 34 #[.pointer (some ⟨g, 0, none⟩), .int .i64 n] w fun e w' => ∃ gs v2, e = .returned (.agg #[.slice (some ⟨gs, 0, none⟩) 4 4, v2]) ∧ w.heap.size ≤ gs ∧ Blk w' gs 9 4 strsF ∧ BMoms w' w.heap.size v2 (trEnd code c n).ms ∧
      CuAt w' g cv (trEnd code c n).c ∧ (trEnd code c n).c.pos ≤ 200000000000000000 ∧ Mv [72] g w w' := by
  have HR := Lib.hid hr
  have HC := Lib.hid h
  have HB0 := Lib.hid hb0
  have hgw : g < w.heap.size := h.blk.lt
  obtain ⟨g0, hg0⟩ := pot_ex code n (ts0 c)
  have hgl := pot_le hcode hn hg0
  have HP0 := Lib.hid hg0
  clear h hr hb0 hg0
  go_enter Tryz.func34, Tryz.ntmps34
  go_wp2_with fail
  have hX0 := ((Blk.made w #[.slice none 0 0, .slice none 0 0] 26).alloc (.cells #[.string ⟨#[109, 97, 105, 110]⟩, .string ⟨#[102]⟩, .string ⟨#[]⟩, .string ⟨#[103]⟩] 9)).alloc (.cells #[.slice (some ⟨w.heap.size + 1, 0, none⟩) 4 4, .slice none 0 0] 26)
  have hX0 := hX0.congr (f' := trF (.slice none 0 0) (.slice none 0 0)) fun j hj => by match j, hj with | 0, _ => rfl | 1, _ => rfl
  have hS0 := (Blk.made (w.alloc (.cells #[.slice none 0 0, .slice none 0 0] 26)) #[.string ⟨#[109, 97, 105, 110]⟩, .string ⟨#[102]⟩, .string ⟨#[]⟩, .string ⟨#[103]⟩] 9).alloc (.cells #[.slice (some ⟨w.heap.size + 1, 0, none⟩) 4 4, .slice none 0 0] 26)
  have hT0 := Blk.made ((w.alloc (.cells #[.slice none 0 0, .slice none 0 0] 26)).alloc (.cells #[.string ⟨#[109, 97, 105, 110]⟩, .string ⟨#[102]⟩, .string ⟨#[]⟩, .string ⟨#[103]⟩] 9)) #[.slice (some ⟨w.heap.size + 1, 0, none⟩) 4 4, .slice none 0 0] 26
  have hT0 := hT0.congr (f' := trF (.slice (some ⟨w.heap.size + 1, 0, none⟩) 4 4) (.slice none 0 0)) fun j hj => by match j, hj with | 0, _ => rfl | 1, _ => rfl
  simp only [World.size_alloc] at hS0 hT0
  have HX0 := Lib.hid hX0
  have HS0 := Lib.hid hS0
  have HT0 := Lib.hid hT0
  clear hX0 hS0 hT0
  generalize hW : World.alloc (World.alloc (World.alloc w _) _) _ = W0 at HX0 HS0 HT0 ⊢
  have hbw : Below w.heap.size w W0 := by rw [← hW]; exact bl_alloc (bl_alloc (bl_alloc (Below.refl _ _) _) _) _
  have HBW := Lib.hid hbw
  have hsz : W0.heap.size = w.heap.size + 3 := by rw [← hW]; simp
  have HSZ := Lib.hid hsz
  have hs0 : w.heap.size + 3 ≤ W0.heap.size := by omega
  clear hW hsz hbw
  refine (l1begin_calls W0).mono ?_; rintro e w1 ⟨gS, TS, f, rfl, hI, hb1⟩
  have hs1 := hb1.size
  have HI1 := Lib.hid (hI.lower (lo' := w.heap.size) (by omega))
  have HX1 := Lib.hid (HX0.out.later hb1)
  have HS1 := Lib.hid (HS0.out.later hb1)
  have HT1 := Lib.hid (HT0.out.later hb1)
  have HBW1 := Lib.hid (bl_then HBW.out hb1)
  have HC1 := Lib.hid (HC.out.later HBW1.out)
  clear hI hb1 HX0 HS0 HT0 HBW HC
  go_wp2_with fail
  have HW1 := Lib.hid (show OwR (w1.alloc (.cells #[] 3)) w.heap.size 3 1 (ts0 c).ws.length (intC (ts0 c).ws) (.slice (some ⟨w1.heap.size, 0, none⟩) 0 0) from
    .inr ⟨w1.heap.size, 0, _, rfl, by omega, Nat.le_refl _, by simp [maxLen], Blk.made w1 #[] 3, fun i hi => absurd hi (by simp [ts0])⟩)
  replace HI1 := Lib.hid (HI1.out.later (bl_alloc (Below.refl _ _) (.cells #[] 3)))
  replace HX1 := Lib.hid (HX1.out.later (bl_alloc (Below.refl _ _) (.cells #[] 3)))
  replace HS1 := Lib.hid (HS1.out.later (bl_alloc (Below.refl _ _) (.cells #[] 3)))
  replace HT1 := Lib.hid (HT1.out.later (bl_alloc (Below.refl _ _) (.cells #[] 3)))
  replace HBW1 := Lib.hid (bl_alloc HBW1.out (.cells #[] 3))
  replace HC1 := Lib.hid (HC1.out.later (bl_alloc (Below.refl _ _) (.cells #[] 3)))
  generalize hW2 : w1.alloc (.cells #[] 3) = W2 at HW1 HI1 HX1 HS1 HT1 HBW1 HC1 ⊢
  have hs2 : w.heap.size + 3 ≤ W2.heap.size := by rw [← hW2, World.size_alloc]; omega
  clear hW2
  go_loopg [7, 8] g0 (fun gk wv tv wr => ∃ (k : Nat) (vM : Value) (f : Nat → Value), tv = .int .i64 (trN code c n k).tk ∧ BMoms wr w.heap.size vM (trN code c n k).ms ∧ Blk wr (w.heap.size + 2) 26 2 (trF (.slice (some ⟨w.heap.size + 1, 0, none⟩) 4 4) vM) ∧
    Blk wr w.heap.size 26 2 (trF (.slice none 0 0) (.slice none 0 0)) ∧ Blk wr (w.heap.size + 1) 9 4 strsF ∧ IsS wr w.heap.size gS TS (stN (trN code c n k).ms (trN code c n k).ms.length) f ∧
    OwR wr w.heap.size 3 1 (trN code c n k).ws.length (intC (trN code c n k).ws) wv ∧ CuAt wr g cv (trN code c n k).c ∧ Mv [72] g w wr ∧ Pot code n (trN code c n k) gk ∧ (trN code c n k).c.pos + gk ≤ c.pos + g0 ∧ w.heap.size + 3 ≤ wr.heap.size)
  case atStart => exact ⟨0, _, f, rfl, BMoms.nil, HT1.out, HX1.out, HS1.out, HI1.out, HW1.out, HC1.out, Mv.of_below HBW1.out (by omega), HP0.out, Nat.le_refl _, hs2⟩
  case round =>
    obtain ⟨k, vM, f, rfl, hM, hT, hX, hS, hI, hW, hC, hmv, hpot, hpos, hsr⟩ := hrel
    clear HT1 HX1 HS1 HI1 HW1 HC1 HBW1 HP0
    have hdi := di_N code c n k
    have hwl := trN_wl code c n k
    have hle := trN_len code c n k
    have hnx : trN code c n (k + 1) = if (trN code c n k).ms.length < n then trStep code (trN code c n k) else trN code c n k := rfl
    have hend : n ≤ (trN code c n k).ms.length → trEnd code c n = trN code c n k := trEnd_is
    obtain ⟨T, hTT⟩ : ∃ T, trN code c n k = T := ⟨_, rfl⟩
    rw [hTT] at hM hI hW hC hpot hpos hdi hwl hle hnx hend ⊢
    have hinv := hdi.inv
    obtain ⟨s, hss⟩ : ∃ s, stN T.ms T.ms.length = s := ⟨_, rfl⟩
    rw [hss] at hI hinv
    have hft : 0 ≤ fnTop s ∧ fnTop s ≤ 3 := by rw [← hss]; exact hdi.fnT
    have hq0 := hinv.lo
    have hq1 := hinv.hi
    have hps : T.c.pos ≤ 200000000000000000 := by omega
    have hwl1 : T.ws.length ≤ 8 := by have := hdi.tk1; omega
    have htk0 := hdi.tk0
    have htk1 := hdi.tk1
    have HM := Lib.hid hM
    have HT := Lib.hid hT
    have HX := Lib.hid hX
    have HS := Lib.hid hS
    have HI := Lib.hid hI
    have HW := Lib.hid hW
    have HC := Lib.hid hC
    have HMV := Lib.hid hmv
    have HPOT := Lib.hid hpot
    have HDI := Lib.hid hdi
    have HSS := Lib.hid hss
    have HINV := Lib.hid hinv
    have HNX := Lib.hid hnx
    have HEND := Lib.hid hend
    have hwl := Lib.hid hwl
    obtain ⟨A3, c3x, rfl, -⟩ := hM.cap
    obtain ⟨A4, wc4, rfl, -⟩ := hW.cap
    have x1 : wr.cell? ⟨w.heap.size + 2, 1, none⟩ = some (.slice A3 T.ms.length c3x) := HT.out.cell (j := 1) (by omega)
    clear hM hT hX hS hI hW hC hmv hpot hdi hss hinv hnx hend hTT hX0 hT0
    by_cases hlt : T.ms.length < n
    · have hlt' : (T.ms.length : Int) < (n : Int) := by omega
      go_upto_region 6 with fail
      clear x1
      obtain ⟨fn, hfn⟩ : ∃ x, fnTop s = x := ⟨_, rfl⟩
      have EFN : Hid (fnP s = fn) := Lib.hid hfn
      rw [hfn] at hft
      have HFN := Lib.hid hfn
      have hl4 := pickP_lt code T.c (n := 4) (by omega)
      have hp1 := (pick_adv code (n := 4) (by omega) T.c).1
      obtain ⟨ln, hln⟩ : ∃ x, (pickP code 4 T.c).1 = x := ⟨_, rfl⟩
      obtain ⟨c1, hc1⟩ : ∃ x, (pickP code 4 T.c).2 = x := ⟨_, rfl⟩
      obtain ⟨vs, hvs⟩ : ∃ x, (varsP code c1).1 = x := ⟨_, rfl⟩
      obtain ⟨c2, hc2⟩ : ∃ x, (varsP code c1).2 = x := ⟨_, rfl⟩
      have hvl := varsP_len code c1
      obtain ⟨kv, hkv, hka⟩ := varsP_adv code c1
      have hp2 := hka.1
      have hraw : rawM code T = mkM code s ln vs (pickP code 14 c2).1 (pickP code 14 c2).2 T.ws T.tk := by
        unfold rawM kdP vrP lnP
        rw [hln, hc1, hvs, hc2, HSS.out]
      rw [hln] at hl4
      rw [hc1] at hp1
      rw [hvs] at hvl
      rw [hc2] at hp2
      have ELN := Lib.hid hln
      have EC1 := Lib.hid hc1
      have EVS := Lib.hid hvs
      have EC2 := Lib.hid hc2
      have HRAW := Lib.hid hraw
      clear hfn hln hc1 hvs hc2 hka hraw
      go_cut [9] (fun s9 wx => ∃ (mb : Nat) (Av : Option Addr) (cvx : Nat), s9 = .pointer (some ⟨mb, 0, none⟩) ∧ wr.heap.size ≤ mb ∧ Blk wx mb 114 6 (mF ⟨0, s.cur, fn, ln, eT, vs⟩ (.slice Av vs.length cvx)) ∧
        OwR wx w.heap.size 40 2 vs.length (varC vs) (.slice Av vs.length cvx) ∧ CuAt wx g cv c2 ∧ Mv [72] g wr wx)
      case first => as_aux_lemma =>
        have x1 : wr.drew.cell? ⟨gS, 1, none⟩ = some (.int .i64 s.cur) := HI.out.blk.cell (j := 1) (by omega)
        have HS0 := Lib.hid x1
        clear x1
        have HMV2 := Lib.hid ((Mv.refl [72] g wr).drew)
        have HCU := Lib.hid (HC.out.later (bl_drew (Below.refl _ _)))
        refine wp_region_F 12 (fun w' : World => w'.cell? ⟨gS, 1, none⟩ = some (.int .i64 s.cur)) (by kernel_rfl) ?_
        generalize hwD : wr.drew = wD at HMV2 HCU HS0 ⊢
        clear hwD
        refine wpAnyF_take 0 (v := ?v0A) (by rfl) (by kernel_rfl) (by intro _ _ _ h; exact h) HS0.out (by rfl) ?hy0A ?rest0A
        case hy0A =>
          intro w' hSw
          have s0 := id hSw
          clear hSw
          go_simp
          try with_reducible rfl
        simp only [Act.put, List.setIfInBounds_toArray]
        refine wpAnyF_take 1 (v := ?v1A) (by rfl) (by kernel_rfl) (by intro _ _ _ h; exact h) HS0.out (by rfl) ?hy1A ?rest1A
        case hy1A =>
          intro w' hSw
          have s0 := id hSw
          clear hSw
          go_simp
          try with_reducible rfl
        simp only [Act.put]
        refine wpAnyF_take 2 (v := ?v2A) (by rfl) (by kernel_rfl) (by intro _ _ _ h; exact h) HS0.out (by rfl) ?hy2A ?rest2A
        case hy2A =>
          intro w' hSw
          have s0 := id hSw
          clear hSw
          go_simp
          try with_reducible rfl
        simp only [Act.put]
        refine wpAnyF_take 3 (v := ?v3A) (by rfl) (by kernel_rfl) (by intro _ _ _ h; exact h) HS0.out (by rfl) ?hy3A ?rest3A
        case hy3A =>
          intro w' hSw
          have s0 := id hSw
          clear hSw
          go_simp
          try with_reducible rfl
        simp only [Act.put]
        refine wpAnyF_take 4 (v := ?v4A) (by rfl) (by kernel_rfl) (by intro _ _ _ h; exact h) HS0.out (by rfl) ?hy4A ?rest4A
        case hy4A =>
          intro w' hSw
          have s0 := id hSw
          clear hSw
          go_simp
          try with_reducible rfl
        simp only [Act.put]
        refine wpAnyF_take 6 (v := ?v6A) (by rfl) (by kernel_rfl) (by intro _ _ _ h; exact h) HS0.out (by rfl) ?hy6A ?rest6A
        case hy6A =>
          intro w' hSw
          have s0 := id hSw
          clear hSw
          go_simp
          try with_reducible rfl
        simp only [Act.put]
        refine wpAnyF_take 8 (v := ?v8A) (by rfl) (by kernel_rfl) (by intro _ _ _ h; exact h) HS0.out (by rfl) ?hy8A ?rest8A
        case hy8A =>
          intro w' hSw
          have s0 := id hSw
          clear hSw
          go_simp
          try with_reducible rfl
        simp only [Act.put]
        refine wpAnyF_two 5 11 (by rfl) (by rfl) (by kernel_rfl) rfl rfl ?_ ?_
        intro K hK
        go_simp
        refine (fn_calls _ gS TS s f _ (HI.out.mvG HMV2.out (by decide) (by decide) (by decide)) hq0 hq1).mono ?_
        rintro e wq1 ⟨rfl, hm2⟩
        have hbq : Below wD.heap.size wD wq1 := by
          obtain ⟨m2, rfl⟩ := hm2
          exact bl_drewN (Below.refl _ _) _
        rw [EFN.out]
        replace HMV2 := Lib.hid (HMV2.out.trans (Mv.of_below hbq (Nat.le_of_lt HCU.out.blk.lt)))
        replace HCU := Lib.hid (HCU.out.later hbq)
        dsimp only
        refine hK.out _ _ (fun _ => ((HI.out.mvG HMV2.out (by decide) (by decide) (by decide)).blk.cell (j := 1) (by omega))) ?_
        clear hK K hm2 hbq
        refine wpAnyF_two 7 11 (by rfl) (by rfl) (by kernel_rfl) rfl rfl ?_ ?_
        intro K hK
        go_simp
        have hbr : Below w0.heap.size w0 wq1 := bl_trans9 HB0.out (bl_low9 (HMV.out.trans HMV2.out).bl hg)
        refine (pick_calls g cv code T.c 4 _ (HR.out.later hbr) HCU.out (by omega) (by omega)).mono ?_; rintro e wq2 ⟨rfl, hC3, hm3⟩
        rw [ELN.out]
        rw [EC1.out] at hC3
        replace HMV2 := Lib.hid (HMV2.out.trans hm3)
        replace HCU := Lib.hid hC3
        dsimp only
        refine hK.out _ _ (fun _ => ((HI.out.mvG HMV2.out (by decide) (by decide) (by decide)).blk.cell (j := 1) (by omega))) ?_
        clear hK K hC3 hm3 hbr
        refine wpAnyF_two 9 11 (by rfl) (by rfl) (by kernel_rfl) rfl rfl ?_ ?_
        intro K hK
        go_simp
        have hbr : Below w0.heap.size w0 wq2 := bl_trans9 HB0.out (bl_low9 (HMV.out.trans HMV2.out).bl hg)
        refine (vars_calls w0 g cv code c1 _ HR.out hg hbr HCU.out (by omega)).mono ?_; rintro e wq3 ⟨vx, rfl, hV3, hC3, hm3⟩
        rw [EVS.out] at hV3
        rw [EC2.out] at hC3
        have hlv : w.heap.size ≤ wq2.heap.size := Nat.le_trans (by omega) HMV2.out.bl.size
        have HVX := Lib.hid (hV3.lower hlv)
        obtain ⟨Av, cvx, rfl, -⟩ := hV3.cap
        replace HMV2 := Lib.hid (HMV2.out.trans hm3)
        replace HCU := Lib.hid hC3
        dsimp only
        refine hK.out _ _ (fun _ => ((HI.out.mvG HMV2.out (by decide) (by decide) (by decide)).blk.cell (j := 1) (by omega))) ?_
        clear hK K hC3 hm3 hbr hV3 hlv
        have SFE := Lib.hid ((HI.out.mvG HMV2.out (by decide) (by decide) (by decide)).blk.cell (j := 1) (by omega))
        refine wpAnyF_take 10 (v := ?v10E1) (by rfl) (by kernel_rfl) (by intro _ _ _ h; exact h) SFE.out (by rfl) ?hy10E1 ?rest10E1
        case hy10E1 =>
          intro w' hSw
          have s0 := id hSw
          clear hSw
          go_simp
          try with_reducible rfl
        simp only [Act.put, List.setIfInBounds_toArray]
        clear SFE
        refine wpAnyF_one 11 (by rfl) (by kernel_rfl) rfl ?_
        intro K hK
        go_simp
        have HBX := Lib.hid (show Blk (wq3.alloc (.cells #[.int .i64 0, .int .i64 0, .int .i64 0, .int .i64 0, .string eT, .slice none 0 0] 114)) wq3.heap.size 114 6 (mF ⟨0, 0, 0, 0, eT, []⟩ (.slice none 0 0)) from mbox_new wq3)
        have hmb : wr.heap.size ≤ wq3.heap.size := HMV2.out.bl.size
        replace HMV2 := Lib.hid (HMV2.out.alloc (Nat.le_of_lt HCU.out.blk.lt) (.cells #[.int .i64 0, .int .i64 0, .int .i64 0, .int .i64 0, .string eT, .slice none 0 0] 114))
        replace HCU := Lib.hid (HCU.out.later (bl_alloc (Below.refl _ _) (.cells #[.int .i64 0, .int .i64 0, .int .i64 0, .int .i64 0, .string eT, .slice none 0 0] 114)))
        replace HVX := Lib.hid (HVX.out.later (bl_alloc (Below.refl _ _) (.cells #[.int .i64 0, .int .i64 0, .int .i64 0, .int .i64 0, .string eT, .slice none 0 0] 114)))
        refine hK.out _ _ (fun _ => ((HI.out.mvG HMV2.out (by decide) (by decide) (by decide)).blk.cell (j := 1) (by omega))) ?_
        clear hK K
        obtain ⟨mb, hmbe⟩ : ∃ b, wq3.heap.size = b := ⟨_, rfl⟩
        rw [hmbe] at HBX hmb ⊢
        clear hmbe
        change wpAnyF Tryz.prog _ _ _ _ _ _ _ _ (wq3.alloc (.cells #[.int .i64 0, .int .i64 0, .int .i64 0, .int .i64 0, .string eT, .slice none 0 0] 114))
        generalize wq3.alloc (.cells #[.int .i64 0, .int .i64 0, .int .i64 0, .int .i64 0, .string eT, .slice none 0 0] 114) = wq4 at HBX HMV2 HCU HVX ⊢
        generalize hwE : wq4 = wE at HMV2 HCU HBX HVX ⊢
        clear hwE
        rotate_left
        intro K hK
        go_simp
        have HBX := Lib.hid (show Blk (wq2.alloc (.cells #[.int .i64 0, .int .i64 0, .int .i64 0, .int .i64 0, .string eT, .slice none 0 0] 114)) wq2.heap.size 114 6 (mF ⟨0, 0, 0, 0, eT, []⟩ (.slice none 0 0)) from mbox_new wq2)
        have hmb : wr.heap.size ≤ wq2.heap.size := HMV2.out.bl.size
        replace HMV2 := Lib.hid (HMV2.out.alloc (Nat.le_of_lt HCU.out.blk.lt) (.cells #[.int .i64 0, .int .i64 0, .int .i64 0, .int .i64 0, .string eT, .slice none 0 0] 114))
        replace HCU := Lib.hid (HCU.out.later (bl_alloc (Below.refl _ _) (.cells #[.int .i64 0, .int .i64 0, .int .i64 0, .int .i64 0, .string eT, .slice none 0 0] 114)))
        refine hK.out _ _ (fun _ => ((HI.out.mvG HMV2.out (by decide) (by decide) (by decide)).blk.cell (j := 1) (by omega))) ?_
        clear hK K
        obtain ⟨mb, hmbe⟩ : ∃ b, wq2.heap.size = b := ⟨_, rfl⟩
        rw [hmbe] at HBX hmb ⊢
        clear hmbe
        change wpAnyF Tryz.prog _ _ _ _ _ _ _ _ (wq2.alloc (.cells #[.int .i64 0, .int .i64 0, .int .i64 0, .int .i64 0, .string eT, .slice none 0 0] 114))
        generalize wq2.alloc (.cells #[.int .i64 0, .int .i64 0, .int .i64 0, .int .i64 0, .string eT, .slice none 0 0] 114) = wq5 at HBX HMV2 HCU ⊢
        refine wpAnyF_one 9 (by rfl) (by kernel_rfl) rfl ?_
        intro K hK
        go_simp
        have hbr : Below w0.heap.size w0 wq5 := bl_trans9 HB0.out (bl_low9 (HMV.out.trans HMV2.out).bl hg)
        refine (vars_calls w0 g cv code c1 _ HR.out hg hbr HCU.out (by omega)).mono ?_; rintro e wq6 ⟨vx, rfl, hV3, hC3, hm3⟩
        rw [EVS.out] at hV3
        rw [EC2.out] at hC3
        have hlv : w.heap.size ≤ wq5.heap.size := Nat.le_trans (by omega) HMV2.out.bl.size
        have HVX := Lib.hid (hV3.lower hlv)
        obtain ⟨Av, cvx, rfl, -⟩ := hV3.cap
        replace HMV2 := Lib.hid (HMV2.out.trans hm3)
        replace HCU := Lib.hid hC3
        replace HBX := Lib.hid (HBX.out.mv hm3 (by decide))
        dsimp only
        refine hK.out _ _ (fun _ => ((HI.out.mvG HMV2.out (by decide) (by decide) (by decide)).blk.cell (j := 1) (by omega))) ?_
        clear hK K hC3 hm3 hbr hV3 hlv
        have SFE := Lib.hid ((HI.out.mvG HMV2.out (by decide) (by decide) (by decide)).blk.cell (j := 1) (by omega))
        refine wpAnyF_take 10 (v := ?v10E2) (by rfl) (by kernel_rfl) (by intro _ _ _ h; exact h) SFE.out (by rfl) ?hy10E2 ?rest10E2
        case hy10E2 =>
          intro w' hSw
          have s0 := id hSw
          clear hSw
          go_simp
          try with_reducible rfl
        simp only [Act.put, List.setIfInBounds_toArray]
        clear SFE
        generalize hwE : wq6 = wE at HMV2 HCU HBX HVX ⊢
        clear hwE
        rotate_left
        intro K hK
        go_simp
        have HBX := Lib.hid (show Blk (wq1.alloc (.cells #[.int .i64 0, .int .i64 0, .int .i64 0, .int .i64 0, .string eT, .slice none 0 0] 114)) wq1.heap.size 114 6 (mF ⟨0, 0, 0, 0, eT, []⟩ (.slice none 0 0)) from mbox_new wq1)
        have hmb : wr.heap.size ≤ wq1.heap.size := HMV2.out.bl.size
        replace HMV2 := Lib.hid (HMV2.out.alloc (Nat.le_of_lt HCU.out.blk.lt) (.cells #[.int .i64 0, .int .i64 0, .int .i64 0, .int .i64 0, .string eT, .slice none 0 0] 114))
        replace HCU := Lib.hid (HCU.out.later (bl_alloc (Below.refl _ _) (.cells #[.int .i64 0, .int .i64 0, .int .i64 0, .int .i64 0, .string eT, .slice none 0 0] 114)))
        refine hK.out _ _ (fun _ => ((HI.out.mvG HMV2.out (by decide) (by decide) (by decide)).blk.cell (j := 1) (by omega))) ?_
        clear hK K
        obtain ⟨mb, hmbe⟩ : ∃ b, wq1.heap.size = b := ⟨_, rfl⟩
        rw [hmbe] at HBX hmb ⊢
        clear hmbe
        change wpAnyF Tryz.prog _ _ _ _ _ _ _ _ (wq1.alloc (.cells #[.int .i64 0, .int .i64 0, .int .i64 0, .int .i64 0, .string eT, .slice none 0 0] 114))
        generalize wq1.alloc (.cells #[.int .i64 0, .int .i64 0, .int .i64 0, .int .i64 0, .string eT, .slice none 0 0] 114) = wq7 at HBX HMV2 HCU ⊢
        refine wpAnyF_one 7 (by rfl) (by kernel_rfl) rfl ?_
        intro K hK
        go_simp
        have hbr : Below w0.heap.size w0 wq7 := bl_trans9 HB0.out (bl_low9 (HMV.out.trans HMV2.out).bl hg)
        refine (pick_calls g cv code T.c 4 _ (HR.out.later hbr) HCU.out (by omega) (by omega)).mono ?_; rintro e wq8 ⟨rfl, hC3, hm3⟩
        rw [ELN.out]
        rw [EC1.out] at hC3
        replace HMV2 := Lib.hid (HMV2.out.trans hm3)
        replace HCU := Lib.hid hC3
        replace HBX := Lib.hid (HBX.out.mv hm3 (by decide))
        dsimp only
        refine hK.out _ _ (fun _ => ((HI.out.mvG HMV2.out (by decide) (by decide) (by decide)).blk.cell (j := 1) (by omega))) ?_
        clear hK K hC3 hm3 hbr
        refine wpAnyF_one 9 (by rfl) (by kernel_rfl) rfl ?_
        intro K hK
        go_simp
        have hbr : Below w0.heap.size w0 wq8 := bl_trans9 HB0.out (bl_low9 (HMV.out.trans HMV2.out).bl hg)
        refine (vars_calls w0 g cv code c1 _ HR.out hg hbr HCU.out (by omega)).mono ?_; rintro e wq9 ⟨vx, rfl, hV3, hC3, hm3⟩
        rw [EVS.out] at hV3
        rw [EC2.out] at hC3
        have hlv : w.heap.size ≤ wq8.heap.size := Nat.le_trans (by omega) HMV2.out.bl.size
        have HVX := Lib.hid (hV3.lower hlv)
        obtain ⟨Av, cvx, rfl, -⟩ := hV3.cap
        replace HMV2 := Lib.hid (HMV2.out.trans hm3)
        replace HCU := Lib.hid hC3
        replace HBX := Lib.hid (HBX.out.mv hm3 (by decide))
        dsimp only
        refine hK.out _ _ (fun _ => ((HI.out.mvG HMV2.out (by decide) (by decide) (by decide)).blk.cell (j := 1) (by omega))) ?_
        clear hK K hC3 hm3 hbr hV3 hlv
        have SFE := Lib.hid ((HI.out.mvG HMV2.out (by decide) (by decide) (by decide)).blk.cell (j := 1) (by omega))
        refine wpAnyF_take 10 (v := ?v10E3) (by rfl) (by kernel_rfl) (by intro _ _ _ h; exact h) SFE.out (by rfl) ?hy10E3 ?rest10E3
        case hy10E3 =>
          intro w' hSw
          have s0 := id hSw
          clear hSw
          go_simp
          try with_reducible rfl
        simp only [Act.put, List.setIfInBounds_toArray]
        clear SFE
        generalize hwE : wq9 = wE at HMV2 HCU HBX HVX ⊢
        clear hwE
        rotate_left
        intro K hK
        go_simp
        have HBX := Lib.hid (show Blk (wD.alloc (.cells #[.int .i64 0, .int .i64 0, .int .i64 0, .int .i64 0, .string eT, .slice none 0 0] 114)) wD.heap.size 114 6 (mF ⟨0, 0, 0, 0, eT, []⟩ (.slice none 0 0)) from mbox_new wD)
        have hmb : wr.heap.size ≤ wD.heap.size := HMV2.out.bl.size
        replace HMV2 := Lib.hid (HMV2.out.alloc (Nat.le_of_lt HCU.out.blk.lt) (.cells #[.int .i64 0, .int .i64 0, .int .i64 0, .int .i64 0, .string eT, .slice none 0 0] 114))
        replace HCU := Lib.hid (HCU.out.later (bl_alloc (Below.refl _ _) (.cells #[.int .i64 0, .int .i64 0, .int .i64 0, .int .i64 0, .string eT, .slice none 0 0] 114)))
        refine hK.out _ _ (fun _ => ((HI.out.mvG HMV2.out (by decide) (by decide) (by decide)).blk.cell (j := 1) (by omega))) ?_
        clear hK K
        obtain ⟨mb, hmbe⟩ : ∃ b, wD.heap.size = b := ⟨_, rfl⟩
        rw [hmbe] at HBX hmb ⊢
        clear hmbe
        change wpAnyF Tryz.prog _ _ _ _ _ _ _ _ (wD.alloc (.cells #[.int .i64 0, .int .i64 0, .int .i64 0, .int .i64 0, .string eT, .slice none 0 0] 114))
        generalize wD.alloc (.cells #[.int .i64 0, .int .i64 0, .int .i64 0, .int .i64 0, .string eT, .slice none 0 0] 114) = wq10 at HBX HMV2 HCU ⊢
        refine wpAnyF_one 5 (by rfl) (by kernel_rfl) rfl ?_
        intro K hK
        go_simp
        refine (fn_calls _ gS TS s f _ (HI.out.mvG HMV2.out (by decide) (by decide) (by decide)) hq0 hq1).mono ?_
        rintro e wq11 ⟨rfl, hm2⟩
        have hbq : Below wq10.heap.size wq10 wq11 := by
          obtain ⟨m2, rfl⟩ := hm2
          exact bl_drewN (Below.refl _ _) _
        rw [EFN.out]
        replace HMV2 := Lib.hid (HMV2.out.trans (Mv.of_below hbq (Nat.le_of_lt HCU.out.blk.lt)))
        replace HCU := Lib.hid (HCU.out.later hbq)
        replace HBX := Lib.hid (HBX.out.later hbq)
        dsimp only
        refine hK.out _ _ (fun _ => ((HI.out.mvG HMV2.out (by decide) (by decide) (by decide)).blk.cell (j := 1) (by omega))) ?_
        clear hK K hm2 hbq
        refine wpAnyF_one 7 (by rfl) (by kernel_rfl) rfl ?_
        intro K hK
        go_simp
        have hbr : Below w0.heap.size w0 wq11 := bl_trans9 HB0.out (bl_low9 (HMV.out.trans HMV2.out).bl hg)
        refine (pick_calls g cv code T.c 4 _ (HR.out.later hbr) HCU.out (by omega) (by omega)).mono ?_; rintro e wq12 ⟨rfl, hC3, hm3⟩
        rw [ELN.out]
        rw [EC1.out] at hC3
        replace HMV2 := Lib.hid (HMV2.out.trans hm3)
        replace HCU := Lib.hid hC3
        replace HBX := Lib.hid (HBX.out.mv hm3 (by decide))
        dsimp only
        refine hK.out _ _ (fun _ => ((HI.out.mvG HMV2.out (by decide) (by decide) (by decide)).blk.cell (j := 1) (by omega))) ?_
        clear hK K hC3 hm3 hbr
        refine wpAnyF_one 9 (by rfl) (by kernel_rfl) rfl ?_
        intro K hK
        go_simp
        have hbr : Below w0.heap.size w0 wq12 := bl_trans9 HB0.out (bl_low9 (HMV.out.trans HMV2.out).bl hg)
        refine (vars_calls w0 g cv code c1 _ HR.out hg hbr HCU.out (by omega)).mono ?_; rintro e wq13 ⟨vx, rfl, hV3, hC3, hm3⟩
        rw [EVS.out] at hV3
        rw [EC2.out] at hC3
        have hlv : w.heap.size ≤ wq12.heap.size := Nat.le_trans (by omega) HMV2.out.bl.size
        have HVX := Lib.hid (hV3.lower hlv)
        obtain ⟨Av, cvx, rfl, -⟩ := hV3.cap
        replace HMV2 := Lib.hid (HMV2.out.trans hm3)
        replace HCU := Lib.hid hC3
        replace HBX := Lib.hid (HBX.out.mv hm3 (by decide))
        dsimp only
        refine hK.out _ _ (fun _ => ((HI.out.mvG HMV2.out (by decide) (by decide) (by decide)).blk.cell (j := 1) (by omega))) ?_
        clear hK K hC3 hm3 hbr hV3 hlv
        have SFE := Lib.hid ((HI.out.mvG HMV2.out (by decide) (by decide) (by decide)).blk.cell (j := 1) (by omega))
        refine wpAnyF_take 10 (v := ?v10E4) (by rfl) (by kernel_rfl) (by intro _ _ _ h; exact h) SFE.out (by rfl) ?hy10E4 ?rest10E4
        case hy10E4 =>
          intro w' hSw
          have s0 := id hSw
          clear hSw
          go_simp
          try with_reducible rfl
        simp only [Act.put, List.setIfInBounds_toArray]
        clear SFE
        generalize hwE : wq13 = wE at HMV2 HCU HBX HVX ⊢
        clear hwE
        all_goals
          refine wpAnyF_one 12 (by rfl) (by kernel_rfl) rfl ?_
          intro K hK
          have b0 : wE.cell? ⟨mb, 0, none⟩ = some (.int .i64 0) := HBX.out.cell (j := 0) (by omega)
          have b1 : wE.cell? ⟨mb, 1, none⟩ = some (.int .i64 0) := HBX.out.cell (j := 1) (by omega)
          have b2 : wE.cell? ⟨mb, 2, none⟩ = some (.int .i64 0) := HBX.out.cell (j := 2) (by omega)
          have b3 : wE.cell? ⟨mb, 3, none⟩ = some (.int .i64 0) := HBX.out.cell (j := 3) (by omega)
          have b4 : wE.cell? ⟨mb, 4, none⟩ = some (.string eT) := HBX.out.cell (j := 4) (by omega)
          have b5 : wE.cell? ⟨mb, 5, none⟩ = some (.slice none 0 0) := HBX.out.cell (j := 5) (by omega)
          have z0 := HBX.out.free 0
          have z1 := HBX.out.free 1
          have z2 := HBX.out.free 2
          have z3 := HBX.out.free 3
          have z4 := HBX.out.free 4
          have z5 := HBX.out.free 5
          go_simp
          refine hK.out _ _ (fun h => absurd rfl h) ?_
          clear hK K b0 b1 b2 b3 b4 b5 z0 z1 z2 z3 z4 z5
          refine wpAnyF_done (by kernel_rfl) ?_ _
          have hgm : g ≤ mb := by omega
          have hmv6 := mv_six HMV2.out hgm hmb (.int .i64 0) (.int .i64 s.cur) (.int .i64 fn) (.int .i64 (ln : Int)) (.string eT) (.slice Av vs.length cvx)
          have hmt := mv_sixT HBX.out hgm (.int .i64 0) (.int .i64 s.cur) (.int .i64 fn) (.int .i64 (ln : Int)) (.string eT) (.slice Av vs.length cvx)
          have hbx := mF_store HBX.out ⟨0, s.cur, fn, ln, eT, vs⟩ (.slice Av vs.length cvx)
          have HE := Lib.hid (And.intro hbx (And.intro (HVX.out.mv hmt (by decide)) (And.intro (HCU.out.mv hmt (by decide)) hmv6)))
          clear hmv6 hmt hbx
          go_wp2_with fail
          go_meet
          exact ⟨mb, Av, cvx, rfl, hmb, HE.out.1, HE.out.2.1, HE.out.2.2.1, HE.out.2.2.2⟩
      case rest =>
        obtain ⟨mb, Av, cvx, rfl, hmb, hBX, hVX, hCU, hmv2⟩ := hcut
        have HBX := Lib.hid hBX
        have HVX := Lib.hid hVX
        have HCU := Lib.hid hCU
        have HMV2 := Lib.hid hmv2
        clear hBX hVX hCU hmv2
        go_wp2_with fail
        have hbr : Below w0.heap.size w0 wc := bl_trans9 HB0.out (bl_low9 (HMV.out.trans HMV2.out).bl hg)
        have hpl := pickP_lt code c2 (n := 14) (by omega)
        have hpp := (pick_adv code (n := 14) (by omega) c2).1
        refine (pick_calls g cv code c2 14 _ (HR.out.later hbr) HCU.out (by omega) (by omega)).mono ?_; rintro e wp ⟨rfl, hC3, hm3⟩
        have hraw := HRAW.out
        obtain ⟨p, hpe⟩ : ∃ x, (pickP code 14 c2).1 = x := ⟨_, rfl⟩
        obtain ⟨c3, hc3⟩ : ∃ x, (pickP code 14 c2).2 = x := ⟨_, rfl⟩
        rw [hpe, hc3] at hraw
        rw [hpe] at hpl ⊢
        rw [hc3] at hpp hC3
        replace HRAW := Lib.hid hraw
        replace HMV2 := Lib.hid (HMV2.out.trans hm3)
        replace HCU := Lib.hid hC3
        replace HBX := Lib.hid (HBX.out.mv hm3 (by decide))
        replace HVX := Lib.hid (HVX.out.mv hm3 (by decide))
        clear hraw hpe hc3 hC3 hm3 hbr
        go_upto_block 2 with fail
        obtain ⟨r, hrr⟩ : ∃ x, rawM code T = x := ⟨_, rfl⟩
        have hrm := HRAW.out
        rw [hrr] at hrm
        have HRR := Lib.hid hrr
        have HBS := Lib.hid (⟨by omega, hmb, by omega, HBX.out, HVX.out, HCU.out, HMV2.out, HMV.out.trans HMV2.out⟩ : BxSt [72] w wr wp w.heap.size g cv mb ⟨0, s.cur, fn, ln, eT, vs⟩ (.slice Av vs.length cvx) c3)
        clear hrr HBX HVX HCU HMV2 HRAW
        go_cut [7, 8] (fun s7 s8 wx => s8 = .int .i64 r.2.2.2 ∧ OwR wx w.heap.size 3 1 r.2.2.1.length (intC r.2.2.1) s7 ∧ BxSt [72, 3] w wr wx w.heap.size g cv mb r.1 (.slice Av vs.length cvx) r.2.1)
        case first => as_aux_lemma =>
          have hp14 : p = 0 ∨ p = 1 ∨ p = 2 ∨ p = 3 ∨ p = 4 ∨ p = 5 ∨ p = 6 ∨ p = 7 ∨ p = 8 ∨ p = 9 ∨ p = 10 ∨ p = 11 ∨ p = 12 ∨ p = 13 := by omega
          rcases hp14 with rfl | rfl | rfl | rfl | rfl | rfl | rfl | rfl | rfl | rfl | rfl | rfl | rfl | rfl
          · as_aux_lemma =>
            have HRC : Hid (r = (⟨1, s.cur, fnTop s, (ln : Int) + 1, eT, vs⟩, c3, T.ws, T.tk)) := Lib.hid (by rw [hrm]; rfl)
            clear hrm
            obtain ⟨b0, b1, b2, b3, b4, b5, z0, z1, z2, z3, z4⟩ := HBS.out.cells
            go_wp2_with fail
            clear b0 b1 b2 b3 b4 b5 z0 z1 z2 z3 z4
            go_meet
            rw [HRC.out, HFN.out]
            exact ⟨rfl, HW.out.mv ((HBS.out.kind 1).line ((ln : Int) + 1)).mv (by decide), ((HBS.out.kind 1).line ((ln : Int) + 1)).wide⟩
          · as_aux_lemma =>
            have HRC : Hid (r = (⟨1, s.cur, fnTop s, (ln : Int) + 1, eT, vs⟩, c3, T.ws, T.tk)) := Lib.hid (by rw [hrm]; rfl)
            clear hrm
            obtain ⟨b0, b1, b2, b3, b4, b5, z0, z1, z2, z3, z4⟩ := HBS.out.cells
            go_wp2_with fail
            clear b0 b1 b2 b3 b4 b5 z0 z1 z2 z3 z4
            go_meet
            rw [HRC.out, HFN.out]
            exact ⟨rfl, HW.out.mv ((HBS.out.kind 1).line ((ln : Int) + 1)).mv (by decide), ((HBS.out.kind 1).line ((ln : Int) + 1)).wide⟩
          · as_aux_lemma =>
            have HRC : Hid (r = (⟨1, s.cur, fnTop s, (ln : Int) + 1, eT, vs⟩, c3, T.ws, T.tk)) := Lib.hid (by rw [hrm]; rfl)
            clear hrm
            obtain ⟨b0, b1, b2, b3, b4, b5, z0, z1, z2, z3, z4⟩ := HBS.out.cells
            go_wp2_with fail
            clear b0 b1 b2 b3 b4 b5 z0 z1 z2 z3 z4
            go_meet
            rw [HRC.out, HFN.out]
            exact ⟨rfl, HW.out.mv ((HBS.out.kind 1).line ((ln : Int) + 1)).mv (by decide), ((HBS.out.kind 1).line ((ln : Int) + 1)).wide⟩
          · as_aux_lemma =>
            have HRC : Hid (r = (⟨1, s.cur, fnTop s, (ln : Int) + 1, eT, vs⟩, c3, T.ws, T.tk)) := Lib.hid (by rw [hrm]; rfl)
            clear hrm
            obtain ⟨b0, b1, b2, b3, b4, b5, z0, z1, z2, z3, z4⟩ := HBS.out.cells
            go_wp2_with fail
            clear b0 b1 b2 b3 b4 b5 z0 z1 z2 z3 z4
            go_meet
            rw [HRC.out, HFN.out]
            exact ⟨rfl, HW.out.mv ((HBS.out.kind 1).line ((ln : Int) + 1)).mv (by decide), ((HBS.out.kind 1).line ((ln : Int) + 1)).wide⟩
          · as_aux_lemma =>
            have HRC : Hid (r = (⟨1, s.cur, fnTop s, (ln : Int) + 1, eT, vs⟩, c3, T.ws, T.tk)) := Lib.hid (by rw [hrm]; rfl)
            clear hrm
            obtain ⟨b0, b1, b2, b3, b4, b5, z0, z1, z2, z3, z4⟩ := HBS.out.cells
            go_wp2_with fail
            clear b0 b1 b2 b3 b4 b5 z0 z1 z2 z3 z4
            go_meet
            rw [HRC.out, HFN.out]
            exact ⟨rfl, HW.out.mv ((HBS.out.kind 1).line ((ln : Int) + 1)).mv (by decide), ((HBS.out.kind 1).line ((ln : Int) + 1)).wide⟩
          · as_aux_lemma =>
            obtain ⟨b0, b1, b2, b3, b4, b5, z0, z1, z2, z3, z4⟩ := HBS.out.cells
            go_wp2_with fail
            clear b0 b1 b2 b3 b4 b5 z0 z1 z2 z3 z4
            replace HBS := Lib.hid (HBS.out.kind 2)
            generalize wp.setCell ⟨mb, 0, none⟩ (.int .i64 2) = wy at HBS ⊢
            have hbr : Below w0.heap.size w0 _ := bl_trans9 HB0.out (bl_low9 (HMV.out.trans HBS.out.mv).bl hg)
            have hxl := pickP_lt code c3 (n := 4) (by omega)
            refine (pick_calls g cv code c3 4 _ (HR.out.later hbr) HBS.out.cu (by omega) (by omega)).mono ?_; rintro e wz ⟨rfl, hC4, hm4⟩
            obtain ⟨x, hxe⟩ : ∃ x, (pickP code 4 c3).1 = x := ⟨_, rfl⟩
            obtain ⟨c4, hce⟩ : ∃ x, (pickP code 4 c3).2 = x := ⟨_, rfl⟩
            rw [hxe] at hxl ⊢
            rw [hce] at hC4
            have HXC := Lib.hid (And.intro hxe hce)
            replace HBS := Lib.hid (HBS.out.pick hC4 hm4)
            clear hxe hce hC4 hm4 hbr
            have HRC : Hid (r = (⟨2, s.cur, (x : Nat), (ln : Int), eT, vs⟩, c4, T.ws, T.tk)) := Lib.hid (by rw [hrm, ← HXC.out.1, ← HXC.out.2]; rfl)
            clear hrm
            obtain ⟨b0, b1, b2, b3, b4, b5, z0, z1, z2, z3, z4⟩ := HBS.out.cells
            go_wp2_with fail
            clear b0 b1 b2 b3 b4 b5 z0 z1 z2 z3 z4
            go_meet
            rw [HRC.out]
            exact ⟨rfl, HW.out.mv (HBS.out.fn (x : Nat)).mv (by decide), (HBS.out.fn (x : Nat)).wide⟩
          · as_aux_lemma =>
            obtain ⟨b0, b1, b2, b3, b4, b5, z0, z1, z2, z3, z4⟩ := HBS.out.cells
            go_wp2_with fail
            clear b0 b1 b2 b3 b4 b5 z0 z1 z2 z3 z4
            replace HBS := Lib.hid (HBS.out.kind 2)
            generalize wp.setCell ⟨mb, 0, none⟩ (.int .i64 2) = wy at HBS ⊢
            have hbr : Below w0.heap.size w0 _ := bl_trans9 HB0.out (bl_low9 (HMV.out.trans HBS.out.mv).bl hg)
            have hxl := pickP_lt code c3 (n := 4) (by omega)
            refine (pick_calls g cv code c3 4 _ (HR.out.later hbr) HBS.out.cu (by omega) (by omega)).mono ?_; rintro e wz ⟨rfl, hC4, hm4⟩
            obtain ⟨x, hxe⟩ : ∃ x, (pickP code 4 c3).1 = x := ⟨_, rfl⟩
            obtain ⟨c4, hce⟩ : ∃ x, (pickP code 4 c3).2 = x := ⟨_, rfl⟩
            rw [hxe] at hxl ⊢
            rw [hce] at hC4
            have HXC := Lib.hid (And.intro hxe hce)
            replace HBS := Lib.hid (HBS.out.pick hC4 hm4)
            clear hxe hce hC4 hm4 hbr
            have HRC : Hid (r = (⟨2, s.cur, (x : Nat), (ln : Int), eT, vs⟩, c4, T.ws, T.tk)) := Lib.hid (by rw [hrm, ← HXC.out.1, ← HXC.out.2]; rfl)
            clear hrm
            obtain ⟨b0, b1, b2, b3, b4, b5, z0, z1, z2, z3, z4⟩ := HBS.out.cells
            go_wp2_with fail
            clear b0 b1 b2 b3 b4 b5 z0 z1 z2 z3 z4
            go_meet
            rw [HRC.out]
            exact ⟨rfl, HW.out.mv (HBS.out.fn (x : Nat)).mv (by decide), (HBS.out.fn (x : Nat)).wide⟩
          · as_aux_lemma =>
            obtain ⟨b0, b1, b2, b3, b4, b5, z0, z1, z2, z3, z4⟩ := HBS.out.cells
            go_wp2_with fail
            clear b0 b1 b2 b3 b4 b5 z0 z1 z2 z3 z4
            replace HBS := Lib.hid (HBS.out.kind 2)
            generalize wp.setCell ⟨mb, 0, none⟩ (.int .i64 2) = wy at HBS ⊢
            have hbr : Below w0.heap.size w0 _ := bl_trans9 HB0.out (bl_low9 (HMV.out.trans HBS.out.mv).bl hg)
            have hxl := pickP_lt code c3 (n := 4) (by omega)
            refine (pick_calls g cv code c3 4 _ (HR.out.later hbr) HBS.out.cu (by omega) (by omega)).mono ?_; rintro e wz ⟨rfl, hC4, hm4⟩
            obtain ⟨x, hxe⟩ : ∃ x, (pickP code 4 c3).1 = x := ⟨_, rfl⟩
            obtain ⟨c4, hce⟩ : ∃ x, (pickP code 4 c3).2 = x := ⟨_, rfl⟩
            rw [hxe] at hxl ⊢
            rw [hce] at hC4
            have HXC := Lib.hid (And.intro hxe hce)
            replace HBS := Lib.hid (HBS.out.pick hC4 hm4)
            clear hxe hce hC4 hm4 hbr
            have HRC : Hid (r = (⟨2, s.cur, (x : Nat), (ln : Int), eT, vs⟩, c4, T.ws, T.tk)) := Lib.hid (by rw [hrm, ← HXC.out.1, ← HXC.out.2]; rfl)
            clear hrm
            obtain ⟨b0, b1, b2, b3, b4, b5, z0, z1, z2, z3, z4⟩ := HBS.out.cells
            go_wp2_with fail
            clear b0 b1 b2 b3 b4 b5 z0 z1 z2 z3 z4
            go_meet
            rw [HRC.out]
            exact ⟨rfl, HW.out.mv (HBS.out.fn (x : Nat)).mv (by decide), (HBS.out.fn (x : Nat)).wide⟩
          · as_aux_lemma =>
            have HRC : Hid (r = (⟨3, s.cur, fnTop s, (ln : Int), eT, vs⟩, c3, T.ws, T.tk)) := Lib.hid (by rw [hrm]; rfl)
            clear hrm
            obtain ⟨b0, b1, b2, b3, b4, b5, z0, z1, z2, z3, z4⟩ := HBS.out.cells
            go_wp2_with fail
            clear b0 b1 b2 b3 b4 b5 z0 z1 z2 z3 z4
            go_meet
            rw [HRC.out, HFN.out]
            exact ⟨rfl, HW.out.mv (HBS.out.kind 3).mv (by decide), (HBS.out.kind 3).wide⟩
          · as_aux_lemma =>
            have HRC : Hid (r = (⟨3, s.cur, fnTop s, (ln : Int), eT, vs⟩, c3, T.ws, T.tk)) := Lib.hid (by rw [hrm]; rfl)
            clear hrm
            obtain ⟨b0, b1, b2, b3, b4, b5, z0, z1, z2, z3, z4⟩ := HBS.out.cells
            go_wp2_with fail
            clear b0 b1 b2 b3 b4 b5 z0 z1 z2 z3 z4
            go_meet
            rw [HRC.out, HFN.out]
            exact ⟨rfl, HW.out.mv (HBS.out.kind 3).mv (by decide), (HBS.out.kind 3).wide⟩
          · as_aux_lemma =>
            obtain ⟨b0, b1, b2, b3, b4, b5, z0, z1, z2, z3, z4⟩ := HBS.out.cells
            go_wp2_with fail
            clear b0 b1 b2 b3 b4 b5 z0 z1 z2 z3 z4
            have hbr : Below w0.heap.size w0 _ := bl_trans9 HB0.out (bl_low9 (HMV.out.trans HBS.out.mv).bl hg)
            have hxl := pickP_lt code c3 (n := 3) (by omega)
            refine (pick_calls g cv code c3 3 _ (HR.out.later hbr) HBS.out.cu (by omega) (by omega)).mono ?_; rintro e wz ⟨rfl, hC4, hm4⟩
            obtain ⟨x, hxe⟩ : ∃ x, (pickP code 3 c3).1 = x := ⟨_, rfl⟩
            obtain ⟨c4, hce⟩ : ∃ x, (pickP code 3 c3).2 = x := ⟨_, rfl⟩
            rw [hxe] at hxl ⊢
            rw [hce] at hC4
            have HXC := Lib.hid (And.intro hxe hce)
            replace HBS := Lib.hid (HBS.out.pick hC4 hm4)
            clear hxe hce hC4 hm4 hbr
            have HRC : Hid (r = (⟨4 + (x : Nat), s.cur, fnTop s, (ln : Int), sevT, vs⟩, c4, T.ws, T.tk)) := Lib.hid (by rw [hrm, ← HXC.out.1, ← HXC.out.2]; rfl)
            clear hrm
            obtain ⟨b0, b1, b2, b3, b4, b5, z0, z1, z2, z3, z4⟩ := HBS.out.cells
            go_wp2_with fail
            clear b0 b1 b2 b3 b4 b5 z0 z1 z2 z3 z4
            go_meet
            rw [HRC.out, HFN.out]
            exact ⟨rfl, HW.out.mv ((HBS.out.kind (4 + (x : Nat))).text sevT).mv (by decide), ((HBS.out.kind (4 + (x : Nat))).text sevT).wide⟩
          · as_aux_lemma =>
            obtain ⟨b0, b1, b2, b3, b4, b5, z0, z1, z2, z3, z4⟩ := HBS.out.cells
            go_wp2_with fail
            clear b0 b1 b2 b3 b4 b5 z0 z1 z2 z3 z4
            replace HBS := Lib.hid ((HBS.out.kind 7).fn 0)
            generalize (wp.setCell ⟨mb, 0, none⟩ (.int .i64 7)).setCell ⟨mb, 2, none⟩ (.int .i64 0) = wy at HBS ⊢
            have hbr : Below w0.heap.size w0 _ := bl_trans9 HB0.out (bl_low9 (HMV.out.trans HBS.out.mv).bl hg)
            have hxl := pickP_lt code c3 (n := 2) (by omega)
            refine (pick_calls g cv code c3 2 _ (HR.out.later hbr) HBS.out.cu (by omega) (by omega)).mono ?_; rintro e wz ⟨rfl, hC4, hm4⟩
            obtain ⟨x, hxe⟩ : ∃ x, (pickP code 2 c3).1 = x := ⟨_, rfl⟩
            obtain ⟨c4, hce⟩ : ∃ x, (pickP code 2 c3).2 = x := ⟨_, rfl⟩
            rw [hxe] at hxl ⊢
            rw [hce] at hC4
            have HXC := Lib.hid (And.intro hxe hce)
            replace HBS := Lib.hid (HBS.out.pick hC4 hm4)
            clear hxe hce hC4 hm4 hbr
            have hc4p := (pick_adv code (n := 2) (by omega) c3).1
            rw [HXC.out.2] at hc4p
            by_cases hx9 : x = 0 ∧ T.tk < 9
            · obtain ⟨rfl, h9⟩ := hx9
              have hrm2 : r = (⟨7, T.tk, 0, (ln : Int), eT, vs⟩, c4, T.ws ++ [s.cur], T.tk + 1) := by rw [hrm]; show (if (pickP code 2 c3).1 = 0 ∧ T.tk < 9 then _ else if 0 < T.ws.length then _ else _) = _; rw [HXC.out.1, HXC.out.2, if_pos ⟨rfl, h9⟩]
              have HRC := Lib.hid hrm2
              have hwz := HW.out.mv HBS.out.mv (by decide)
              have HWZ := Lib.hid hwz
              have hd9 : decide (T.tk < 9) = true := by simp; omega
              have xs : wz.cell? ⟨gS, 1, none⟩ = some (.int .i64 s.cur) := (HI.out.mvG HBS.out.mv (by decide) (by decide) (by decide)).blk.cell (j := 1) (by omega)
              have hszz : w.heap.size ≤ wz.heap.size := Nat.le_trans (by omega) HBS.out.mv.bl.size
              clear hrm hrm2 hwz
              go_wp2_with (at_builtin; refine stopped ?_)
              unfold Stopped
              refine wpList_append1 _ (by rfl) _ _ 79 (by rfl) w.heap.size 3 _ 1 8 Tryz.underlying79 i_int' rfl (by omega) _ T.ws.length _ (intC (T.ws ++ [s.cur])) (by rfl) HWZ.out [.int .i64 s.cur] rfl (by simp [Value.oneCell']) (by rfl) (fun i hi j _ => (intC_old' T.ws _ hi j).symm) ?hNw hszz (by omega) (by omega) ?_
              case hNw =>
                intro j hj
                obtain rfl : j = 0 := by omega
                rw [intC_last']; rfl
              intro ga cap w5 hO5 hG5 _ _
              have hm5 : Mv [3] w.heap.size wz w5 := (Mv.refl _ _ _).grown hszz hG5 (fun b hb => by obtain ⟨N, F, hBk⟩ := HWZ.out.block hb; exact ⟨(HWZ.out.lt b hb).1, _, N, F, hBk, by decide⟩)
              have HBS5 := Lib.hid (HBS.out.ints (lo' := w.heap.size) (by omega) hm5 (mv_grownNew HBS.out.m0 (by omega) hG5 (fun b hb => (HWZ.out.lt b hb).1)))
              have HO5 := Lib.hid hO5
              clear hm5 hO5 hG5 xs HBS
              have HBS := HBS5
              clear HBS5
              obtain ⟨b0, b1, b2, b3, b4, b5, z0, z1, z2, z3, z4⟩ := HBS.out.cells
              go_wp2_with fail
              clear b0 b1 b2 b3 b4 b5 z0 z1 z2 z3 z4
              go_meet
              rw [HRC.out]
              refine ⟨rfl, ?_, HBS.out.task T.tk⟩
              have hlw : (T.ws ++ [s.cur]).length = T.ws.length + 1 := by simp
              dsimp only
              rw [hlw]
              exact HO5.out.mv ((Mv.refl [114] 0 w5).set (p := ⟨mb, 1, none⟩) (Nat.zero_le _) HBS.out.blk (List.mem_singleton.2 rfl) (.int .i64 T.tk)) (by decide)
            · by_cases hx0 : x = 0
              · subst hx0
                have h9 : ¬ T.tk < 9 := fun hh => hx9 ⟨rfl, hh⟩
                have hnot := hx9
                have hd9 : decide (T.tk < 9) = false := by simp; omega
                clear hx9
                obtain ⟨L, hL⟩ : ∃ L, T.ws.length = L := ⟨_, rfl⟩
                by_cases hw0 : 0 < T.ws.length
                · have hrm2 : r = (⟨7, elt T.ws (T.ws.length - 1), 0, (ln : Int), eT, vs⟩, c4, T.ws.take (T.ws.length - 1), T.tk) := by rw [hrm]; show (if (pickP code 2 c3).1 = 0 ∧ T.tk < 9 then _ else if 0 < T.ws.length then _ else _) = _; rw [HXC.out.1, HXC.out.2, if_neg hnot, if_pos hw0]
                  have hwz := HW.out.mv HBS.out.mv (by decide)
                  have hcapz := hwz.cap
                  obtain ⟨A7, c7, e7, hop⟩ := hwz.open'
                  obtain ⟨b7, e8, -, -, hcw, -⟩ := hop hw0
                  obtain ⟨rfl, rfl⟩ : A4 = A7 ∧ wc4 = c7 := by simpa using e7
                  subst e8
                  have hcl := hcw (T.ws.length - 1) (by omega) 0 (by omega)
                  rw [Nat.mul_one, Nat.add_zero] at hcl
                  obtain ⟨q, hq⟩ : ∃ q, T.ws.length - 1 = q := ⟨_, rfl⟩
                  rw [hq] at hcl hrm2
                  have hcl2 : wz.cell? ⟨b7, q, none⟩ = some (.int .i64 (elt T.ws q)) := hcl
                  obtain ⟨A8, c8, e9, hca, hcb⟩ := hcapz
                  have hcc : q ≤ wc4 := by cases e9; omega
                  have hcd : wc4 ≤ 9223372036854775807 := by cases e9; exact hcb
                  have HRC := Lib.hid hrm2
                  have HWZ := Lib.hid hwz
                  rw [hL]
                  have eq1 : (L : Int) - 1 = (q : Int) := by omega
                  have hqL : (q : Int) < (L : Int) := by omega
                  have hL0 : 0 < L := by omega
                  have hdL : decide ((L : Int) > 0) = true := by simp; omega
                  have hq0 : (0 : Int) ≤ (q : Int) := by omega
                  have hqc : (q : Int) ≤ (wc4 : Int) := by omega
                  have hev := Lib.hid hL
                  clear hL hq hrm hrm2 hcl hop hcw e7 hwz e9 hca hcb hcc hw0
                  obtain ⟨b0, b1, b2, b3, b4, b5, z0, z1, z2, z3, z4⟩ := HBS.out.cells
                  go_wp2_with fail
                  clear b0 b1 b2 b3 b4 b5 z0 z1 z2 z3 z4
                  go_meet
                  rw [HRC.out]
                  refine ⟨rfl, ?_, (HBS.out.task (elt T.ws q)).wide⟩
                  have ht := (HWZ.out.mv ((Mv.refl [114] 0 wz).set (p := ⟨mb, 1, none⟩) (Nat.zero_le _) HBS.out.blk (List.mem_singleton.2 rfl) (.int .i64 (elt T.ws q))) (by decide)).take (m := q) (by have := hev.out; omega)
                  have hlt2 : (T.ws.take q).length = q := by rw [List.length_take, hev.out]; omega
                  dsimp only
                  rw [hlt2]
                  exact ht.congr fun i hi j _ => by
                    unfold intC
                    rw [elt_eq (by rw [hev.out]; omega), elt_eq (by rw [hlt2]; exact hi), List.getElem_take]
                · obtain ⟨tn, htn⟩ : ∃ tn : Nat, T.tk = (tn : Int) := ⟨T.tk.toNat, by omega⟩
                  have hrm2 : r = (⟨7, (pickP code T.tk.toNat c4).1, 0, (ln : Int), eT, vs⟩, (pickP code T.tk.toNat c4).2, T.ws, T.tk) := by rw [hrm]; show (if (pickP code 2 c3).1 = 0 ∧ T.tk < 9 then _ else if 0 < T.ws.length then _ else _) = _; rw [HXC.out.1, HXC.out.2, if_neg hnot, if_neg hw0]
                  rw [htn, show ((tn : Nat) : Int).toNat = tn by omega] at hrm2
                  have HRC := Lib.hid hrm2
                  obtain rfl : L = 0 := by omega
                  have HLL := Lib.hid hL
                  have htn9 : tn ≤ 9 := by omega
                  rw [hL, htn]
                  try rw [htn] at hd9
                  have HTN := Lib.hid htn
                  clear hL htn hrm hrm2 hw0
                  obtain ⟨b0, b1, b2, b3, b4, b5, z0, z1, z2, z3, z4⟩ := HBS.out.cells
                  go_wp2_with fail
                  clear b0 b1 b2 b3 b4 b5 z0 z1 z2 z3 z4
                  have hbr : Below w0.heap.size w0 _ := bl_trans9 HB0.out (bl_low9 (HMV.out.trans HBS.out.mv).bl hg)
                  refine (pick_calls g cv code c4 tn _ (HR.out.later hbr) HBS.out.cu (by omega) (by omega)).mono ?_; rintro e wy2 ⟨rfl, hC4, hm4⟩
                  obtain ⟨x2, hxe⟩ : ∃ x, (pickP code tn c4).1 = x := ⟨_, rfl⟩
                  obtain ⟨c5, hce⟩ : ∃ x, (pickP code tn c4).2 = x := ⟨_, rfl⟩
                  rw [hxe]
                  rw [hce] at hC4
                  have hrc2 := HRC.out
                  rw [hxe, hce] at hrc2
                  replace HRC := Lib.hid hrc2
                  replace HBS := Lib.hid (HBS.out.pick hC4 hm4)
                  clear hxe hce hC4 hm4 hbr hrc2
                  obtain ⟨b0, b1, b2, b3, b4, b5, z0, z1, z2, z3, z4⟩ := HBS.out.cells
                  go_wp2_with fail
                  clear b0 b1 b2 b3 b4 b5 z0 z1 z2 z3 z4
                  go_meet
                  rw [HRC.out]
                  refine ⟨rfl, ?_, (HBS.out.task (x2 : Nat)).wide⟩
                  have hw2 := HW.out.mv (HBS.out.task (x2 : Nat)).mv (by decide)
                  rw [HLL.out] at hw2
                  rw [show (T.ws.length) = 0 from HLL.out]
                  exact hw2
              · have hnot := hx9
                obtain rfl : x = 1 := by omega
                clear hx9 hx0
                obtain ⟨L, hL⟩ : ∃ L, T.ws.length = L := ⟨_, rfl⟩
                by_cases hw0 : 0 < T.ws.length
                · have hrm2 : r = (⟨7, elt T.ws (T.ws.length - 1), 0, (ln : Int), eT, vs⟩, c4, T.ws.take (T.ws.length - 1), T.tk) := by rw [hrm]; show (if (pickP code 2 c3).1 = 0 ∧ T.tk < 9 then _ else if 0 < T.ws.length then _ else _) = _; rw [HXC.out.1, HXC.out.2, if_neg hnot, if_pos hw0]
                  have hwz := HW.out.mv HBS.out.mv (by decide)
                  have hcapz := hwz.cap
                  obtain ⟨A7, c7, e7, hop⟩ := hwz.open'
                  obtain ⟨b7, e8, -, -, hcw, -⟩ := hop hw0
                  obtain ⟨rfl, rfl⟩ : A4 = A7 ∧ wc4 = c7 := by simpa using e7
                  subst e8
                  have hcl := hcw (T.ws.length - 1) (by omega) 0 (by omega)
                  rw [Nat.mul_one, Nat.add_zero] at hcl
                  obtain ⟨q, hq⟩ : ∃ q, T.ws.length - 1 = q := ⟨_, rfl⟩
                  rw [hq] at hcl hrm2
                  have hcl2 : wz.cell? ⟨b7, q, none⟩ = some (.int .i64 (elt T.ws q)) := hcl
                  obtain ⟨A8, c8, e9, hca, hcb⟩ := hcapz
                  have hcc : q ≤ wc4 := by cases e9; omega
                  have hcd : wc4 ≤ 9223372036854775807 := by cases e9; exact hcb
                  have HRC := Lib.hid hrm2
                  have HWZ := Lib.hid hwz
                  rw [hL]
                  have eq1 : (L : Int) - 1 = (q : Int) := by omega
                  have hqL : (q : Int) < (L : Int) := by omega
                  have hL0 : 0 < L := by omega
                  have hdL : decide ((L : Int) > 0) = true := by simp; omega
                  have hq0 : (0 : Int) ≤ (q : Int) := by omega
                  have hqc : (q : Int) ≤ (wc4 : Int) := by omega
                  have hev := Lib.hid hL
                  clear hL hq hrm hrm2 hcl hop hcw e7 hwz e9 hca hcb hcc hw0
                  obtain ⟨b0, b1, b2, b3, b4, b5, z0, z1, z2, z3, z4⟩ := HBS.out.cells
                  go_wp2_with fail
                  clear b0 b1 b2 b3 b4 b5 z0 z1 z2 z3 z4
                  go_meet
                  rw [HRC.out]
                  refine ⟨rfl, ?_, (HBS.out.task (elt T.ws q)).wide⟩
                  have ht := (HWZ.out.mv ((Mv.refl [114] 0 wz).set (p := ⟨mb, 1, none⟩) (Nat.zero_le _) HBS.out.blk (List.mem_singleton.2 rfl) (.int .i64 (elt T.ws q))) (by decide)).take (m := q) (by have := hev.out; omega)
                  have hlt2 : (T.ws.take q).length = q := by rw [List.length_take, hev.out]; omega
                  dsimp only
                  rw [hlt2]
                  exact ht.congr fun i hi j _ => by
                    unfold intC
                    rw [elt_eq (by rw [hev.out]; omega), elt_eq (by rw [hlt2]; exact hi), List.getElem_take]
                · obtain ⟨tn, htn⟩ : ∃ tn : Nat, T.tk = (tn : Int) := ⟨T.tk.toNat, by omega⟩
                  have hrm2 : r = (⟨7, (pickP code T.tk.toNat c4).1, 0, (ln : Int), eT, vs⟩, (pickP code T.tk.toNat c4).2, T.ws, T.tk) := by rw [hrm]; show (if (pickP code 2 c3).1 = 0 ∧ T.tk < 9 then _ else if 0 < T.ws.length then _ else _) = _; rw [HXC.out.1, HXC.out.2, if_neg hnot, if_neg hw0]
                  rw [htn, show ((tn : Nat) : Int).toNat = tn by omega] at hrm2
                  have HRC := Lib.hid hrm2
                  obtain rfl : L = 0 := by omega
                  have HLL := Lib.hid hL
                  have htn9 : tn ≤ 9 := by omega
                  rw [hL, htn]
                  try rw [htn] at hd9
                  have HTN := Lib.hid htn
                  clear hL htn hrm hrm2 hw0
                  obtain ⟨b0, b1, b2, b3, b4, b5, z0, z1, z2, z3, z4⟩ := HBS.out.cells
                  go_wp2_with fail
                  clear b0 b1 b2 b3 b4 b5 z0 z1 z2 z3 z4
                  have hbr : Below w0.heap.size w0 _ := bl_trans9 HB0.out (bl_low9 (HMV.out.trans HBS.out.mv).bl hg)
                  refine (pick_calls g cv code c4 tn _ (HR.out.later hbr) HBS.out.cu (by omega) (by omega)).mono ?_; rintro e wy2 ⟨rfl, hC4, hm4⟩
                  obtain ⟨x2, hxe⟩ : ∃ x, (pickP code tn c4).1 = x := ⟨_, rfl⟩
                  obtain ⟨c5, hce⟩ : ∃ x, (pickP code tn c4).2 = x := ⟨_, rfl⟩
                  rw [hxe]
                  rw [hce] at hC4
                  have hrc2 := HRC.out
                  rw [hxe, hce] at hrc2
                  replace HRC := Lib.hid hrc2
                  replace HBS := Lib.hid (HBS.out.pick hC4 hm4)
                  clear hxe hce hC4 hm4 hbr hrc2
                  obtain ⟨b0, b1, b2, b3, b4, b5, z0, z1, z2, z3, z4⟩ := HBS.out.cells
                  go_wp2_with fail
                  clear b0 b1 b2 b3 b4 b5 z0 z1 z2 z3 z4
                  go_meet
                  rw [HRC.out]
                  refine ⟨rfl, ?_, (HBS.out.task (x2 : Nat)).wide⟩
                  have hw2 := HW.out.mv (HBS.out.task (x2 : Nat)).mv (by decide)
                  rw [HLL.out] at hw2
                  rw [show (T.ws.length) = 0 from HLL.out]
                  exact hw2
          · as_aux_lemma =>
            obtain ⟨b0, b1, b2, b3, b4, b5, z0, z1, z2, z3, z4⟩ := HBS.out.cells
            go_wp2_with fail
            clear b0 b1 b2 b3 b4 b5 z0 z1 z2 z3 z4
            replace HBS := Lib.hid (HBS.out.kind 1)
            generalize wp.setCell ⟨mb, 0, none⟩ (.int .i64 1) = wy at HBS ⊢
            have hbr : Below w0.heap.size w0 _ := bl_trans9 HB0.out (bl_low9 (HMV.out.trans HBS.out.mv).bl hg)
            have hxl := pickP_lt code c3 (n := 2) (by omega)
            refine (pick_calls g cv code c3 2 _ (HR.out.later hbr) HBS.out.cu (by omega) (by omega)).mono ?_; rintro e wz ⟨rfl, hC4, hm4⟩
            obtain ⟨x, hxe⟩ : ∃ x, (pickP code 2 c3).1 = x := ⟨_, rfl⟩
            obtain ⟨c4, hce⟩ : ∃ x, (pickP code 2 c3).2 = x := ⟨_, rfl⟩
            rw [hxe] at hxl ⊢
            rw [hce] at hC4
            have HXC := Lib.hid (And.intro hxe hce)
            replace HBS := Lib.hid (HBS.out.pick hC4 hm4)
            clear hxe hce hC4 hm4 hbr
            have HRC : Hid (r = (⟨1, s.cur, fnTop s, 1 + (x : Nat), eT, vs⟩, c4, T.ws, T.tk)) := Lib.hid (by rw [hrm, ← HXC.out.1, ← HXC.out.2]; rfl)
            clear hrm
            obtain ⟨b0, b1, b2, b3, b4, b5, z0, z1, z2, z3, z4⟩ := HBS.out.cells
            go_wp2_with fail
            clear b0 b1 b2 b3 b4 b5 z0 z1 z2 z3 z4
            go_meet
            rw [HRC.out, HFN.out]
            exact ⟨rfl, HW.out.mv (HBS.out.line (1 + (x : Nat))).mv (by decide), (HBS.out.line (1 + (x : Nat))).wide⟩
          · as_aux_lemma =>
            obtain ⟨b0, b1, b2, b3, b4, b5, z0, z1, z2, z3, z4⟩ := HBS.out.cells
            go_wp2_with fail
            clear b0 b1 b2 b3 b4 b5 z0 z1 z2 z3 z4
            replace HBS := Lib.hid (HBS.out.kind 1)
            generalize wp.setCell ⟨mb, 0, none⟩ (.int .i64 1) = wy at HBS ⊢
            have hbr : Below w0.heap.size w0 _ := bl_trans9 HB0.out (bl_low9 (HMV.out.trans HBS.out.mv).bl hg)
            have hxl := pickP_lt code c3 (n := 2) (by omega)
            refine (pick_calls g cv code c3 2 _ (HR.out.later hbr) HBS.out.cu (by omega) (by omega)).mono ?_; rintro e wz ⟨rfl, hC4, hm4⟩
            obtain ⟨x, hxe⟩ : ∃ x, (pickP code 2 c3).1 = x := ⟨_, rfl⟩
            obtain ⟨c4, hce⟩ : ∃ x, (pickP code 2 c3).2 = x := ⟨_, rfl⟩
            rw [hxe] at hxl ⊢
            rw [hce] at hC4
            have HXC := Lib.hid (And.intro hxe hce)
            replace HBS := Lib.hid (HBS.out.pick hC4 hm4)
            clear hxe hce hC4 hm4 hbr
            have HRC : Hid (r = (⟨1, s.cur, fnTop s, 1 + (x : Nat), eT, vs⟩, c4, T.ws, T.tk)) := Lib.hid (by rw [hrm, ← HXC.out.1, ← HXC.out.2]; rfl)
            clear hrm
            obtain ⟨b0, b1, b2, b3, b4, b5, z0, z1, z2, z3, z4⟩ := HBS.out.cells
            go_wp2_with fail
            clear b0 b1 b2 b3 b4 b5 z0 z1 z2 z3 z4
            go_meet
            rw [HRC.out, HFN.out]
            exact ⟨rfl, HW.out.mv (HBS.out.line (1 + (x : Nat))).mv (by decide), (HBS.out.line (1 + (x : Nat))).wide⟩
        case rest =>
          obtain ⟨rfl, hWW, hBS⟩ := hcut
          have hro := HDI.out.raw (code := code)
          rw [HRR.out, HSS.out] at hro
          obtain ⟨m, cr, wsr, tkr⟩ := r
          have HBS := Lib.hid hBS
          have HWW := Lib.hid hWW
          have HRO := Lib.hid hro
          obtain ⟨A5, wc5, rfl, -⟩ := hWW.cap
          clear hBS hWW hro hrm
          dsimp only at HBS HWW ⊢
          obtain ⟨m', hm'⟩ : ∃ x, newM code T = x := ⟨_, rfl⟩
          have hfx : m' = fixM s m := by rw [← hm']; unfold newM; rw [HRR.out, HSS.out]
          have HNM := Lib.hid hm'
          have HFX := Lib.hid hfx
          clear hm' hfx
          have hIc := HI.out.mvG HBS.out.mv (by decide) (by decide) (by decide)
          have HIC := Lib.hid hIc
          clear hIc
          go_upto_region 39 with fail
          go_cut [115] (fun s115 wx => s115 = .bool (fixB s m) ∧ ∃ q, wx = wc.drewN q)
          case first => as_aux_lemma =>
            obtain ⟨b0, b1, b2, b3, b4, b5, z0, z1, z2, z3, z4⟩ := HBS.out.cells
            cases hs : s.top with
            | nil =>
              have HTP := Lib.hid hs
              by_cases hk1 : m.kind = 1
              · have hd1 : (m.kind == 1) = true := by simp [hk1]
                have HE := Lib.hid (show fixB s m = true by unfold fixB; rw [hs]; simp [hk1])
                clear hk1 hs
                go_wp2_with (first | (go_at_call 84; refine (top_nil _ gS TS s f _ (HIC.out.later (by repeat (with_reducible first | exact Below.refl _ _ | exact HL.out | refine bl_drewN ?_ _ | refine bl_drew ?_ | refine bl_alloc ?_ _ | refine bl_set ?_ (by dsimp only; omega) _))) hq0 hq1 HTP.out).mono ?_; rintro e w1' ⟨rfl, mm, rfl⟩))
                go_meet
                exact ⟨by rw [HE.out], _, rfl⟩
              · have hd1 : (m.kind == 1) = false := by simp [hk1]
                have HE := Lib.hid (show fixB s m = false by unfold fixB; rw [hs]; simp [hk1])
                clear hk1 hs
                go_wp2_with (first | (go_at_call 84; refine (top_nil _ gS TS s f _ (HIC.out.later (by repeat (with_reducible first | exact Below.refl _ _ | exact HL.out | refine bl_drewN ?_ _ | refine bl_drew ?_ | refine bl_alloc ?_ _ | refine bl_set ?_ (by dsimp only; omega) _))) hq0 hq1 HTP.out).mono ?_; rintro e w1' ⟨rfl, mm, rfl⟩))
                go_meet
                exact ⟨by rw [HE.out], _, rfl⟩
            | cons fr rr =>
              have HTP := Lib.hid hs
              have HE := Lib.hid (show fixB s m = false by unfold fixB; rw [hs])
              have hd1 : decide ((rr.length : Int) < 0) = false := by simp
              clear hs
              go_wp2_with (first | (go_at_call 84; refine (top_cons _ gS TS s f _ (HIC.out.later (by repeat (with_reducible first | exact Below.refl _ _ | exact HL.out | refine bl_drewN ?_ _ | refine bl_drew ?_ | refine bl_alloc ?_ _ | refine bl_set ?_ (by dsimp only; omega) _))) hq0 hq1 HTP.out).mono ?_; rintro e w1' ⟨rfl, mm, rfl⟩))
              go_meet
              exact ⟨by rw [HE.out], _, rfl⟩
          case rest =>
          obtain ⟨rfl, qd, hwd⟩ := hcut
          rename World => wd
          have hbd : Below wc.heap.size wc wd := by rw [hwd]; exact bl_drewN (Below.refl _ _) _
          replace HBS := Lib.hid (HBS.out.later hbd)
          replace HWW := Lib.hid (HWW.out.later hbd)
          clear HIC hwd hbd
          go_upto_if 115 with fail
          go_cut [] (fun wx => BxSt [72, 3] w wr wx w.heap.size g cv mb m' (.slice Av vs.length cvx) cr ∧ OwR wx w.heap.size 3 1 wsr.length (intC wsr) (.slice A5 wsr.length wc5))
          case first => as_aux_lemma =>
            obtain ⟨b0, b1, b2, b3, b4, b5, z0, z1, z2, z3, z4⟩ := HBS.out.cells
            cases hfb : fixB s m with
            | true =>
              have hE : m' = ⟨2, m.task, 1, m.line, m.text, m.vars⟩ := by rw [HFX.out, fixM_eq, hfb]; rfl
              have HE := Lib.hid hE
              clear hE hfb
              go_wp2_with fail
              go_meet
              rw [HE.out]
              have h2 := HBS.out.kind 2
              exact ⟨h2.fn 1, (HWW.out.other HBS.out.blk (by decide) 0 _).other h2.blk (by decide) 2 _⟩
            | false =>
              have hE : m' = m := by rw [HFX.out, fixM_eq, hfb]; rfl
              have HE := Lib.hid hE
              clear hE hfb
              go_wp2_with fail
              go_meet
              rw [HE.out]
              exact ⟨HBS.out, HWW.out⟩
          case rest =>
            obtain ⟨hB2, hW2⟩ := hcut
            clear HBS HWW
            have HBS := Lib.hid hB2
            have HWW := Lib.hid hW2
            have hIc := HI.out.mvG HBS.out.mv (by decide) (by decide) (by decide)
            have HIC := Lib.hid hIc
            have hl89 : s.top.length ≤ 90 := by
              have h1 := HDI.out.len s.cur
              rw [HSS.out] at h1
              unfold PS.top
              omega
            clear hB2 hW2 hIc
            go_upto_region 42 with fail
            go_cut [149] (fun s149 wx => s149 = .bool (skipB s m') ∧ ∃ q, wx = wc.drewN q)
            case first => as_aux_lemma =>
              obtain ⟨b0, b1, b2, b3, b4, b5, z0, z1, z2, z3, z4⟩ := HBS.out.cells
              clear b1 b2 b3 b4 b5 z0 z1 z2 z3 z4
              clear HR HC HMV HPOT HDI HSS HINV HNX HEND hwl HM HT HX HS HI HW HBS HWW HRO HNM HFX HRR EFN HFN ELN EC1 EVS EC2 HB0 HSZ
              clear hp1 hp2 hpp hpl hl4 hvl hkv hft hps hpos hgl hp hcode hle htk0 htk1 hwl1 hmb hlt hlt' hsr hs0 hs1 hs2 hg hgw hn
              cases hs : s.top with
              | nil =>
                have HTP := Lib.hid hs
                have w200 : IntKind.i64.wrap (-1 + 1) = 0 := by decide
                by_cases hk3 : m'.kind = 3
                · have hd1 : (m'.kind == 3) = true := by simp [hk3]
                  have HE := Lib.hid (show skipB s m' = true by unfold skipB; rw [hs, hk3]; rfl)
                  clear hs hk3
                  go_quiet ((go_at_call 84; exact Calls.quiet_of (top_nil _ gS TS s f _ (HIC.out.later (by repeat (with_reducible first | exact Below.refl _ _ | exact HL.out | refine bl_drewN ?_ _ | refine bl_drew ?_ | refine bl_alloc ?_ _ | refine bl_set ?_ (by dsimp only; omega) _))) hq0 hq1 HTP.out)))
                  go_wp2_with fail
                  go_meet
                  exact ⟨by rw [HE.out], _, rfl⟩
                · have hd1 : (m'.kind == 3) = false := by simp [hk3]
                  have HE := Lib.hid (show skipB s m' = false by unfold skipB; rw [hs]; simp [hk3])
                  clear hs hk3
                  go_quiet ((go_at_call 84; exact Calls.quiet_of (top_nil _ gS TS s f _ (HIC.out.later (by repeat (with_reducible first | exact Below.refl _ _ | exact HL.out | refine bl_drewN ?_ _ | refine bl_drew ?_ | refine bl_alloc ?_ _ | refine bl_set ?_ (by dsimp only; omega) _))) hq0 hq1 HTP.out)))
                  go_wp2_with fail
                  go_meet
                  exact ⟨by rw [HE.out], _, rfl⟩
              | cons fr rr =>
                have HTP := Lib.hid hs
                obtain ⟨b, cap, k0, k1, k2, hc1, hc2, hv, hrow, d0, d1, d2, hfz, -⟩ := HIC.out.tops hq0 hq1 hs
                have hlr : rr.length + 1 ≤ 90 := by rw [hs] at hl89; simpa using hl89
                obtain ⟨n1, hn1⟩ : ∃ n1, n1 = rr.length + 1 := ⟨_, rfl⟩
                rw [← hn1] at k2 hc1
                have hi0 : (0 : Int) ≤ (rr.length : Int) := by omega
                have hi1 : (rr.length : Int) < (n1 : Int) := by omega
                have hi2 : ((rr.length : Int) < 0) ↔ False := by simp
                have hi3 : (rr.length : Int).toNat = rr.length := by simp
                have hx : s.cur < 101 := by omega
                have hw1 : IntKind.i64.wrap ((rr.length : Int) + 1) = (rr.length : Int) + 1 := IntWalk.i64_in _ (by omega)
                have hw2 : ((rr.length : Int) + 1 == 200) = false := by rw [beq_eq_false_iff_ne]; omega
                have hne2 : ¬ (fr :: rr).length = 200 := by simp; omega
                clear hv hrow hfz hn1 hc1 hc2 d0 d1
                by_cases hk3 : m'.kind = 3
                · have hd1 : (m'.kind == 3) = true := by simp [hk3]
                  by_cases hfm : fr.frm < 0
                  · have hd2 : decide (fr.frm < 0) = true := by simp [hfm]
                    have HE := Lib.hid (show skipB s m' = true by unfold skipB; rw [hs, hk3]; simp [hfm])
                    clear hs hk3 hne2
                    go_quiet ((go_at_call 84; exact Calls.quiet_of (top_cons _ gS TS s f _ (HIC.out.later (by repeat (with_reducible first | exact Below.refl _ _ | exact HL.out | refine bl_drewN ?_ _ | refine bl_drew ?_ | refine bl_alloc ?_ _ | refine bl_set ?_ (by dsimp only; omega) _))) hq0 hq1 HTP.out)))
                    go_wp2_with fail
                    go_meet
                    exact ⟨by rw [HE.out], _, rfl⟩
                  · have hd2 : decide (fr.frm < 0) = false := by simp; omega
                    have HE := Lib.hid (show skipB s m' = false by unfold skipB; rw [hs, hk3, decide_eq_false hne2]; simp; omega)
                    clear hs hk3 hne2
                    go_quiet ((go_at_call 84; exact Calls.quiet_of (top_cons _ gS TS s f _ (HIC.out.later (by repeat (with_reducible first | exact Below.refl _ _ | exact HL.out | refine bl_drewN ?_ _ | refine bl_drew ?_ | refine bl_alloc ?_ _ | refine bl_set ?_ (by dsimp only; omega) _))) hq0 hq1 HTP.out)))
                    go_wp2_with fail
                    go_meet
                    exact ⟨by rw [HE.out], _, rfl⟩
                · have hd1 : (m'.kind == 3) = false := by simp [hk3]
                  have HE := Lib.hid (show skipB s m' = false by unfold skipB; rw [hs, decide_eq_false hne2]; simp [hk3])
                  clear hs hk3 hne2
                  go_quiet ((go_at_call 84; exact Calls.quiet_of (top_cons _ gS TS s f _ (HIC.out.later (by repeat (with_reducible first | exact Below.refl _ _ | exact HL.out | refine bl_drewN ?_ _ | refine bl_drew ?_ | refine bl_alloc ?_ _ | refine bl_set ?_ (by dsimp only; omega) _))) hq0 hq1 HTP.out)))
                  go_wp2_with fail
                  go_meet
                  exact ⟨by rw [HE.out], _, rfl⟩
            case rest =>
              obtain ⟨rfl, qd2, hwd⟩ := hcut
              rename World => we
              have hbd : Below wc.heap.size wc we := by rw [hwd]; exact bl_drewN (Below.refl _ _) _
              replace HBS := Lib.hid (HBS.out.later hbd)
              replace HWW := Lib.hid (HWW.out.later hbd)
              clear HIC hwd hbd
              obtain ⟨g', kk, hpot', hpos', hkk, hgk⟩ := pot_step hcode hn HDI.out HPOT.out hlt
              have hnx := HNX.out
              rw [if_pos hlt] at hnx
              cases hsk : skipB s m' with
              | true =>
                have hst : trStep code T = ⟨cr, T.ms, wsr, tkr⟩ := by
                  unfold trStep
                  rw [HNM.out, HSS.out, hsk, if_pos rfl, HRR.out]
                have HST := Lib.hid (hnx.trans hst)
                rw [hst] at hpot' hpos'
                have HPOT2 := Lib.hid hpot'
                dsimp only at hpos'
                clear hsk hnx hst hpot'
                go_wp2
                go_roundg g'
                case measure => omega
                case rel =>
                  refine ⟨k + 1, _, f, by rw [HST.out], by rw [HST.out]; exact HM.out.mv HBS.out.mv (by decide) (by decide), HT.out.mv HBS.out.mv (by decide), HX.out.mv HBS.out.mv (by decide), HS.out.mv HBS.out.mv (by decide), ?_, by rw [HST.out]; exact HWW.out, by rw [HST.out]; exact HBS.out.cu, HBS.out.m0, by rw [HST.out]; exact HPOT2.out, by rw [HST.out]; dsimp only; omega, Nat.le_trans hsr HBS.out.mv.bl.size⟩
                  rw [HST.out]
                  dsimp only
                  rw [HSS.out]
                  exact HI.out.mvG HBS.out.mv (by decide) (by decide) (by decide)
              | false =>
                have hst : trStep code T = ⟨cr, T.ms ++ [m'], wsr, tkr⟩ := by
                  unfold trStep
                  rw [HNM.out, HSS.out, hsk, if_neg (by simp), HRR.out]
                have HST := Lib.hid (hnx.trans hst)
                rw [hst] at hpot' hpos'
                have HPOT2 := Lib.hid hpot'
                dsimp only at hpos'
                have hnew := HDI.out.new (code := code) (by rw [HSS.out, HNM.out]; exact hsk)
                rw [HNM.out, HSS.out] at hnew
                have HCHK := Lib.hid hnew.2.1
                have HIC := Lib.hid (HI.out.mvG HBS.out.mv (by decide) (by decide) (by decide))
                have HTE := Lib.hid (HT.out.mv HBS.out.mv (by decide))
                obtain ⟨b0, b1, b2, b3, b4, b5, z0, z1, z2, z3, z4⟩ := HBS.out.cells
                have x1 : we.cell? ⟨w.heap.size + 2, 1, none⟩ = some (.slice A3 T.ms.length c3x) := HTE.out.cell (j := 1) (by omega)
                clear hsk hnx hst hpot' hnew z0 z1 z2 z3 z4
                go_wp2_with fail
                clear x1 b0 b1 b2 b3 b4 b5
                refine (move_calls _ gS TS s f m' Av vs.length cvx T.ms.length T.ms.length _ HIC.out HINV.out).mono ?_; rintro e wm ⟨rfl, hmm, hII⟩
                obtain ⟨f', hI'⟩ := hII HCHK.out
                have HI2 := Lib.hid hI'
                have HMO := Lib.hid ((HM.out.mv HBS.out.mv (by decide) (by decide)).mv hmm (by decide) (by decide))
                replace HTE := Lib.hid (HTE.out.mv hmm (by decide))
                have HXE := Lib.hid ((HX.out.mv HBS.out.mv (by decide)).mv hmm (by decide))
                have HSE := Lib.hid ((HS.out.mv HBS.out.mv (by decide)).mv hmm (by decide))
                have HWE := Lib.hid (HWW.out.mv hmm (by decide))
                have HCE := Lib.hid (HBS.out.cu.mv hmm (by decide))
                have HVE := Lib.hid (HBS.out.va.mv hmm (by decide))
                have HBE := Lib.hid (HBS.out.blk.mv hmm (by decide))
                have HME := Lib.hid (mv_new HBS.out.m0 (by omega) hmm.bl)
                have hsz5 : w.heap.size + 3 ≤ wm.heap.size := Nat.le_trans hsr (Nat.le_trans HBS.out.mv.bl.size hmm.bl.size)
                clear hI' hII hmm HIC HBS HWW
                have b0 : wm.cell? ⟨mb, 0, none⟩ = some (.int .i64 m'.kind) := HBE.out.cell (j := 0) (by omega)
                have b1 : wm.cell? ⟨mb, 1, none⟩ = some (.int .i64 m'.task) := HBE.out.cell (j := 1) (by omega)
                have b2 : wm.cell? ⟨mb, 2, none⟩ = some (.int .i64 m'.fn) := HBE.out.cell (j := 2) (by omega)
                have b3 : wm.cell? ⟨mb, 3, none⟩ = some (.int .i64 m'.line) := HBE.out.cell (j := 3) (by omega)
                have b4 : wm.cell? ⟨mb, 4, none⟩ = some (.string m'.text) := HBE.out.cell (j := 4) (by omega)
                have b5 : wm.cell? ⟨mb, 5, none⟩ = some (.slice Av vs.length cvx) := HBE.out.cell (j := 5) (by omega)
                have x1 : wm.cell? ⟨w.heap.size + 2, 1, none⟩ = some (.slice A3 T.ms.length c3x) := HTE.out.cell (j := 1) (by omega)
                have hlm : T.ms.length ≤ 1048576 := by omega
                have hlo5 : w.heap.size ≤ wm.heap.size := by omega
                go_wp2_with (at_builtin; refine stopped ?_)
                unfold Stopped
                refine wpList_appendM _ (by rfl) _ _ (by rfl) w.heap.size _ T.ms m' (.slice Av vs.length cvx) (by rfl) HMO.out HVE.out _ (by rfl) (by rfl) hlo5 hlm ?_
                intro ga cap w5 hM5 hm5 hs5
                have hlA : (T.ms ++ [m']).length = T.ms.length + 1 := by simp
                obtain ⟨msA, hmsA⟩ : ∃ l, T.ms ++ [m'] = l := ⟨_, rfl⟩
                have hstA : stN (T.ms ++ [m']) (T.ms ++ [m']).length = stepP s m' T.ms.length := by rw [stN_snoc, HSS.out]
                rw [hmsA] at hM5 hstA ⊢
                have HSTA := Lib.hid hstA
                have hst2 := HST.out
                rw [hmsA] at hst2
                have HST2 := Lib.hid hst2
                have HPOT3 := HPOT2.out
                rw [hmsA] at HPOT3
                have HPOT4 := Lib.hid HPOT3
                have HM5 := Lib.hid hM5
                have HT5 := Lib.hid (HTE.out.mv hm5 (by decide))
                have HX5 := Lib.hid (HXE.out.mv hm5 (by decide))
                have HS5 := Lib.hid (HSE.out.mv hm5 (by decide))
                have HW5 := Lib.hid (HWE.out.mv hm5 (by decide))
                have HC5 := Lib.hid (HCE.out.mv hm5 (by decide))
                have HI5 := Lib.hid (HI2.out.mvG hm5 (by decide) (by decide) (by decide))
                have HME5 := Lib.hid (mv_new HME.out (by omega) hm5.bl)
                clear hM5 hm5 hmsA hstA hst2 HPOT3 b0 b1 b2 b3 b4 b5 x1 hlA HMO HTE HXE HSE HWE HCE HVE HBE HME HI2 HPOT2 HST
                have x1 : w5.cell? ⟨w.heap.size + 2, 1, none⟩ = some (.slice A3 T.ms.length c3x) := HT5.out.cell (j := 1) (by omega)
                have f1 := HT5.out.free 1
                go_wp2
                go_roundg g'
                case measure => omega
                case rel =>
                  have hm9 : Mv [26] w.heap.size w5 (w5.setCell ⟨w.heap.size + 2, 1, none⟩ (.slice (some ⟨ga, 0, none⟩) msA.length cap)) := (Mv.refl _ _ _).set (p := ⟨w.heap.size + 2, 1, none⟩) (by dsimp only; omega) HT5.out (List.mem_singleton.2 rfl) _
                  refine ⟨k + 1, _, f', by rw [HST2.out], by rw [HST2.out]; exact HM5.out.mv hm9 (by decide) (by decide), trF_set HT5.out _, HX5.out.far (by dsimp only; omega) _, HS5.out.mv hm9 (by decide), ?_, by rw [HST2.out]; exact HW5.out.mv hm9 (by decide), by rw [HST2.out]; exact HC5.out.mv hm9 (by decide), mv_new HME5.out (by omega) hm9.bl, by rw [HST2.out]; exact HPOT4.out, by rw [HST2.out]; dsimp only; omega, by rw [World.size_setCell]; omega⟩
                  rw [HST2.out]
                  dsimp only
                  rw [HSTA.out]
                  exact HI5.out.mvG hm9 (by decide) (by decide) (by decide)
    · have hend := HEND.out (by omega)
      have HE := Lib.hid hend
      have hlt' : ¬ (T.ms.length : Int) < (n : Int) := by omega
      have y0 : wr.cell? ⟨w.heap.size + 2, 0, none⟩ = some (.slice (some ⟨w.heap.size + 1, 0, none⟩) 4 4) := HT.out.cell (j := 0) (by omega)
      have y1 : wr.cell? ⟨w.heap.size, 0, none⟩ = some (.slice none 0 0) := HX.out.cell (j := 0) (by omega)
      have y2 : wr.cell? ⟨w.heap.size, 1, none⟩ = some (.slice none 0 0) := HX.out.cell (j := 1) (by omega)
      have f0 := HX.out.free 0
      have f1 := HX.out.free 1
      clear hend
      go_wp2_with fail
      refine bodyPost_ret (v := .agg #[.slice (some ⟨w.heap.size + 1, 0, none⟩) 4 4, .slice A3 T.ms.length c3x]) (by simp [results, Tryz.results34, go_sem, y1, y2]) rfl ⟨_, _, rfl, by omega, ?_, ?_, ?_, ?_, ?_⟩
      · exact (HS.out.far (by dsimp only; omega) _).far (by dsimp only; omega) _
      · rw [HE.out]
        have h1 := hM_far0 HM.out HX.out 0 (by omega) (.slice (some ⟨w.heap.size + 1, 0, none⟩) 4 4)
        exact hM_far0 h1 (HX.out.set (j := 0) (by omega) (.slice (some ⟨w.heap.size + 1, 0, none⟩) 4 4)) 1 (by omega) _
      · rw [HE.out]
        exact ⟨(HC.out.blk.far (by dsimp only; omega) _).far (by dsimp only; omega) _, HC.out.sd⟩
      · rw [HE.out]; omega
      · exact (HMV.out.setNew (by dsimp only; omega) (by dsimp only; omega) _).setNew (by dsimp only; omega) (by dsimp only; omega) _
end Go.Proofs.YtcklnjjbhngbcaaGreatDoor
