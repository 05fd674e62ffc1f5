/- Counts by line put in order: what slices.SortFunc makes of the entries of a map, in whatever order they came. -/
import Derived.Test.YtcklnjjbhngbcaaP10
import Derived.Test.YtcklnjjbhngbcaaB7
import Derived.Test.YtcklnjjbhngbcaaF0
import Derived.Shelf.SlSortCmp.WholeK
namespace Go.Proofs.Lens
open Go.RowKit Go.Sort Go.Proofs.Ytcklnjjbhngbcaa

def LcOk (x : PLc) : Prop := 0 ≤ x.fn ∧ x.fn ≤ 1000000 ∧ 0 ≤ x.line ∧ x.line ≤ 1000000
abbrev LcS := {x : PLc // LcOk x}
instance : Inhabited LcS := ⟨⟨⟨0, 0, 0⟩, by unfold LcOk; decide⟩⟩
def lcEnc (x : LcS) : List Value := [.int .i64 x.1.fn, .int .i64 x.1.line, .int .i64 x.1.cnt]
def lcCf (a b : LcS) : Int := if a.1.fn - b.1.fn ≠ 0 then a.1.fn - b.1.fn else a.1.line - b.1.line
theorem lcCf_lt (a b : LcS) : ltOf lcCf a b = lcLt a.1 b.1 := by
  unfold ltOf lcCf
  rw [Bool.eq_iff_iff, lcLt_iff, decide_eq_true_eq]
  split <;> omega
theorem lcSwo : SWO (ltOf lcCf) where
  irrefl x := by rw [lcCf_lt, lcLt_not]; omega
  trans x y z h1 h2 := by rw [lcCf_lt] at *; exact lcLt_trans h1 h2
  ntrans x y z h1 h2 := by rw [lcCf_lt, lcLt_not] at *; omega
def lcOut (d : Array LcS) : List PLc := d.toList.map (·.1)
theorem lcOut_len (d : Array LcS) : (lcOut d).length = d.size := by simp [lcOut]
theorem lcOut_elt (d : Array LcS) {i : Nat} (h : i < d.size) : elt (lcOut d) i = d[i]!.1 := by
  rw [elt_eq (by rw [lcOut_len]; exact h), getElem!_pos d i h]
  simp [lcOut]
/-- A list of such as an array. -/
def lcArr (l : List PLc) (h : ∀ x ∈ l, LcOk x) : Array LcS := (l.attachWith LcOk h).toArray
theorem lcArr_size (l : List PLc) (h : ∀ x ∈ l, LcOk x) : (lcArr l h).size = l.length := by simp [lcArr]
theorem lcArr_out (l : List PLc) (h : ∀ x ∈ l, LcOk x) : lcOut (lcArr l h) = l := by simp [lcOut, lcArr]
/-- Keys that differ. -/
def LcApart (l : List PLc) : Prop := l.Pairwise fun a b => ¬ (a.fn = b.fn ∧ a.line = b.line)
theorem lc_ordered {d d' : Array LcS} {r : List PLc} (hp : PermIn 0 d.size d d') (hs : SortedIn (ltOf lcCf) 0 d.size d') (ha : LcApart (lcOut d)) (hr : LcSorted r) (hm : ∀ x, x ∈ lcOut d ↔ x ∈ r) : lcOut d' = r := by
  obtain ⟨h1, -, h3⟩ := hp
  have e1 : d'.extract 0 d.size = d' := by rw [← h1]; simp
  have e2 : d.extract 0 d.size = d := by simp
  rw [e1, e2] at h3
  have hperm : (lcOut d').Perm (lcOut d) := h3.map _
  have hap : LcApart (lcOut d') := (hperm.pairwise_iff (fun {a b} h hh => h ⟨hh.1.symm, hh.2.symm⟩)).2 ha
  refine lcSorted_one ?_ hr fun x => (hperm.mem_iff).trans (hm x)
  unfold LcSorted
  unfold LcApart at hap
  rw [List.pairwise_iff_getElem] at hap ⊢
  intro i j hi hj hij
  have h4 := hap i j hi hj hij
  rw [lcOut_len] at hi hj
  have h5 := hs i j (Nat.zero_le _) hij (by omega)
  rw [lcCf_lt, ← lcOut_elt d' (by omega), ← lcOut_elt d' (by omega), elt_eq (by rw [lcOut_len]; omega), elt_eq (by rw [lcOut_len]; omega), lcLt_not] at h5
  rw [lcLt_iff]
  omega
/-- The slice's row as the sort wants it. -/
theorem lc_holds {w : World} {lo : Nat} {e : TypeId} {b cap : Nat} {d : Array LcS} (h : OwR w lo e 3 d.size (lcC (lcOut d)) (.slice (some ⟨b, 0, none⟩) d.size cap)) : HoldsK lcEnc 3 w b 0 d := by
  intro j hj
  rw [size_flatK] at hj
  obtain ⟨A, c, he, hop⟩ := h.open'
  cases he
  have hpos : 0 < d.size := by omega
  obtain ⟨b', hb, -, -, hcell, hfr⟩ := hop hpos
  cases hb
  refine ⟨?_, by rw [Nat.zero_add]; exact hfr j⟩
  have h1 : j / 3 < d.size := by omega
  have h2 : j % 3 < 3 := by omega
  have h3 := hcell (j / 3) h1 (j % 3) h2
  rw [Nat.zero_add, get_flatK _ _ _ _ hj]
  have e1 : j / 3 * 3 + j % 3 = j := by omega
  rw [e1] at h3
  rw [h3]
  unfold lcC lcEnc
  rw [lcOut_elt d h1]
  rcases (show j % 3 = 0 ∨ j % 3 = 1 ∨ j % 3 = 2 by omega) with hh | hh | hh <;> rw [hh] <;> rfl
/-- .. and as it leaves it. -/
theorem lc_sorted_row {w : World} {lo : Nat} {e : TypeId} {b cap n m : Nat} {C : Nat → Nat → Value} {d' : Array LcS} {os : Array Obj} (h : OwR w lo e 3 n C (.slice (some ⟨b, 0, none⟩) n cap)) (hn : d'.size = n) :
    OwR (sortWorldK lcEnc 3 w b 0 m d' os) lo e 3 n (lcC (lcOut d')) (.slice (some ⟨b, 0, none⟩) n cap) := by
  rcases h with ⟨h, _⟩ | ⟨b', cap', f, h1, h2, h3, h4, h5, h6⟩
  · cases h
  · cases h1
    obtain ⟨cur, c1, c2, c3⟩ := h5
    have hlt : b < w.heap.size := (Array.getElem?_eq_some_iff.1 c1).1
    have hg : (sortWorldK lcEnc 3 w b 0 m d' os).heap[b]? = some (onCells (putCells id 0 (flatK lcEnc 3 d')) (w.heap[b]'hlt)) := by
      unfold sortWorldK
      rw [heap_grow_old _ _ (by show b < (Array.modify _ _ _).size; simpa using hlt)]
      show (w.heap.modify b _)[b]? = _
      rw [Array.getElem?_modify, if_pos rfl, Array.getElem?_eq_getElem hlt]
      rfl
    have c1' : w.heap[b]'hlt = _ := Option.some.inj ((Array.getElem?_eq_getElem hlt).symm.trans c1)
    rw [c1'] at hg
    refine .inr ⟨b, cap, fun p => if p < n * 3 then (flatK lcEnc 3 d')[p]! else f p, rfl, h2, h3, h4, ⟨_, hg, by simp [putCells, c2], fun p hp => ?_⟩, fun i hi j hj => ?_⟩
    · have := c3 p hp
      simp only [putCells, Array.getElem?_mapIdx, this, Option.map_some, size_flatK, hn, Nat.zero_le, true_and, Nat.zero_add, Nat.sub_zero, id]
    · have hlt2 := mul_lt hi hj
      dsimp only
      rw [if_pos hlt2, get_flatK _ _ _ _ (by omega)]
      have e1 : (i * 3 + j) / 3 = i := by omega
      have e2 : (i * 3 + j) % 3 = j := by omega
      rw [e1, e2]
      unfold lcC lcEnc
      rw [lcOut_elt d' (by omega)]
      match j, hj with
      | 0, _ => rfl
      | 1, _ => rfl
      | 2, _ => rfl
theorem lc_sorted_below {w : World} {b m lo : Nat} {d' : Array LcS} {os : Array Obj} (hl : lo ≤ b) (hb : b < w.heap.size) : Below lo w (sortWorldK lcEnc 3 w b 0 m d' os) := by
  refine ⟨rfl, rfl, rfl, ?_, fun i hi => ?_⟩
  · unfold sortWorldK
    rw [size_grow]
    show w.heap.size ≤ (Array.modify _ _ _).size + _
    simp
  · unfold sortWorldK
    rw [heap_grow_old _ _ (by show i < (Array.modify _ _ _).size; simp; omega)]
    show (w.heap.modify b _)[i]? = _
    rw [Array.getElem?_modify, if_neg (by omega)]
/-! ### what the map holds -/
def lcM (ms : List PMom) (n : Nat) (x : Int × Int) : Option Int := if 0 < lcK ms x.1 x.2 n then some (lcK ms x.1 x.2 n) else none
theorem lcM_getD (ms : List PMom) (n : Nat) (x : Int × Int) : (lcM ms n x).getD 0 = lcK ms x.1 x.2 n := by
  have := lcK_bd ms x.1 x.2 n
  unfold lcM
  split
  · rfl
  · show (0 : Int) = _; omega
theorem lcM_zero (ms : List PMom) (x : Int × Int) : lcM ms 0 x = none := by simp [lcM, lcK]
theorem lcM_skip {ms : List PMom} {n : Nat} (h : (elt ms n).kind ≠ 1) : lcM ms (n + 1) = lcM ms n := by
  funext x
  have e : lcK ms x.1 x.2 (n + 1) = lcK ms x.1 x.2 n := by rw [lcK, if_neg (fun hh => h hh.1)]
  unfold lcM
  rw [e]
theorem lcM_step {ms : List PMom} {n : Nat} (h : (elt ms n).kind = 1) (x : Int × Int) : setM (lcM ms n) ((elt ms n).fn, (elt ms n).line) (lcK ms (elt ms n).fn (elt ms n).line n + 1) x = lcM ms (n + 1) x := by
  have hb := lcK_bd ms (elt ms n).fn (elt ms n).line n
  obtain ⟨a, b⟩ := x
  unfold setM lcM
  dsimp only
  by_cases he : (a, b) = ((elt ms n).fn, (elt ms n).line)
  · rw [if_pos he]
    simp only [Prod.mk.injEq] at he
    obtain ⟨rfl, rfl⟩ := he
    have e : lcK ms (elt ms n).fn (elt ms n).line (n + 1) = lcK ms (elt ms n).fn (elt ms n).line n + 1 := by rw [lcK, if_pos ⟨h, rfl, rfl⟩]
    rw [e, if_pos (by omega)]
  · have e : lcK ms a b (n + 1) = lcK ms a b n := by rw [lcK, if_neg (fun hh => he (by rw [hh.2.1, hh.2.2]))]
    rw [if_neg he, e]
theorem lcK_pos {ms : List PMom} {fn line : Int} : ∀ {n}, 0 < lcK ms fn line n → ∃ i, i < n ∧ (elt ms i).kind = 1 ∧ (elt ms i).fn = fn ∧ (elt ms i).line = line
  | 0, h => by simp [lcK] at h
  | n + 1, h => by
    rw [lcK] at h
    by_cases hc : (elt ms n).kind = 1 ∧ (elt ms n).fn = fn ∧ (elt ms n).line = line
    · exact ⟨n, by omega, hc⟩
    · rw [if_neg hc] at h
      obtain ⟨i, hi, hh⟩ := lcK_pos h
      exact ⟨i, by omega, hh⟩
theorem mom_line {nf : Nat} {m : PMom} (h : momOk nf m = true) : 0 ≤ m.line ∧ m.line ≤ 100000 := by
  simp only [momOk, momHd, Bool.and_eq_true] at h
  exact inB_true.1 h.1.1.1.1.2
theorem lcK_ok {t : PTr} (h : Sound t) {n : Nat} (hn : n ≤ t.moms.length) {fn line : Int} (hk : 0 < lcK t.moms fn line n) : 0 ≤ fn ∧ fn ≤ 300 ∧ 0 ≤ line ∧ line ≤ 100000 := by
  obtain ⟨i, hi, -, rfl, rfl⟩ := lcK_pos hk
  have h1 := mom_fn' (h.moms i (by omega))
  have h2 := mom_line (h.moms i (by omega))
  have h3 := sound_fns h
  omega
/-- The entries that have come out of the map, in whatever order. -/
structure LcSo (ms : List PMom) (N : Nat) (l : List PLc) (left : Int × Int → Bool) (cnt : Nat) : Prop where
  mem : ∀ x, x ∈ l ↔ (x.cnt = lcK ms x.fn x.line N ∧ 0 < x.cnt ∧ left (x.fn, x.line) = false)
  apart : LcApart l
  len : l.length + cnt ≤ N
theorem lcSo0 (ms : List PMom) (N : Nat) {cnt : Nat} (h : cnt ≤ N) : LcSo ms N [] (fun x => (lcM ms N x).isSome) cnt where
  mem x := by
    simp only [List.not_mem_nil, false_iff]
    rintro ⟨h1, h2, h3⟩
    unfold lcM at h3
    rw [if_pos (by dsimp only; omega)] at h3
    cases h3
  apart := List.Pairwise.nil
  len := by simpa using h
theorem LcSo.push {ms : List PMom} {N : Nat} {l : List PLc} {left : Int × Int → Bool} {cnt cnt' : Nat} (h : LcSo ms N l left cnt) {x : Int × Int} {y : Int} (hl : left x = true) (hM : lcM ms N x = some y) (hc : cnt' < cnt) :
    LcSo ms N (l ++ [⟨x.1, x.2, y⟩]) (fun i => left i && !decide (i = x)) cnt' := by
  have hy : y = lcK ms x.1 x.2 N ∧ 0 < y := by
    unfold lcM at hM
    split at hM
    · cases hM; exact ⟨rfl, by assumption⟩
    · cases hM
  have hnew : ∀ z ∈ l, ¬ (z.fn = x.1 ∧ z.line = x.2) := fun z hz hh => by
    have h1 := ((h.mem z).1 hz).2.2
    rw [show (z.fn, z.line) = x from Prod.ext hh.1 hh.2, hl] at h1
    cases h1
  refine ⟨fun z => ?_, ?_, by have := h.len; simp; omega⟩
  · rw [List.mem_append, List.mem_singleton]
    constructor
    · rintro (hz | rfl)
      · obtain ⟨h1, h2, h3⟩ := (h.mem z).1 hz
        exact ⟨h1, h2, by rw [h3]; rfl⟩
      · exact ⟨hy.1, hy.2, by simp⟩
    · rintro ⟨h1, h2, h3⟩
      by_cases he : (z.fn, z.line) = x
      · right
        subst he
        obtain ⟨a, b, c⟩ := z
        dsimp only at hy h1 ⊢
        rw [h1, hy.1]
      · left
        rw [decide_eq_false he] at h3
        exact (h.mem z).2 ⟨h1, h2, by simpa using h3⟩
  · unfold LcApart
    rw [List.pairwise_append]
    refine ⟨h.apart, List.pairwise_singleton .., fun a ha b hb => ?_⟩
    rw [List.mem_singleton] at hb
    subst hb
    exact hnew a ha
theorem LcSo.done {t : PTr} (hs : Sound t) {l : List PLc} {left : Int × Int → Bool} {cnt : Nat} (h : LcSo t.moms t.moms.length l left cnt) (hl : ∀ x : Int × Int, ok64 x.1 ∧ ok64 x.2 → left x = false) :
    (∀ x, x ∈ l ↔ x ∈ lcN t.moms t.moms.length) ∧ ∀ x ∈ l, LcOk x := by
  refine ⟨fun x => ?_, fun x hx => ?_⟩
  · rw [h.mem, lcN_mem]
    constructor
    · rintro ⟨h1, h2, -⟩; exact ⟨h1, h2⟩
    · rintro ⟨h1, h2⟩
      have := lcK_ok hs (Nat.le_refl _) (fn := x.fn) (line := x.line) (by omega)
      exact ⟨h1, h2, hl _ ⟨by unfold ok64; dsimp only; omega, by unfold ok64; dsimp only; omega⟩⟩
  · obtain ⟨h1, h2, -⟩ := (h.mem x).1 hx
    have := lcK_ok hs (Nat.le_refl _) (fn := x.fn) (line := x.line) (by omega)
    unfold LcOk
    omega
theorem lc_len (t : PTr) : (lcP t).length ≤ 1048576 := by
  unfold lcP
  split
  · rename_i h
    have := sound_fns (sound_iff h)
    have := lcN_len t.moms t.moms.length
    omega
  · simp
end Go.Proofs.Lens
