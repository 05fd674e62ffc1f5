/- The plain side of FnWatch: what a watch hits in a trace that is built line by line. -/
import Derived.Test.YtcklnjjbhngbcaaGreatDoorP6
namespace Go.Proofs.Lens

theorem elt_app {α : Type} [Inhabited α] (a b : List α) {i : Nat} (h : i < a.length) : elt (a ++ b) i = elt a i := by
  rw [elt_eq (by simp; omega), elt_eq h, List.getElem_append_left h]
theorem elt_last {α : Type} [Inhabited α] (a : List α) (x : α) : elt (a ++ [x]) a.length = x := by
  rw [elt_eq (by simp)]; simp
theorem stN_app (a b : List PMom) : ∀ k, k ≤ a.length → stN (a ++ b) k = stN a k
  | 0, _ => rfl
  | k + 1, h => by
    show stepP (stN (a ++ b) k) (elt (a ++ b) k) k = stepP (stN a k) (elt a k) k
    rw [stN_app a b k (by omega), elt_app a b (by omega)]
theorem shownP_app (a b : List PMom) {k : Nat} (h : k < a.length) : shownP (a ++ b) k = shownP a k := by
  unfold shownP shownS
  rw [elt_app a b h, stN_app a b k (by omega), stN_app a b (k + 1) (by omega)]
theorem watN_app (a b : List PMom) (nm : ByteArray) (fn : Int) : ∀ k, k ≤ a.length → watN (a ++ b) nm fn k = watN a nm fn k
  | 0, _ => rfl
  | k + 1, h => by
    simp only [watN]
    rw [watN_app a b nm fn k (by omega), shownP_app a b (by omega), elt_app a b (by omega)]
theorem holdsP_app (a b : List PMom) (s : PStop) {k : Nat} (h : k < a.length) : holdsP (a ++ b) s k = holdsP a s k := by
  unfold holdsP
  rw [watN_app a b _ _ k (by omega), shownP_app a b h, elt_app a b h]
theorem hitsN_app (a b : List PMom) (s : PStop) : ∀ k, k ≤ a.length → hitsN (a ++ b) s k = hitsN a s k
  | 0, _ => rfl
  | k + 1, h => by
    simp only [hitsN]
    rw [hitsN_app a b s k (by omega), holdsP_app a b s (by omega)]
/-- What a moment shows, out of what stood ahead of it. -/
def shS (S : PS) (m : PMom) (k : Nat) : Option (Int × PFr) :=
  match (if m.kind = 3 then S else stepP S m k).top with | [] => none | f :: _ => some ((if m.kind = 3 then S else stepP S m k).cur, f)
structure Run (nf : Nat) (s : PStop) (ms : List PMom) (S : PS) (W : Int → Option ByteArray) (H : List Int) : Prop where
  st : stN ms ms.length = S
  wt : watN ms s.nm s.fn ms.length = W
  ht : hitsN ms s ms.length = H
  ok : ∀ k, k < ms.length → momOk nf (elt ms k) = true ∧ checkP (stN ms k) (elt ms k) = 0
theorem Run.snoc {nf : Nat} {s : PStop} {ms : List PMom} {S : PS} {W : Int → Option ByteArray} {H : List Int} (h : Run nf s ms S W H) (hs : s.kind = 3) (m : PMom) (hm : momOk nf m = true) (hc : checkP S m = 0) :
    Run nf s (ms ++ [m]) (stepP S m ms.length) (fun i => watStep W (shS S m ms.length) (valP m.vars s.nm) s.fn i)
      (if watHit W (shS S m ms.length) (valP m.vars s.nm) s.fn = true then H ++ [(ms.length : Int)] else H) := by
  obtain ⟨h1, h2, h3, h4⟩ := h
  have hl : (ms ++ [m]).length = ms.length + 1 := by simp
  have s0 : stN (ms ++ [m]) ms.length = S := by rw [stN_app _ _ _ (Nat.le_refl _), h1]
  have s1 : stN (ms ++ [m]) (ms.length + 1) = stepP S m ms.length := by
    show stepP (stN (ms ++ [m]) ms.length) (elt (ms ++ [m]) ms.length) ms.length = _
    rw [s0, elt_last]
  have sh : shownP (ms ++ [m]) ms.length = shS S m ms.length := by
    unfold shownP shownS shS
    rw [elt_last, s0, s1]
    generalize (if m.kind = 3 then S else stepP S m ms.length) = q
    cases q.top <;> rfl
  have w0 : watN (ms ++ [m]) s.nm s.fn ms.length = W := by rw [watN_app _ _ _ _ _ (Nat.le_refl _), h2]
  refine ⟨by rw [hl]; exact s1, ?_, ?_, fun k hk => ?_⟩
  · rw [hl]
    simp only [watN]
    rw [w0, sh, elt_last]
  · rw [hl]
    simp only [hitsN]
    rw [hitsN_app _ _ _ _ (Nat.le_refl _), h3]
    have hp : holdsP (ms ++ [m]) s ms.length = watHit W (shS S m ms.length) (valP m.vars s.nm) s.fn := by
      unfold holdsP
      rw [if_neg (by omega), if_neg (by omega), if_pos hs, w0, sh, elt_last]
    rw [hp]
  · rw [hl] at hk
    by_cases hlt : k < ms.length
    · rw [elt_app _ _ hlt, stN_app _ _ _ (by omega)]; exact h4 k hlt
    · obtain rfl : k = ms.length := by omega
      rw [elt_last, s0]; exact ⟨hm, hc⟩
/-- A digit's text. -/
def dg (n : Nat) : ByteArray := ⟨#[UInt8.ofNat (48 + n)]⟩
theorem dg_inj {a b : Nat} (ha : a < 10) (hb : b < 10) : dg a = dg b ↔ a = b := by
  constructor
  · intro h
    unfold dg at h
    have h1 := congrArg ByteArray.data h
    simp only [Array.mk.injEq, List.cons.injEq, and_true] at h1
    have h2 := congrArg UInt8.toNat h1
    simp only [UInt8.toNat_ofNat'] at h2
    omega
  · rintro rfl; rfl
def wb (code : List Nat) (i : Nat) : Nat := if code.length = 0 then 0 else elt code (i % code.length)
def wv (code : List Nat) (i : Nat) : Nat := wb code i % 3
def xNm : ByteArray := ⟨#[120]⟩
def yNm : ByteArray := ⟨#[121]⟩
def qTx : ByteArray := ⟨#[113]⟩
def wS : PStop := ⟨3, 1, 0, xNm⟩
def wLn (i v : Nat) : PMom := ⟨1, 0, 1, i, ⟨#[]⟩, [⟨xNm, dg v⟩]⟩
def wIn (v : Nat) : PMom := ⟨1, 0, 1, 7, ⟨#[]⟩, [⟨yNm, qTx⟩, ⟨xNm, dg (v + 1)⟩]⟩
def wAsk (code : List Nat) (i : Nat) : Bool := decide (wb code (i + 2) % 4 = 0)
def wMs (code : List Nat) : Nat → List PMom
  | 0 => [cM]
  | i + 1 => if wAsk code i = true then wMs code i ++ [wLn (i + 1) (wv code (i + 1))] ++ [cM] ++ [wIn (wv code (i + 1))] ++ [bM] else wMs code i ++ [wLn (i + 1) (wv code (i + 1))]
def wLast (code : List Nat) : Nat → Int
  | 0 => -1
  | i + 1 => wv code (i + 1)
def wW1 (code : List Nat) (W : List Int) (i L : Nat) : List Int := if (wv code (i + 1) : Int) = wLast code i then W else W ++ [(L : Int)]
def wWant (code : List Nat) : Nat → List Int
  | 0 => []
  | i + 1 => if wAsk code i = true then wW1 code (wWant code i) i (wMs code i).length ++ [(((wMs code i).length + 2 : Nat) : Int)] else wW1 code (wWant code i) i (wMs code i).length
theorem wMs_len (code : List Nat) : ∀ i, (wMs code i).length ≤ 1 + 4 * i
  | 0 => by simp [wMs]
  | i + 1 => by
    have := wMs_len code i
    unfold wMs
    split <;> simp <;> omega
theorem wWant_len (code : List Nat) : ∀ i, (wWant code i).length ≤ 2 * i
  | 0 => by simp [wWant]
  | i + 1 => by
    have := wWant_len code i
    have h2 : (wW1 code (wWant code i) i (wMs code i).length).length ≤ (wWant code i).length + 1 := by unfold wW1; split <;> simp
    unfold wWant
    split <;> simp <;> omega
def wSt (i : Nat) : PS := one [⟨1, i, 0⟩, ⟨0, 0, -1⟩]
theorem one_inj {a b : List PFr} (h : a = b) : one a = one b := by rw [h]
theorem w_ln (i v L : Nat) : stepP (wSt i) (wLn (i + 1) v) L = wSt (i + 1) := by
  unfold stepP
  rw [if_neg (by simp [wLn]), if_neg (by simp [wLn]), if_neg (by simp [wLn]), if_pos (by rfl)]
  unfold wSt
  rw [one_top, one_put]
  simp [wLn]
theorem w_cM (i L : Nat) : stepP (wSt i) cM L = one [⟨1, 0, L⟩, ⟨1, i, 0⟩, ⟨0, 0, -1⟩] := by
  unfold stepP
  rw [if_neg (by simp [cM]), if_pos (by rfl)]
  unfold wSt
  rw [one_top, one_put]
  simp [cM]
theorem w_in (i v L M : Nat) : stepP (one [⟨1, 0, L⟩, ⟨1, i, 0⟩, ⟨0, 0, -1⟩]) (wIn v) M = one [⟨1, 7, L⟩, ⟨1, i, 0⟩, ⟨0, 0, -1⟩] := by
  unfold stepP
  rw [if_neg (by simp [wIn]), if_neg (by simp [wIn]), if_neg (by simp [wIn]), if_pos (by rfl), one_top, one_put]
  simp [wIn]
theorem w_bM (i L M : Nat) : stepP (one [⟨1, 7, L⟩, ⟨1, i, 0⟩, ⟨0, 0, -1⟩]) bM M = wSt i := by
  unfold stepP
  rw [if_neg (by simp [bM]), if_neg (by simp [bM]), if_pos (by rfl), one_top, one_put]
  rfl
theorem xy_ne : ¬ yNm = xNm := by
  intro h
  have h1 := congrArg ByteArray.data h
  simp [xNm, yNm] at h1
theorem v_ln (i v : Nat) : valP (wLn i v).vars wS.nm = some (dg v) := by simp [wLn, wS, valP]
theorem v_in (v : Nat) : valP (wIn v).vars wS.nm = some (dg (v + 1)) := by simp [wIn, wS, valP]
theorem v_cM : valP cM.vars wS.nm = none := rfl
theorem v_bM : valP bM.vars wS.nm = none := rfl
theorem dg_size (n : Nat) : (dg n).size = 1 := rfl
theorem ok_ln {i v : Nat} (hi : i < 100) (h0 : 0 < i) : momOk 2 (wLn i v) = true := by
  have e : varsOk (wLn i v).vars = true := by rfl
  have e2 : momHd 2 (wLn i v) = true := by
    unfold momHd inB wLn
    have : ByteArray.size ⟨#[]⟩ = 0 := rfl
    simp [this]
    omega
  unfold momOk; rw [e, e2]; rfl
theorem ok_in (v : Nat) : momOk 2 (wIn v) = true := by
  have e : varsOk (wIn v).vars = true := by rfl
  have e2 : momHd 2 (wIn v) = true := by
    unfold momHd inB wIn
    have : ByteArray.size ⟨#[]⟩ = 0 := rfl
    simp [this]
  unfold momOk; rw [e, e2]; rfl
theorem ok_cM : momOk 2 cM = true := by decide
theorem ok_bM : momOk 2 bM = true := by decide
theorem watch_line {code : List Nat} {i : Nat} (hi : i < 60) {W : Int → Option ByteArray} {H : List Int} {ms : List PMom} (h : Run 2 wS ms (wSt i) W H) (h0 : W 0 = if i = 0 then none else some (dg (wv code i)))
    (hf : ∀ x : Int, (ms.length : Int) ≤ x → W x = none) (hl : 1 ≤ ms.length) :
    ∃ W', Run 2 wS (ms ++ [wLn (i + 1) (wv code (i + 1))]) (wSt (i + 1)) W' (wW1 code H i ms.length) ∧ W' 0 = some (dg (wv code (i + 1))) ∧ ∀ x : Int, ((ms.length + 1 : Nat) : Int) ≤ x → W' x = none := by
  have hv : wv code (i + 1) < 3 := Nat.mod_lt _ (by omega)
  have hv0 : wv code i < 3 := Nat.mod_lt _ (by omega)
  have hc : checkP (wSt i) (wLn (i + 1) (wv code (i + 1))) = 0 := by
    unfold checkP wSt
    rw [if_neg (by simp [wLn]), if_neg (by simp [wLn, one]), if_neg (by simp [wLn]), one_top]
    simp [wLn]
  have h1 := h.snoc rfl _ (ok_ln (v := wv code (i + 1)) (i := i + 1) (by omega) (by omega)) hc
  have hsh : shS (wSt i) (wLn (i + 1) (wv code (i + 1))) ms.length = some (0, ⟨1, ((i + 1 : Nat) : Int), 0⟩) := by
    unfold shS
    rw [if_neg (by simp [wLn]), w_ln]
    unfold wSt
    rw [one_top]; rfl
  rw [w_ln, hsh, v_ln] at h1
  refine ⟨fun x => watStep W (some (0, ⟨1, ((i + 1 : Nat) : Int), 0⟩)) (some (dg (wv code (i + 1)))) wS.fn x, ?_, ?_⟩
  · have e : watHit W (some (0, ⟨1, ((i + 1 : Nat) : Int), 0⟩)) (some (dg (wv code (i + 1)))) wS.fn = decide (¬ (wv code (i + 1) : Int) = wLast code i) := by
      simp only [watHit, wS]
      rw [h0]
      cases i with
      | zero => simp [wLast]
      | succ j =>
        simp only [wLast]
        rw [if_neg (by omega)]
        have := dg_inj (a := wv code (j + 1)) (b := wv code (j + 1 + 1)) (by omega) (by omega)
        simp [this, eq_comm]
        omega
    rw [e] at h1
    unfold wW1
    by_cases hw : (wv code (i + 1) : Int) = wLast code i
    · rw [if_pos hw]; simpa [hw] using h1
    · rw [if_neg hw]; simpa [hw] using h1
  · refine ⟨?_, fun x hx => ?_⟩
    · simp [watStep, wS]
    · have : ¬ x = 0 := by omega
      simp only [watStep, wS, this, and_false, if_false]
      exact hf x (by omega)
theorem watch_in {i v L : Nat} {W : Int → Option ByteArray} {H : List Int} {ms : List PMom} (h : Run 2 wS ms (wSt i) W H) (hL : ms.length = L) (hf : ∀ x : Int, (L : Int) ≤ x → W x = none) (h1 : 1 ≤ L) :
    ∃ W', Run 2 wS (ms ++ [cM] ++ [wIn v] ++ [bM]) (wSt i) W' (H ++ [((L + 1 : Nat) : Int)]) ∧ W' 0 = W 0 ∧ ∀ x : Int, ((L + 3 : Nat) : Int) ≤ x → W' x = none := by
  have c1 : checkP (wSt i) cM = 0 := by
    unfold checkP wSt
    rw [if_neg (by simp [cM]), if_neg (by simp [cM, one]), if_pos (by rfl), one_top]; simp
  have a1 := h.snoc rfl cM ok_cM c1
  have s1 : shS (wSt i) cM ms.length = some (0, ⟨1, 0, (L : Int)⟩) := by
    unfold shS
    rw [if_neg (by simp [cM]), w_cM, one_top, hL]; rfl
  rw [w_cM, s1, v_cM, hL] at a1
  have a1' : Run 2 wS (ms ++ [cM]) (one [⟨1, 0, L⟩, ⟨1, i, 0⟩, ⟨0, 0, -1⟩]) W H := a1
  have c2 : checkP (one [⟨1, 0, (L : Int)⟩, ⟨1, i, 0⟩, ⟨0, 0, -1⟩]) (wIn v) = 0 := by
    unfold checkP
    rw [if_neg (by simp [wIn]), if_neg (by simp [wIn, one]), if_neg (by simp [wIn]), one_top]
    simp [wIn]
  have a2 := a1'.snoc rfl (wIn v) (ok_in v) c2
  have s2 : shS (one [⟨1, 0, (L : Int)⟩, ⟨1, i, 0⟩, ⟨0, 0, -1⟩]) (wIn v) (ms ++ [cM]).length = some (0, ⟨1, 7, (L : Int)⟩) := by
    unfold shS
    rw [if_neg (by simp [wIn]), w_in, one_top]; rfl
  rw [w_in, s2, v_in] at a2
  have e2 : watHit W (some (0, ⟨1, 7, (L : Int)⟩)) (some (dg (v + 1))) wS.fn = true := by
    simp only [watHit, wS]
    rw [hf (L : Int) (Int.le_refl _)]; simp
  rw [if_pos e2] at a2
  have l2 : ((ms ++ [cM]).length : Int) = ((L + 1 : Nat) : Int) := by simp [hL]
  rw [l2] at a2
  have c3 : checkP (one [⟨1, 7, (L : Int)⟩, ⟨1, i, 0⟩, ⟨0, 0, -1⟩]) bM = 0 := by
    unfold checkP
    rw [if_neg (by simp [bM]), if_neg (by simp [bM, one]), if_neg (by simp [bM]), one_top]
    have : ¬ (L : Int) = -1 := by omega
    simp [bM, this]
  have a3 := a2.snoc rfl bM ok_bM c3
  have s3 : shS (one [⟨1, 7, (L : Int)⟩, ⟨1, i, 0⟩, ⟨0, 0, -1⟩]) bM (ms ++ [cM] ++ [wIn v]).length = some (0, ⟨1, 7, (L : Int)⟩) := by
    unfold shS
    rw [if_pos (by rfl), one_top]; rfl
  rw [w_bM, s3, v_bM] at a3
  refine ⟨_, a3, ?_, fun x hx => ?_⟩
  · have : ¬ (0 : Int) = (L : Int) := by omega
    simp only [watStep, wS, this, and_false, if_false]
  · have : ¬ x = (L : Int) := by omega
    simp only [watStep, wS, this, and_false, if_false]
    exact hf x (by omega)
theorem wMs_pos (code : List Nat) (i : Nat) : 1 ≤ (wMs code i).length := by
  cases i with
  | zero => simp [wMs]
  | succ i => unfold wMs; split <;> simp
theorem watch_run (code : List Nat) : ∀ i, i ≤ 60 → ∃ W, Run 2 wS (wMs code i) (wSt i) W (wWant code i) ∧ W 0 = (if i = 0 then none else some (dg (wv code i))) ∧ ∀ x : Int, ((wMs code i).length : Int) ≤ x → W x = none
  | 0, _ => by
    have h0 : Run 2 wS [] ps0 (fun _ => none) [] := ⟨rfl, rfl, rfl, fun k hk => absurd hk (by simp)⟩
    have h1 := h0.snoc rfl cM ok_cM (by decide)
    have e0 : ps0 = one [⟨0, 0, -1⟩] := rfl
    have e1 : stepP ps0 cM 0 = wSt 0 := by
      rw [e0]
      unfold stepP
      rw [if_neg (by simp [cM]), if_pos (by rfl), one_top, one_put]
      rfl
    have s1 : shS ps0 cM 0 = some (0, ⟨1, 0, 0⟩) := by
      unfold shS
      rw [if_neg (by simp [cM]), e1]
      unfold wSt
      rw [one_top]; rfl
    have h2 : Run 2 wS [cM] (wSt 0) (fun _ => none) [] := by
      have := h1
      simp only [List.nil_append, List.length_nil] at this
      rw [e1, s1, v_cM] at this
      exact this
    exact ⟨_, h2, rfl, fun _ _ => rfl⟩
  | i + 1, hi => by
    obtain ⟨W, h1, h2, h3⟩ := watch_run code i (by omega)
    obtain ⟨W1, k1, k2, k3⟩ := watch_line (code := code) (by omega) h1 h2 h3 (wMs_pos code i)
    by_cases ha : wAsk code i = true
    · obtain ⟨W2, g1, g2, g3⟩ := watch_in (v := wv code (i + 1)) k1 (L := (wMs code i).length + 1) (by simp) k3 (by omega)
      refine ⟨W2, ?_, ?_, fun x hx => g3 x ?_⟩
      · unfold wMs wWant
        rw [if_pos ha, if_pos ha]
        exact g1
      · rw [if_neg (by omega), g2, k2]
      · unfold wMs at hx
        rw [if_pos ha] at hx
        simp at hx
        omega
    · refine ⟨W1, ?_, ?_, fun x hx => k3 x ?_⟩
      · unfold wMs wWant
        rw [if_neg ha, if_neg ha]
        exact k1
      · rw [if_neg (by omega), k2]
      · unfold wMs at hx
        rw [if_neg ha] at hx
        simp at hx
        omega
def watT (code : List Nat) (n : Nat) : PTr := ⟨[⟨#[109, 97, 105, 110]⟩, ⟨#[102]⟩], wMs code n⟩
theorem watch_sound (code : List Nat) {n : Nat} (hn : n ≤ 60) : Sound (watT code n) := by
  obtain ⟨W, h, _⟩ := watch_run code n hn
  refine ⟨?_, fun k hk => (h.ok k hk).1, fun k hk => (h.ok k hk).2⟩
  unfold sizesOk
  have h1 := wMs_len code n
  have h2 : fnsOk (watT code n).fns = true := rfl
  have h3 : (watT code n).fns.length = 2 := rfl
  have h4 : (watT code n).moms.length = (wMs code n).length := rfl
  rw [h2, h3, h4]
  simp
  omega
theorem watch_hits (code : List Nat) {n : Nat} (hn : n ≤ 60) : hitsP (watT code n) wS = wWant code n := by
  obtain ⟨W, h, _⟩ := watch_run code n hn
  have hs := watch_sound code hn
  have hk : stopOk wS = true := by decide
  unfold hitsP
  rw [hs.is, hk]
  exact h.ht
end Go.Proofs.Lens
