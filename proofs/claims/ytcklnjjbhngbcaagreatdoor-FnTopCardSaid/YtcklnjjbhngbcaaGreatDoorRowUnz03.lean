/- Lemmas and contracts of functions that the theorem of this claim leans on (texts P8). -/
import Derived.Test.YtcklnjjbhngbcaaGreatDoorRowUnz02
namespace Go.Proofs.Lens

/-- one step of the sequence on 48 bits, as natural numbers -/
def lcgA : Nat := 6364136223846793005
def lcgC : Nat := 1442695040888963407
/-- n steps without reduction -/
def lcgI : Nat → Nat → Nat
  | 0, s => s
  | n + 1, s => lcgI n (s * lcgA + lcgC)
def powA : Nat → Nat | 0 => lcgA | k + 1 => powA k * powA k
def powC : Nat → Nat | 0 => lcgC | k + 1 => powC k * (powA k + 1)
theorem lcgI_add (m n s : Nat) : lcgI (m + n) s = lcgI n (lcgI m s) := by
  induction m generalizing s with
  | zero => simp [lcgI]
  | succ m ih => rw [Nat.add_right_comm]; simp only [lcgI]; exact ih _
theorem lcgI_pow (k s : Nat) : lcgI (2 ^ k) s = s * powA k + powC k := by
  induction k generalizing s with
  | zero => simp [lcgI, powA, powC]
  | succ k ih =>
    rw [Nat.pow_succ, Nat.mul_two, lcgI_add, ih, ih]
    simp only [powA, powC, Nat.add_mul, Nat.mul_add, Nat.mul_assoc, Nat.add_assoc, Nat.mul_one]
theorem powA_form (k : Nat) : ∃ m, powA k = 1 + 2 ^ (k + 2) * m := by
  induction k with
  | zero => exact ⟨1591034055961698251, by simp [powA, lcgA]⟩
  | succ k ih =>
    obtain ⟨m, hm⟩ := ih
    refine ⟨m + 2 ^ (k + 1) * (m * m), ?_⟩
    have e1 : 2 ^ (k + 1 + 2) = 2 ^ (k + 2) * 2 := by rw [← Nat.pow_succ]
    have e2 : 2 ^ (k + 2) = 2 ^ (k + 1) * 2 := by rw [← Nat.pow_succ]
    simp only [powA, hm, e1, e2]
    generalize 2 ^ (k + 1) = z
    grind
theorem powC_form (k : Nat) : ∃ m, powC k = 2 ^ k + 2 ^ (k + 1) * m := by
  induction k with
  | zero => exact ⟨721347520444481703, by simp [powC, lcgC]⟩
  | succ k ih =>
    obtain ⟨m, hm⟩ := ih
    obtain ⟨p, hp⟩ := powA_form k
    refine ⟨m + 2 ^ k * p + 2 ^ k * (2 * m * p), ?_⟩
    have e1 : 2 ^ (k + 1 + 1) = 2 ^ k * 4 := by rw [Nat.pow_succ, Nat.pow_succ]; omega
    have e2 : 2 ^ (k + 2) = 2 ^ k * 4 := e1
    have e3 : 2 ^ (k + 1) = 2 ^ k * 2 := by rw [Nat.pow_succ]
    simp only [powC, hm, hp, e1, e3]
    generalize 2 ^ k = z
    grind
/-- every number is reached, modulo 2^k, within 2^k steps -/
theorem lcg_reach (k : Nat) : ∀ s t : Nat, ∃ n, n < 2 ^ k ∧ lcgI n s % 2 ^ k = t % 2 ^ k := by
  induction k with
  | zero => intro s t; exact ⟨0, by simp, by simp [Nat.mod_one]⟩
  | succ k ih =>
    intro s t
    obtain ⟨n, hn, he⟩ := ih s t
    have e1 : 2 ^ (k + 1) = 2 ^ k * 2 := by rw [Nat.pow_succ]
    by_cases h : lcgI n s % 2 ^ (k + 1) = t % 2 ^ (k + 1)
    · exact ⟨n, by omega, h⟩
    · refine ⟨n + 2 ^ k, by omega, ?_⟩
      rw [lcgI_add, lcgI_pow]
      obtain ⟨m, hm⟩ := powC_form k
      obtain ⟨p, hp⟩ := powA_form k
      have e2 : 2 ^ (k + 2) = 2 ^ k * 4 := by rw [Nat.pow_succ, Nat.pow_succ]; omega
      rw [hm, hp, e1, e2]
      rw [e1] at h
      generalize lcgI n s = y at *
      have hz : 0 < 2 ^ k := Nat.two_pow_pos k
      generalize 2 ^ k = z at *
      have h3 : y * (1 + z * 4 * p) + (z + z * 2 * m) = (y + z) + z * 2 * (2 * y * p + m) := by grind
      rw [h3, Nat.add_mul_mod_self_left]
      have hy := Nat.div_add_mod y z
      have ht := Nat.div_add_mod t z
      have hy2 : y % (z * 2) = z * (y / z % 2) + y % z := by rw [Nat.mod_mul, Nat.add_comm]
      have ht2 : t % (z * 2) = z * (t / z % 2) + t % z := by rw [Nat.mod_mul, Nat.add_comm]
      have hyz : (y + z) % (z * 2) = z * ((y / z + 1) % 2) + y % z := by
        rw [Nat.mod_mul, Nat.add_div_right _ hz, Nat.add_mod_right, Nat.add_comm]
      rw [hyz, ht2, he]
      rw [hy2, ht2, he] at h
      have hb : (y / z + 1) % 2 = t / z % 2 := by
        rcases Nat.mod_two_eq_zero_or_one (y / z) with a | a <;> rcases Nat.mod_two_eq_zero_or_one (t / z) with b | b
        · exact absurd (by rw [a, b]) h
        · omega
        · omega
        · exact absurd (by rw [a, b]) h
      rw [hb]

/-- The seed behind one choice beyond the bytes; what is chosen. -/
def nextS (s : Nat) : Nat := (s * lcgA + lcgC) % 18446744073709551616
def outS (s : Nat) : Nat := s / 1099511627776 % 256
def iterF (f : Nat → Nat) : Nat → Nat → Nat
  | 0, s => s
  | n + 1, s => iterF f n (f s)
theorem iterF_succ (f : Nat → Nat) (n s : Nat) : iterF f (n + 1) s = f (iterF f n s) := by
  induction n generalizing s with
  | zero => rfl
  | succ n ih => exact ih (f s)
def iterS (n s : Nat) : Nat := iterF nextS n s
theorem iterS_succ (n s : Nat) : iterS (n + 1) s = nextS (iterS n s) := iterF_succ nextS n s
theorem mod_lin {m a c s t : Nat} (h : s % m = t % m) : (s * a + c) % m = (t * a + c) % m := by
  have h1 : (s * a) % m = (t * a) % m := by rw [Nat.mul_mod, h, ← Nat.mul_mod]
  rw [Nat.add_mod, h1, ← Nat.add_mod]
theorem lcgI_congr' (m : Nat) (n : Nat) : ∀ s t : Nat, s % m = t % m → lcgI n s % m = lcgI n t % m := by
  induction n with
  | zero => intro s t h; exact h
  | succ n ih =>
    intro s t h
    exact ih _ _ (mod_lin h)
theorem lcgI_congr (n s t : Nat) (h : s % 2 ^ 48 = t % 2 ^ 48) : lcgI n s % 2 ^ 48 = lcgI n t % 2 ^ 48 := lcgI_congr' _ n s t h
theorem iterF_lcg (m : Nat) (f : Nat → Nat) (hf : ∀ s, f s % m = (s * lcgA + lcgC) % m) (n : Nat) : ∀ s, iterF f n s % m = lcgI n s % m := by
  induction n with
  | zero => intro s; rfl
  | succ n ih =>
    intro s
    exact (ih (f s)).trans (lcgI_congr' m n _ _ (hf s))
theorem nextS_mod (s : Nat) : nextS s % 2 ^ 48 = (s * lcgA + lcgC) % 2 ^ 48 := by
  unfold nextS
  exact Nat.mod_mod_of_dvd _ ⟨2 ^ 16, by decide⟩
theorem iterS_lcg (n s : Nat) : iterS n s % 2 ^ 48 = lcgI n s % 2 ^ 48 := iterF_lcg _ nextS nextS_mod n s
/-- In j steps the sequence comes to a known place, behind which no choice of fourteen is 8 or 9 for a while. -/
def Near (s j : Nat) : Prop := j < 2 ^ 48 ∧ lcgI j s % 2 ^ 48 = 10
theorem near_ex (s : Nat) : ∃ j, Near s j := by
  obtain ⟨n, h1, h2⟩ := lcg_reach 48 s 10
  exact ⟨n, h1, by rw [h2]⟩
theorem near_steps {s j : Nat} (h : Near s j) (c : Nat) (hc : c ≤ j) : Near (iterS c s) (j - c) := by
  obtain ⟨h1, h2⟩ := h
  refine ⟨by omega, ?_⟩
  rw [lcgI_congr (j - c) _ _ (iterS_lcg c s), ← lcgI_add]
  rw [show c + (j - c) = j by omega]
  exact h2
theorem outS_mod (s : Nat) : outS s = s % 2 ^ 48 / 2 ^ 40 := by
  unfold outS
  omega
theorem near_out {s j : Nat} (h : Near s j) (c : Nat) (h1 : j < c) : outS (iterS c s) = lcgI (c - j) 10 % 2 ^ 48 / 2 ^ 40 := by
  obtain ⟨_, h2⟩ := h
  rw [outS_mod, iterS_lcg]
  have : lcgI c s = lcgI (c - j) (lcgI j s) := by rw [← lcgI_add]; congr 1; omega
  rw [this, lcgI_congr (c - j) (lcgI j s) 10 h2]
theorem near_good {s j : Nat} (h : Near s j) (c : Nat) (h1 : j < c) (h2 : c ≤ 9) : outS (iterS c s) % 14 ≠ 8 ∧ outS (iterS c s) % 14 ≠ 9 := by
  rw [near_out h c h1]
  obtain ⟨d, hd⟩ : ∃ d, c - j = d := ⟨_, rfl⟩
  rw [hd]
  have : d = 1 ∨ d = 2 ∨ d = 3 ∨ d = 4 ∨ d = 5 ∨ d = 6 ∨ d = 7 ∨ d = 8 ∨ d = 9 := by omega
  rcases this with h | h | h | h | h | h | h | h | h <;> subst h <;> decide

/-! ### the choices -/
structure Cu where
  pos : Nat
  seed : Nat
def drwV (code : List Nat) (c : Cu) : Nat := if c.pos < code.length then elt code c.pos else outS (nextS c.seed)
def drwS (code : List Nat) (c : Cu) : Nat := if c.pos < code.length then (c.seed * lcgA + elt code c.pos + lcgC) % 18446744073709551616 else nextS c.seed
def drwC (code : List Nat) (c : Cu) : Cu := ⟨c.pos + 1, drwS code c⟩
def pickP (code : List Nat) (n : Nat) (c : Cu) : Nat × Cu := if n ≤ 1 then (0, c) else (drwV code c % n, drwC code c)
theorem pickP_one {code : List Nat} {n : Nat} {c : Cu} (h : n ≤ 1) : pickP code n c = (0, c) := if_pos h
theorem pickP_two {code : List Nat} {n : Nat} {c : Cu} (h : 1 < n) : pickP code n c = (drwV code c % n, drwC code c) := if_neg (by omega)
theorem pickP_lt (code : List Nat) {n : Nat} (c : Cu) (h : 0 < n) : (pickP code n c).1 < n := by
  by_cases h1 : 1 < n
  · rw [pickP_two h1]; exact Nat.mod_lt _ h
  · rw [pickP_one (by omega)]; exact h
theorem iterF_add (f : Nat → Nat) : ∀ (k l s : Nat), iterF f (k + l) s = iterF f l (iterF f k s)
  | 0, l, s => by rw [Nat.zero_add]; rfl
  | k + 1, l, s => by
    rw [Nat.add_right_comm]
    exact iterF_add f k l (f s)
theorem iterS_add (k l s : Nat) : iterS (k + l) s = iterS l (iterS k s) := iterF_add nextS k l s
theorem iterS_one (s : Nat) : iterS 1 s = nextS s := by unfold iterS; rw [iterF_succ]; rfl
/-- k choices on. -/
def Adv (code : List Nat) (c c' : Cu) (k : Nat) : Prop := c'.pos = c.pos + k ∧ (code.length ≤ c.pos → c'.seed = iterS k c.seed)
theorem Adv.refl (code : List Nat) (c : Cu) : Adv code c c 0 := ⟨rfl, fun _ => rfl⟩
theorem Adv.trans {code : List Nat} {c c1 c2 : Cu} {k l : Nat} (h : Adv code c c1 k) (h2 : Adv code c1 c2 l) : Adv code c c2 (k + l) :=
  ⟨by rw [h2.1, h.1]; omega, fun hc => by rw [h2.2 (by rw [h.1]; omega), h.2 hc, iterS_add]⟩
theorem drw_adv (code : List Nat) (c : Cu) : Adv code c (drwC code c) 1 := by
  refine ⟨rfl, fun h => ?_⟩
  rw [iterS_one]
  exact if_neg (by omega)
theorem pick_adv (code : List Nat) {n : Nat} (hn : 1 < n) (c : Cu) : Adv code c (pickP code n c).2 1 := by
  rw [pickP_two hn]
  exact drw_adv code c
theorem pick_adv' (code : List Nat) (n : Nat) (c : Cu) : ∃ k, k ≤ 1 ∧ Adv code c (pickP code n c).2 k := by
  by_cases h : 1 < n
  · exact ⟨1, Nat.le_refl _, pick_adv code h c⟩
  · refine ⟨0, by omega, ?_⟩
    rw [pickP_one (by omega)]
    exact Adv.refl code c
/-- A choice beyond the bytes. -/
theorem pick_far (code : List Nat) {n : Nat} (hn : 1 < n) (c : Cu) (h : code.length ≤ c.pos) : (pickP code n c).1 = outS (nextS c.seed) % n := by
  rw [pickP_two hn]
  unfold drwV
  rw [if_neg (by omega)]

def chr1 (n : Nat) : ByteArray := ⟨#[UInt8.ofNat n]⟩
def drawVar (a b : Nat) : PVar := ⟨chr1 (97 + a), chr1 (48 + b)⟩
def varsN (code : List Nat) (c0 : Cu) : Nat → List PVar × Cu
  | 0 => ([], c0)
  | i + 1 => ((varsN code c0 i).1 ++ [drawVar (pickP code 3 (varsN code c0 i).2).1 (pickP code 3 (pickP code 3 (varsN code c0 i).2).2).1], (pickP code 3 (pickP code 3 (varsN code c0 i).2).2).2)
def varsP (code : List Nat) (c : Cu) : List PVar × Cu := varsN code (pickP code 4 c).2 (pickP code 4 c).1
theorem varsN_len (code : List Nat) (c0 : Cu) : ∀ i, (varsN code c0 i).1.length = i
  | 0 => rfl
  | i + 1 => by simp [varsN, varsN_len code c0 i]
theorem varsN_ok (code : List Nat) (c0 : Cu) : ∀ i, varsOk (varsN code c0 i).1 = true
  | 0 => rfl
  | i + 1 => by
    have ih := varsN_ok code c0 i
    unfold varsOk at ih ⊢
    simp only [varsN, List.all_append, ih, List.all_cons, List.all_nil, Bool.and_true, Bool.true_and]
    rfl
theorem varsN_adv (code : List Nat) (c0 : Cu) : ∀ i, Adv code c0 (varsN code c0 i).2 (2 * i)
  | 0 => Adv.refl _ _
  | i + 1 => by
    have ih := varsN_adv code c0 i
    have e : (varsN code c0 (i + 1)).2 = (pickP code 3 (pickP code 3 (varsN code c0 i).2).2).2 := rfl
    rw [e]
    generalize (varsN code c0 i).2 = c at ih ⊢
    have h1 := pick_adv code (n := 3) (by omega) c
    generalize (pickP code 3 c).2 = c1 at h1 ⊢
    have h2 := pick_adv code (n := 3) (by omega) c1
    exact (ih.trans h1).trans h2
theorem varsP_len (code : List Nat) (c : Cu) : (varsP code c).1.length ≤ 3 := by
  have := pickP_lt code c (n := 4) (by omega)
  unfold varsP; rw [varsN_len]; omega
theorem varsP_adv (code : List Nat) (c : Cu) : ∃ k, k ≤ 7 ∧ Adv code c (varsP code c).2 k := by
  have h := pickP_lt code c (n := 4) (by omega)
  exact ⟨1 + 2 * (pickP code 4 c).1, by omega, (pick_adv code (by omega) c).trans (varsN_adv code _ _)⟩

/-! ### a moment -/
def fnTop (s : PS) : Int := match s.top with | [] => 0 | f :: _ => f.fn
structure TS where
  c : Cu
  ms : List PMom
  ws : List Int
  tk : Int
def eT : ByteArray := ⟨#[]⟩
def sevT : ByteArray := ⟨#[55]⟩
/-- What a moment becomes behind the choice p. -/
def mkM (code : List Nat) (s : PS) (line : Nat) (vars : List PVar) (p : Nat) (c : Cu) (ws : List Int) (tk : Int) : PMom × Cu × List Int × Int :=
  if p ≤ 4 then (⟨1, s.cur, fnTop s, line + 1, eT, vars⟩, c, ws, tk)
  else if p ≤ 7 then (⟨2, s.cur, (pickP code 4 c).1, line, eT, vars⟩, (pickP code 4 c).2, ws, tk)
  else if p ≤ 9 then (⟨3, s.cur, fnTop s, line, eT, vars⟩, c, ws, tk)
  else if p = 10 then (⟨4 + (pickP code 3 c).1, s.cur, fnTop s, line, sevT, vars⟩, (pickP code 3 c).2, ws, tk)
  else if p = 11 then
    (if (pickP code 2 c).1 = 0 ∧ tk < 9 then (⟨7, tk, 0, line, eT, vars⟩, (pickP code 2 c).2, ws ++ [s.cur], tk + 1)
    else if 0 < ws.length then (⟨7, elt ws (ws.length - 1), 0, line, eT, vars⟩, (pickP code 2 c).2, ws.take (ws.length - 1), tk)
    else (⟨7, (pickP code tk.toNat (pickP code 2 c).2).1, 0, line, eT, vars⟩, (pickP code tk.toNat (pickP code 2 c).2).2, ws, tk))
  else (⟨1, s.cur, fnTop s, 1 + (pickP code 2 c).1, eT, vars⟩, (pickP code 2 c).2, ws, tk)
def fixM (s : PS) (m : PMom) : PMom := if s.top = [] ∧ m.kind = 1 then ⟨2, m.task, 1, m.line, m.text, m.vars⟩ else m
def skipB (s : PS) (m : PMom) : Bool := (decide (m.kind = 3) && (match s.top with | [] => true | f :: _ => decide (f.frm < 0))) || decide (s.top.length = 200)
/-- The choices ahead of the great one. -/
def lnP (code : List Nat) (c : Cu) : Nat × Cu := pickP code 4 c
def vrP (code : List Nat) (c : Cu) : List PVar × Cu := varsP code (lnP code c).2
def kdP (code : List Nat) (c : Cu) : Nat × Cu := pickP code 14 (vrP code c).2
def rawM (code : List Nat) (T : TS) : PMom × Cu × List Int × Int :=
  mkM code (stN T.ms T.ms.length) (lnP code T.c).1 (vrP code T.c).1 (kdP code T.c).1 (kdP code T.c).2 T.ws T.tk
def newM (code : List Nat) (T : TS) : PMom := fixM (stN T.ms T.ms.length) (rawM code T).1
def trStep (code : List Nat) (T : TS) : TS :=
  if skipB (stN T.ms T.ms.length) (newM code T) = true then ⟨(rawM code T).2.1, T.ms, (rawM code T).2.2.1, (rawM code T).2.2.2⟩
  else ⟨(rawM code T).2.1, T.ms ++ [newM code T], (rawM code T).2.2.1, (rawM code T).2.2.2⟩
def ts0 (c : Cu) : TS := ⟨c, [], [], 1⟩
def trN (code : List Nat) (c : Cu) (n : Nat) : Nat → TS
  | 0 => ts0 c
  | k + 1 => if (trN code c n k).ms.length < n then trStep code (trN code c n k) else trN code c n k

/-! ### that it is sound -/
structure DI (T : TS) : Prop where
  ok : ∀ k, k < T.ms.length → momOk 4 (elt T.ms k) = true ∧ checkP (stN T.ms k) (elt T.ms k) = 0
  tk0 : 1 ≤ T.tk
  tk1 : T.tk ≤ 9
  cur : 0 ≤ (stN T.ms T.ms.length).cur ∧ (stN T.ms T.ms.length).cur < T.tk
  ws : ∀ x ∈ T.ws, 0 ≤ x ∧ x < T.tk
  fn : ∀ i f, f ∈ (stN T.ms T.ms.length).stk i → 0 ≤ f.fn ∧ f.fn ≤ 3
  len : ∀ i, ((stN T.ms T.ms.length).stk i).length ≤ 1 + T.ms.length
theorem di0 (c : Cu) : DI (ts0 c) := by
  refine ⟨fun k hk => absurd hk (by simp [ts0]), by simp [ts0], by simp [ts0], by simp [ts0, stN, ps0], fun x hx => absurd hx (by simp [ts0]), fun i f hf => ?_, fun i => ?_⟩
  · simp only [ts0, stN, ps0, List.length_nil] at hf
    split at hf
    · simp at hf; subst hf; simp
    · cases hf
  · simp only [ts0, stN, ps0, List.length_nil]
    split <;> simp
structure RawOk (s : PS) (vars : List PVar) (ws : List Int) (tk : Int) (r : PMom × Cu × List Int × Int) : Prop where
  kind : 1 ≤ r.1.kind ∧ r.1.kind ≤ 7
  task : 0 ≤ r.1.task ∧ r.1.task < r.2.2.2
  fn : 0 ≤ r.1.fn ∧ r.1.fn ≤ 3
  line : 0 ≤ r.1.line ∧ r.1.line ≤ 4 ∧ (r.1.kind = 1 → 0 < r.1.line)
  text : r.1.text.size ≤ 1
  vars : r.1.vars = vars
  here : r.1.kind = 7 ∨ r.1.task = s.cur
  same : r.1.kind = 7 ∨ r.1.kind = 2 ∨ r.1.fn = fnTop s
  tk : tk ≤ r.2.2.2 ∧ r.2.2.2 ≤ 9
  wl : r.2.2.1.length ≤ ws.length + 1
  wok : ∀ x ∈ r.2.2.1, 0 ≤ x ∧ x < r.2.2.2
theorem mkM_ok (code : List Nat) (s : PS) {line : Nat} (vars : List PVar) {p : Nat} (c : Cu) {ws : List Int} {tk : Int} (hl : line ≤ 3) (h0 : 1 ≤ tk) (h9 : tk ≤ 9)
    (hc : 0 ≤ s.cur ∧ s.cur < tk) (hw : ∀ x ∈ ws, 0 ≤ x ∧ x < tk) (hf : 0 ≤ fnTop s ∧ fnTop s ≤ 3) : RawOk s vars ws tk (mkM code s line vars p c ws tk) := by
  have p4 := pickP_lt code c (n := 4) (by omega)
  have p3 := pickP_lt code c (n := 3) (by omega)
  have p2 := pickP_lt code c (n := 2) (by omega)
  have pt := pickP_lt code (pickP code 2 c).2 (n := tk.toNat) (by omega)
  have e0 : eT.size ≤ 1 := by decide
  have e1 : sevT.size ≤ 1 := by decide
  unfold mkM
  by_cases k1 : p ≤ 4
  · rw [if_pos k1]
    exact ⟨by dsimp only; omega, by dsimp only; omega, hf, by dsimp only; omega, e0, rfl, .inr rfl, .inr (.inr rfl), by dsimp only; omega, by dsimp only; omega, hw⟩
  rw [if_neg k1]
  by_cases k2 : p ≤ 7
  · rw [if_pos k2]
    exact ⟨by dsimp only; omega, by dsimp only; omega, by dsimp only; omega, by dsimp only; omega, e0, rfl, .inr rfl, .inr (.inl rfl), by dsimp only; omega, by dsimp only; omega, hw⟩
  rw [if_neg k2]
  by_cases k3 : p ≤ 9
  · rw [if_pos k3]
    exact ⟨by dsimp only; omega, by dsimp only; omega, hf, by dsimp only; omega, e0, rfl, .inr rfl, .inr (.inr rfl), by dsimp only; omega, by dsimp only; omega, hw⟩
  rw [if_neg k3]
  by_cases k4 : p = 10
  · rw [if_pos k4]
    exact ⟨by dsimp only; omega, by dsimp only; omega, hf, by dsimp only; omega, e1, rfl, .inr rfl, .inr (.inr rfl), by dsimp only; omega, by dsimp only; omega, hw⟩
  rw [if_neg k4]
  by_cases k5 : p = 11
  · rw [if_pos k5]
    by_cases k6 : (pickP code 2 c).1 = 0 ∧ tk < 9
    · rw [if_pos k6]
      refine ⟨by dsimp only; omega, by dsimp only; omega, by dsimp only; omega, by dsimp only; omega, e0, rfl, .inl rfl, .inl rfl, by dsimp only; omega, by simp, fun x hx => ?_⟩
      dsimp only at hx ⊢
      rcases List.mem_append.1 hx with hx | hx
      · have := hw x hx; omega
      · simp at hx; omega
    rw [if_neg k6]
    by_cases k7 : 0 < ws.length
    · rw [if_pos k7]
      have hm : elt ws (ws.length - 1) ∈ ws := by rw [elt_eq (by omega)]; exact List.getElem_mem _
      have := hw _ hm
      exact ⟨by dsimp only; omega, by dsimp only; omega, by dsimp only; omega, by dsimp only; omega, e0, rfl, .inl rfl, .inl rfl, by dsimp only; omega, by simp; omega, fun x hx => hw x (List.mem_of_mem_take hx)⟩
    · rw [if_neg k7]
      exact ⟨by dsimp only; omega, by dsimp only; omega, by dsimp only; omega, by dsimp only; omega, e0, rfl, .inl rfl, .inl rfl, by dsimp only; omega, by dsimp only; omega, hw⟩
  · rw [if_neg k5]
    exact ⟨by dsimp only; omega, by dsimp only; omega, hf, by dsimp only; omega, e0, rfl, .inr rfl, .inr (.inr rfl), by dsimp only; omega, by dsimp only; omega, hw⟩
theorem DI.fnT {T : TS} (h : DI T) : 0 ≤ fnTop (stN T.ms T.ms.length) ∧ fnTop (stN T.ms T.ms.length) ≤ 3 := by
  unfold fnTop
  cases ht : (stN T.ms T.ms.length).top with
  | nil => exact ⟨by simp, by simp⟩
  | cons f r => exact h.fn _ f (by unfold PS.top at ht; rw [ht]; simp)
theorem DI.raw {code : List Nat} {T : TS} (h : DI T) : RawOk (stN T.ms T.ms.length) (vrP code T.c).1 T.ws T.tk (rawM code T) := by
  have := pickP_lt code T.c (n := 4) (by omega)
  exact mkM_ok code _ _ _ (by unfold lnP; omega) h.tk0 h.tk1 h.cur h.ws h.fnT
/-- What is appended is in order. -/
theorem DI.new {code : List Nat} {T : TS} (h : DI T) (hs : skipB (stN T.ms T.ms.length) (newM code T) = false) :
    momOk 4 (newM code T) = true ∧ checkP (stN T.ms T.ms.length) (newM code T) = 0 ∧ (0 ≤ (newM code T).task ∧ (newM code T).task < (rawM code T).2.2.2) ∧ (0 ≤ (newM code T).fn ∧ (newM code T).fn ≤ 3) := by
  have hr := h.raw (code := code)
  have hv : varsOk (vrP code T.c).1 = true := varsN_ok _ _ _
  have hvl : (vrP code T.c).1.length ≤ 3 := varsP_len _ _
  generalize hS : stN T.ms T.ms.length = s at hs hr ⊢
  unfold newM at hs ⊢
  rw [hS] at hs ⊢
  generalize rawM code T = r at hs hr ⊢
  obtain ⟨⟨kind, task, fn, line, text, vars⟩, c', ws', tk'⟩ := r
  obtain ⟨r1, r2, r3, r4, r5, r6, r7, r8, r9, -, -⟩ := hr
  dsimp only at r1 r2 r3 r4 r5 r6 r7 r8 r9 hs ⊢
  subst r6
  have ok : ∀ (k f : Int), 1 ≤ k → k ≤ 7 → 0 ≤ f → f ≤ 3 → (k = 1 → 0 < line) → momOk 4 ⟨k, task, f, line, text, (vrP code T.c).1⟩ = true := by
    intro k f a1 a2 a3 a4 a5
    unfold momOk momHd
    rw [hv]
    simp [inB]
    omega
  have h200 : ¬ s.top.length = 200 := by
    intro hh
    unfold skipB at hs
    rw [hh] at hs
    simp at hs
  by_cases hfix : s.top = [] ∧ kind = 1
  · unfold fixM at hs ⊢
    rw [if_pos hfix] at hs ⊢
    refine ⟨ok 2 1 (by omega) (by omega) (by omega) (by omega) (by omega), ?_, r2, by dsimp only; omega⟩
    unfold checkP
    rw [if_neg (by dsimp only; omega), if_neg (by dsimp only; omega), if_pos (by rfl), if_neg h200]
  · unfold fixM at hs ⊢
    rw [if_neg hfix] at hs ⊢
    refine ⟨ok kind fn r1.1 r1.2 r3.1 r3.2 r4.2.2, ?_, r2, r3⟩
    unfold checkP
    dsimp only
    by_cases k7 : kind = 7
    · rw [if_pos k7]
    rw [if_neg k7, if_neg (by omega)]
    by_cases k2 : kind = 2
    · rw [if_pos k2, if_neg h200]
    rw [if_neg k2]
    have hfn : fn = fnTop s := by omega
    unfold skipB at hs
    unfold fnTop at hfn
    cases ht : s.top with
    | nil =>
      rw [ht] at hs hfn
      dsimp only at hs hfn ⊢
      have k3 : ¬ kind = 3 := by intro hk; rw [hk] at hs; simp at hs
      have k1 : ¬ kind = 1 := fun hk => hfix ⟨ht, hk⟩
      rw [if_neg (by omega)]
    | cons f r =>
      rw [ht] at hs hfn
      dsimp only at hs hfn ⊢
      rw [if_neg]
      rintro (hh | ⟨hk, hh⟩)
      · exact hh hfn
      · rw [hk, hh] at hs; simp at hs
theorem stN_snoc (ms : List PMom) (m : PMom) : stN (ms ++ [m]) (ms ++ [m]).length = stepP (stN ms ms.length) m ms.length := by
  rw [List.length_append]
  show stepP (stN (ms ++ [m]) ms.length) (elt (ms ++ [m]) ms.length) ms.length = _
  rw [stN_app _ _ _ (Nat.le_refl _), elt_last]
theorem step_fn {s : PS} {m : PMom} {n : Nat} (h : ∀ i f, f ∈ s.stk i → 0 ≤ f.fn ∧ f.fn ≤ 3) (hm : 0 ≤ m.fn ∧ m.fn ≤ 3) : ∀ i f, f ∈ (stepP s m n).stk i → 0 ≤ f.fn ∧ f.fn ≤ 3 := by
  have hput : ∀ l : List PFr, (∀ f ∈ l, 0 ≤ f.fn ∧ f.fn ≤ 3) → ∀ i f, f ∈ (s.put l).stk i → 0 ≤ f.fn ∧ f.fn ≤ 3 := by
    intro l hl i f hf
    simp only [PS.put] at hf
    split at hf
    · exact hl f hf
    · exact h i f hf
  unfold stepP
  split
  · exact h
  · split
    · refine hput _ fun f hf => ?_
      rcases List.mem_cons.1 hf with rfl | hf
      · exact hm
      · exact h _ f hf
    · split
      · exact hput _ fun f hf => h _ f (List.mem_of_mem_tail hf)
      · split
        · refine hput _ fun f hf => ?_
          unfold PS.top at hf
          cases hs : s.stk s.cur with
          | nil => rw [hs] at hf; cases hf
          | cons g r =>
            rw [hs] at hf
            rcases List.mem_cons.1 hf with rfl | hf
            · exact h s.cur g (by rw [hs]; simp)
            · exact h s.cur f (by rw [hs]; simp [hf])
        · exact h
theorem step_len {s : PS} {m : PMom} {n k : Nat} (h : ∀ i, (s.stk i).length ≤ k) : ∀ i, ((stepP s m n).stk i).length ≤ k + 1 := by
  have hput : ∀ l : List PFr, l.length ≤ k + 1 → ∀ i, ((s.put l).stk i).length ≤ k + 1 := by
    intro l hl i
    simp only [PS.put]
    split
    · exact hl
    · have := h i; omega
  have hc := h s.cur
  unfold stepP
  split
  · intro i; have := h i; dsimp only; omega
  · split
    · exact hput _ (by simp [PS.top]; exact hc)
    · split
      · exact hput _ (by rw [List.length_tail]; unfold PS.top; omega)
      · split
        · refine hput _ ?_
          unfold PS.top
          cases hs : s.stk s.cur with
          | nil => simp
          | cons g r => rw [hs] at hc; simp at hc ⊢; omega
        · intro i; have := h i; omega
theorem step_cur7 {s : PS} {m : PMom} {n : Nat} : (stepP s m n).cur = if m.kind = 7 then m.task else s.cur := by
  by_cases h : m.kind = 7
  · rw [if_pos h]; unfold stepP; rw [if_pos h]
  · rw [if_neg h, step_cur h]
theorem di_step {code : List Nat} {T : TS} (h : DI T) : DI (trStep code T) := by
  have hr := h.raw (code := code)
  unfold trStep
  by_cases hs : skipB (stN T.ms T.ms.length) (newM code T) = true
  · rw [if_pos hs]
    exact ⟨h.ok, by have := hr.tk; have := h.tk0; dsimp only; omega, hr.tk.2, by have := hr.tk; have := h.cur; dsimp only; omega, hr.wok, h.fn, h.len⟩
  · rw [if_neg hs]
    obtain ⟨n1, n2, n3, n4⟩ := h.new (code := code) (by simpa using hs)
    refine ⟨fun k hk => ?_, by have := hr.tk; have := h.tk0; dsimp only; omega, hr.tk.2, ?_, hr.wok, ?_, ?_⟩
    · dsimp only at hk ⊢
      by_cases hlt : k < T.ms.length
      · rw [elt_app _ _ hlt, stN_app _ _ _ (by omega)]; exact h.ok k hlt
      · obtain rfl : k = T.ms.length := by simp at hk; omega
        rw [elt_last, stN_app _ _ _ (Nat.le_refl _)]; exact ⟨n1, n2⟩
    · dsimp only
      rw [stN_snoc, step_cur7]
      have := h.cur
      have := hr.tk
      split <;> omega
    · dsimp only
      rw [stN_snoc]
      exact step_fn h.fn n4
    · dsimp only
      rw [stN_snoc]
      intro i
      have := step_len (m := newM code T) (n := T.ms.length) h.len i
      simp only [List.length_append, List.length_cons, List.length_nil]; omega
theorem di_N (code : List Nat) (c : Cu) (n : Nat) : ∀ k, DI (trN code c n k)
  | 0 => di0 c
  | k + 1 => by
    unfold trN
    split
    · exact di_step (di_N code c n k)
    · exact di_N code c n k
theorem trN_len (code : List Nat) (c : Cu) (n : Nat) : ∀ k, (trN code c n k).ms.length ≤ n
  | 0 => by simp [trN, ts0]
  | k + 1 => by
    unfold trN
    have ih := trN_len code c n k
    split
    · unfold trStep
      split
      · exact ih
      · simp; omega
    · exact ih

/-! ### that it ends -/
/-- How far it still is at most: g. -/
def Pot (code : List Nat) (n : Nat) (T : TS) (g : Nat) : Prop :=
  ∃ d, g = (n - T.ms.length) * 1125899906842624 + d ∧ ((T.c.pos < code.length ∧ d = 562949953421312 + (code.length - T.c.pos)) ∨ (code.length ≤ T.c.pos ∧ Near T.c.seed d))
theorem pot_ex (code : List Nat) (n : Nat) (T : TS) : ∃ g, Pot code n T g := by
  by_cases h : T.c.pos < code.length
  · exact ⟨_, _, rfl, .inl ⟨h, rfl⟩⟩
  · obtain ⟨j, hj⟩ := near_ex T.c.seed
    exact ⟨_, j, rfl, .inr ⟨by omega, hj⟩⟩
theorem pot_le {code : List Nat} {n : Nat} {T : TS} {g : Nat} (hc : code.length ≤ 1048576) (hn : n ≤ 89) (h : Pot code n T g) : g ≤ 101330991615836160 + 562949954469888 := by
  obtain ⟨d, rfl, h⟩ := h
  rcases h with ⟨a, rfl⟩ | ⟨a, b, -⟩
  · omega
  · have : (2 : Nat) ^ 48 = 281474976710656 := by decide
    omega
theorem mkM_adv (code : List Nat) (s : PS) (line : Nat) (vars : List PVar) (p : Nat) (c : Cu) (ws : List Int) (tk : Int) :
    ∃ k, k ≤ 2 ∧ (p = 8 ∨ p = 9 → k = 0) ∧ ((mkM code s line vars p c ws tk).1.kind = 3 → p = 8 ∨ p = 9) ∧ Adv code c (mkM code s line vars p c ws tk).2.1 k := by
  have p2 := pick_adv code (n := 2) (by omega) c
  unfold mkM
  by_cases k1 : p ≤ 4
  · rw [if_pos k1]; exact ⟨0, by omega, by omega, by dsimp only; omega, Adv.refl _ _⟩
  rw [if_neg k1]
  by_cases k2 : p ≤ 7
  · rw [if_pos k2]; exact ⟨1, by omega, by omega, by dsimp only; omega, pick_adv code (by omega) c⟩
  rw [if_neg k2]
  by_cases k3 : p ≤ 9
  · rw [if_pos k3]; exact ⟨0, by omega, by omega, by dsimp only; omega, Adv.refl _ _⟩
  rw [if_neg k3]
  by_cases k4 : p = 10
  · rw [if_pos k4]; exact ⟨1, by omega, by omega, by dsimp only; omega, pick_adv code (by omega) c⟩
  rw [if_neg k4]
  by_cases k5 : p = 11
  · rw [if_pos k5]
    by_cases k6 : (pickP code 2 c).1 = 0 ∧ tk < 9
    · rw [if_pos k6]; exact ⟨1, by omega, by omega, by dsimp only; omega, p2⟩
    rw [if_neg k6]
    by_cases k7 : 0 < ws.length
    · rw [if_pos k7]; exact ⟨1, by omega, by omega, by dsimp only; omega, p2⟩
    · rw [if_neg k7]
      obtain ⟨k, hk, ha⟩ := pick_adv' code tk.toNat (pickP code 2 c).2
      exact ⟨1 + k, by omega, by omega, by dsimp only; omega, p2.trans ha⟩
  · rw [if_neg k5]; exact ⟨1, by omega, by omega, by dsimp only; omega, p2⟩
theorem kd_adv (code : List Nat) (c : Cu) : ∃ k, 3 ≤ k ∧ k ≤ 9 ∧ Adv code c (kdP code c).2 k ∧ (code.length ≤ c.pos → (kdP code c).1 = outS (iterS k c.seed) % 14) := by
  have h1 := pick_adv code (n := 4) (by omega) c
  have h0 := pickP_lt code (lnP code c).2 (n := 4) (by omega)
  have h2 := (pick_adv code (n := 4) (by omega) (lnP code c).2).trans (varsN_adv code (pickP code 4 (lnP code c).2).2 (pickP code 4 (lnP code c).2).1)
  have h3 := pick_adv code (n := 14) (by omega) (vrP code c).2
  refine ⟨1 + (1 + 2 * (pickP code 4 (lnP code c).2).1) + 1, by omega, by omega, (h1.trans h2).trans h3, fun hc => ?_⟩
  have h4 := h1.trans h2
  have e1 : (vrP code c).2.seed = iterS (1 + (1 + 2 * (pickP code 4 (lnP code c).2).1)) c.seed := h4.2 hc
  have e2 : (vrP code c).2.pos = c.pos + (1 + (1 + 2 * (pickP code 4 (lnP code c).2).1)) := h4.1
  unfold kdP
  rw [pick_far code (by omega) _ (by omega), e1, iterS_succ]
/-- Each round brings the end nearer, by as many choices as it takes. -/
theorem pot_step {code : List Nat} {n : Nat} {T : TS} {g : Nat} (hc : code.length ≤ 1048576) (hn : n ≤ 89) (hd : DI T) (h : Pot code n T g) (hlt : T.ms.length < n) :
    ∃ g' k, Pot code n (trStep code T) g' ∧ (trStep code T).c.pos = T.c.pos + k ∧ 3 ≤ k ∧ g' + k ≤ g := by
  obtain ⟨k1, a1, a2, ha, hp⟩ := kd_adv code T.c
  obtain ⟨k2, b1, b2, b3, hb⟩ := mkM_adv code (stN T.ms T.ms.length) (lnP code T.c).1 (vrP code T.c).1 (kdP code T.c).1 (kdP code T.c).2 T.ws T.tk
  have hab := ha.trans hb
  have e : mkM code (stN T.ms T.ms.length) (lnP code T.c).1 (vrP code T.c).1 (kdP code T.c).1 (kdP code T.c).2 T.ws T.tk = rawM code T := rfl
  rw [e] at hab b3
  have q48 : (2 : Nat) ^ 48 = 281474976710656 := by decide
  obtain ⟨d, rfl, hD⟩ := h
  have hdl : d ≤ 562949954469888 := by
    rcases hD with ⟨x, y⟩ | ⟨x, y, -⟩ <;> omega
  by_cases hs : skipB (stN T.ms T.ms.length) (newM code T) = true
  · -- nothing is appended: the choice was 8 or 9
    have hkd : (kdP code T.c).1 = 8 ∨ (kdP code T.c).1 = 9 := by
      refine b3 ?_
      have hl := hd.len (stN T.ms T.ms.length).cur
      unfold skipB at hs
      have h200 : ¬ (stN T.ms T.ms.length).top.length = 200 := by unfold PS.top; omega
      simp only [h200, decide_false, Bool.or_false, Bool.and_eq_true, decide_eq_true_eq] at hs
      have := hs.1
      unfold newM fixM at this
      split at this
      · cases this
      · exact this
    have hk2 : k2 = 0 := b2 hkd
    subst hk2
    have eT : trStep code T = ⟨(rawM code T).2.1, T.ms, (rawM code T).2.2.1, (rawM code T).2.2.2⟩ := by unfold trStep; rw [if_pos hs]
    rw [Nat.add_zero] at hab
    rcases hD with ⟨x, rfl⟩ | ⟨x, y⟩
    · by_cases hx : T.c.pos + k1 < code.length
      · refine ⟨_, k1, ⟨562949953421312 + (code.length - (T.c.pos + k1)), rfl, .inl ⟨?_, ?_⟩⟩, ?_, a1, ?_⟩
        · rw [eT]; dsimp only; rw [hab.1]; exact hx
        · rw [eT]; dsimp only; rw [hab.1]
        · rw [eT]; exact hab.1
        · rw [eT]; dsimp only; omega
      · obtain ⟨j, hj⟩ := near_ex (rawM code T).2.1.seed
        have hj1 := hj.1
        refine ⟨_, k1, ⟨j, rfl, .inr ⟨?_, ?_⟩⟩, ?_, a1, ?_⟩
        · rw [eT]; dsimp only; rw [hab.1]; omega
        · rw [eT]; exact hj
        · rw [eT]; exact hab.1
        · rw [eT]; dsimp only; omega
    · have hk1 : k1 ≤ d := by
        by_cases hh : k1 ≤ d
        · exact hh
        · have := near_good y k1 (by omega) a2
          rw [← hp x] at this
          omega
      have hnr := near_steps y k1 hk1
      refine ⟨_, k1, ⟨d - k1, rfl, .inr ⟨?_, ?_⟩⟩, ?_, a1, ?_⟩
      · rw [eT]; dsimp only; rw [hab.1]; omega
      · rw [eT]; dsimp only; rw [hab.2 x]; exact hnr
      · rw [eT]; exact hab.1
      · rw [eT]; dsimp only; omega
  · have eT : trStep code T = ⟨(rawM code T).2.1, T.ms ++ [newM code T], (rawM code T).2.2.1, (rawM code T).2.2.2⟩ := by unfold trStep; rw [if_neg hs]
    obtain ⟨g', hg'⟩ := pot_ex code n (trStep code T)
    refine ⟨g', k1 + k2, hg', by rw [eT]; exact hab.1, by omega, ?_⟩
    obtain ⟨d', rfl, hD'⟩ := hg'
    have hl : (trStep code T).ms.length = T.ms.length + 1 := by rw [eT]; simp
    have hdl' : d' ≤ 562949954469888 := by
      rcases hD' with ⟨x, y⟩ | ⟨x, y, -⟩ <;> omega
    have h1 : (n - T.ms.length) * 1125899906842624 = (n - (T.ms.length + 1)) * 1125899906842624 + 1125899906842624 := by
      rw [show n - T.ms.length = (n - (T.ms.length + 1)) + 1 by omega, Nat.add_mul, Nat.one_mul]
    rw [hl, h1]
    omega
theorem trN_stay {code : List Nat} {c : Cu} {n k : Nat} (h : n ≤ (trN code c n k).ms.length) : ∀ j, trN code c n (k + j) = trN code c n k
  | 0 => rfl
  | j + 1 => by
    show (if (trN code c n (k + j)).ms.length < n then trStep code (trN code c n (k + j)) else trN code c n (k + j)) = _
    rw [trN_stay h j, if_neg (by omega)]
theorem trN_one {code : List Nat} {c : Cu} {n k l : Nat} (hk : n ≤ (trN code c n k).ms.length) (hl : n ≤ (trN code c n l).ms.length) : trN code c n k = trN code c n l := by
  rcases Nat.le_total k l with h | h
  · have := trN_stay hk (l - k)
    rw [show k + (l - k) = l by omega] at this
    exact this.symm
  · have := trN_stay hl (k - l)
    rw [show l + (k - l) = k by omega] at this
    exact this
theorem trN_ends (code : List Nat) (c : Cu) {n : Nat} (hc : code.length ≤ 1048576) (hn : n ≤ 89) : ∃ k, n ≤ (trN code c n k).ms.length := by
  have key : ∀ g k, Pot code n (trN code c n k) g → ∃ k, n ≤ (trN code c n k).ms.length := by
    intro g
    induction g using Nat.strongRecOn with
    | _ g ih =>
      intro k hp
      by_cases hlt : (trN code c n k).ms.length < n
      · obtain ⟨g', j, h1, _, h2, h3⟩ := pot_step hc hn (di_N code c n k) hp hlt
        refine ih g' (by omega) (k + 1) ?_
        unfold trN
        rw [if_pos hlt]
        exact h1
      · exact ⟨k, by omega⟩
  obtain ⟨g, hg⟩ := pot_ex code n (trN code c n 0)
  exact key g 0 hg
/-- What the loop leaves: by any count of rounds that suffices. -/
noncomputable def trEnd (code : List Nat) (c : Cu) (n : Nat) : TS := by
  classical exact if h : ∃ k, n ≤ (trN code c n k).ms.length then trN code c n (Classical.choose h) else ts0 c
theorem trEnd_is {code : List Nat} {c : Cu} {n k : Nat} (h : n ≤ (trN code c n k).ms.length) : trEnd code c n = trN code c n k := by
  unfold trEnd
  have hx : ∃ k, n ≤ (trN code c n k).ms.length := ⟨k, h⟩
  rw [dif_pos hx]
  exact trN_one (Classical.choose_spec hx) h
def dFns : List ByteArray := [⟨#[109, 97, 105, 110]⟩, ⟨#[102]⟩, ⟨#[]⟩, ⟨#[103]⟩]
theorem trN_sound (code : List Nat) (c : Cu) {n k : Nat} (hn : n ≤ 3000) : Sound ⟨dFns, (trN code c n k).ms⟩ := by
  have h := di_N code c n k
  refine ⟨?_, fun j hj => (h.ok j hj).1, fun j hj => (h.ok j hj).2⟩
  unfold sizesOk
  have h1 := trN_len code c n k
  have h2 : fnsOk dFns = true := rfl
  have h3 : dFns.length = 4 := rfl
  dsimp only
  rw [h2, h3]
  simp
  omega
theorem trEnd_sound (code : List Nat) (c : Cu) {n : Nat} (hc : code.length ≤ 1048576) (hn : n ≤ 89) : Sound ⟨dFns, (trEnd code c n).ms⟩ := by
  obtain ⟨k, hk⟩ := trN_ends code c hc hn
  rw [trEnd_is hk]
  exact trN_sound code c (by omega)
theorem trEnd_len (code : List Nat) (c : Cu) {n : Nat} (hc : code.length ≤ 1048576) (hn : n ≤ 89) : (trEnd code c n).ms.length = n := by
  obtain ⟨k, hk⟩ := trN_ends code c hc hn
  rw [trEnd_is hk]
  have := trN_len code c n k
  omega
theorem mkM_wl (code : List Nat) (s : PS) (line : Nat) (vars : List PVar) (p : Nat) (c : Cu) {ws : List Int} {tk : Int} (h : (ws.length : Int) + 1 ≤ tk) :
    ((mkM code s line vars p c ws tk).2.2.1.length : Int) + 1 ≤ (mkM code s line vars p c ws tk).2.2.2 := by
  unfold mkM
  split
  · exact h
  · split
    · exact h
    · split
      · exact h
      · split
        · exact h
        · split
          · split
            · simp; omega
            · split
              · simp; omega
              · exact h
          · exact h
theorem trN_wl (code : List Nat) (c : Cu) (n : Nat) : ∀ k, ((trN code c n k).ws.length : Int) + 1 ≤ (trN code c n k).tk
  | 0 => by simp [trN, ts0]
  | k + 1 => by
    have ih := trN_wl code c n k
    have h1 : ((rawM code (trN code c n k)).2.2.1.length : Int) + 1 ≤ (rawM code (trN code c n k)).2.2.2 := mkM_wl code _ _ _ _ _ ih
    unfold trN
    split
    · unfold trStep
      split
      · exact h1
      · exact h1
    · exact ih
theorem DI.inv {T : TS} (h : DI T) : Inv (stN T.ms T.ms.length) T.ms.length :=
  inv_stN (t := ⟨dFns, T.ms⟩) T.ms.length (Nat.le_refl _) (fun k hk => (h.ok k hk).1) (fun k hk => (h.ok k hk).2)
def cu0 : Cu := ⟨0, 0⟩
/-- spec.Drawn's trace. -/
noncomputable def drawnT (code : List Nat) : PTr := ⟨dFns, (trEnd code (pickP code 90 cu0).2 (pickP code 90 cu0).1).ms⟩
theorem drawnT_sound {code : List Nat} (hc : code.length ≤ 1048576) : Sound (drawnT code) := trEnd_sound code _ hc (by have := pickP_lt code cu0 (n := 90) (by omega); omega)
theorem drawnT_len {code : List Nat} (hc : code.length ≤ 1048576) : (drawnT code).moms.length ≤ 89 := by
  have := pickP_lt code cu0 (n := 90) (by omega)
  show (trEnd code _ _).ms.length ≤ 89
  rw [trEnd_len code _ hc (by omega)]; omega
end Go.Proofs.Lens
