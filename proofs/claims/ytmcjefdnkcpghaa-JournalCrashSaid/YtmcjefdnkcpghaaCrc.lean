/- THE PLAIN ARITHMETIC OF THE CHECK SUM: registers as numbers below 2^32, steps as linear maps over two elements. No program here. -/
namespace Go.Proofs.Ytmcjefdnkcpghaa.Crc
def st (x : Nat) : Nat := x / 2 ^^^ (if x % 2 = 1 then 3988292384 else 0)
def stN : Nat → Nat → Nat
  | 0, x => x
  | n + 1, x => stN n (st x)

theorem xor_odd (a b : Nat) : ((a ^^^ b) % 2 = 1) ↔ ((a % 2 = 1) ↔ ¬ (b % 2 = 1)) := by
  have h := @Nat.xor_mod_two_pow a b 1
  simp only [Nat.pow_one] at h
  rw [h]
  rcases Nat.mod_two_eq_zero_or_one a with ha | ha <;> rcases Nat.mod_two_eq_zero_or_one b with hb | hb <;> rw [ha, hb] <;> decide

theorem st_xor (a b : Nat) : st (a ^^^ b) = st a ^^^ st b := by
  unfold st
  rw [Nat.xor_div_two]
  have h := xor_odd a b
  by_cases ha : a % 2 = 1 <;> by_cases hb : b % 2 = 1
  · rw [if_neg (by rw [h]; simp [ha, hb]), if_pos ha, if_pos hb]
    rw [Nat.xor_zero, Nat.xor_assoc, ← Nat.xor_assoc 3988292384, Nat.xor_comm 3988292384 (b / 2), Nat.xor_assoc, Nat.xor_self, Nat.xor_zero]
  · rw [if_pos (by rw [h]; simp [ha, hb]), if_pos ha, if_neg hb]
    rw [Nat.xor_zero, Nat.xor_assoc, Nat.xor_assoc, Nat.xor_comm (b / 2)]
  · rw [if_pos (by rw [h]; simp [ha, hb]), if_neg ha, if_pos hb]
    rw [Nat.xor_zero, Nat.xor_assoc]
  · rw [if_neg (by rw [h]; simp [ha, hb]), if_neg ha, if_neg hb]
    simp

theorem stN_xor (n : Nat) : ∀ a b, stN n (a ^^^ b) = stN n a ^^^ stN n b := by
  induction n with
  | zero => intro a b; rfl
  | succ n ih => intro a b; simp only [stN]; rw [st_xor, ih]
theorem st_zero : st 0 = 0 := by decide
theorem stN_zero (n : Nat) : stN n 0 = 0 := by
  induction n with
  | zero => rfl
  | succ n ih => simp only [stN, st_zero, ih]
theorem st_lt {x : Nat} (h : x < 4294967296) : st x < 4294967296 := by
  unfold st
  refine Nat.xor_lt_two_pow (n := 32) (by omega) ?_
  split <;> decide
theorem stN_lt (n : Nat) : ∀ {x : Nat}, x < 4294967296 → stN n x < 4294967296 := by
  induction n with
  | zero => intro x h; exact h
  | succ n ih => intro x h; exact ih (st_lt h)
theorem stN_add (m : Nat) : ∀ n x, stN (m + n) x = stN n (stN m x) := by
  induction m with
  | zero => intro n x; simp [stN]
  | succ m ih => intro n x; rw [Nat.succ_add]; simp only [stN]; exact ih n (st x)
theorem stN_succ' (n x : Nat) : stN (n + 1) x = st (stN n x) := by rw [stN_add]; rfl

/-- a byte's way -/
def onL (x : Nat) (l : List Nat) : Nat := l.foldl (fun x c => stN 8 (x ^^^ c)) x
def on (s : Nat) (l : List Nat) : Nat := onL (s ^^^ 4294967295) l ^^^ 4294967295
theorem onL_nil (x) : onL x [] = x := rfl
theorem onL_cons (x c l) : onL x (c :: l) = onL (stN 8 (x ^^^ c)) l := rfl
theorem onL_append (x l m) : onL x (l ++ m) = onL (onL x l) m := by simp [onL]
theorem xor_cancel (a b : Nat) : a ^^^ b ^^^ b = a := by rw [Nat.xor_assoc, Nat.xor_self, Nat.xor_zero]
theorem on_append (s l m) : on s (l ++ m) = on (on s l) m := by
  unfold on; rw [onL_append, xor_cancel]
theorem onL_lt (l : List Nat) : ∀ x, x < 4294967296 → (∀ c ∈ l, c < 256) → onL x l < 4294967296 := by
  induction l with
  | nil => intro x h _; exact h
  | cons c l ih =>
    intro x h hc
    rw [onL_cons]
    refine ih _ (stN_lt 8 (Nat.xor_lt_two_pow (n := 32) h ?_)) (fun d hd => hc d (by simp [hd]))
    have := hc c (by simp)
    omega
theorem on_lt (s l) (h : s < 4294967296) (hc : ∀ c ∈ l, c < 256) : on s l < 4294967296 :=
  Nat.xor_lt_two_pow (n := 32) (onL_lt l _ (Nat.xor_lt_two_pow (n := 32) h (by decide)) hc) (by decide)
/-- linear in the register -/
theorem onL_lin (l : List Nat) : ∀ x y, onL (x ^^^ y) l = stN (8 * l.length) x ^^^ onL y l := by
  induction l with
  | nil => intro x y; rfl
  | cons c l ih =>
    intro x y
    rw [onL_cons, onL_cons, Nat.xor_assoc, stN_xor, ih, ← stN_add]
    congr 2
    simp; omega

/-- four steps by a table -/
theorem st_even (y : Nat) : st (y * 2) = y := by
  unfold st
  rw [if_neg (by omega), Nat.xor_zero]; omega
theorem stN_shl (k : Nat) : ∀ y, stN k (y * 2 ^ k) = y := by
  induction k with
  | zero => intro y; simp [stN]
  | succ k ih => intro y; simp only [stN]; rw [Nat.pow_succ, ← Nat.mul_assoc, st_even, ih]
theorem split_low (x k : Nat) : x = (x / 2 ^ k * 2 ^ k) ^^^ (x % 2 ^ k) := by
  apply Nat.eq_of_testBit_eq
  intro i
  rw [Nat.testBit_xor, Nat.testBit_mul_two_pow, Nat.testBit_mod_two_pow]
  by_cases h : k ≤ i
  · simp only [Nat.testBit_div_two_pow, h, decide_true, Bool.true_and]
    rw [show decide (i < k) = false by simp; omega]
    simp
    congr 1; omega
  · rw [show decide (k ≤ i) = false by simp; omega, show decide (i < k) = true by simp; omega]
    simp
theorem stN_split (k x : Nat) : stN k x = x / 2 ^ k ^^^ stN k (x % 2 ^ k) := by
  conv => lhs; rw [split_low x k]
  rw [stN_xor, stN_shl]
theorem four (x : Nat) : stN 4 x = x / 16 ^^^ stN 4 (x % 16) := stN_split 4 x
theorem byte_table (x c : Nat) : stN 8 (x ^^^ c) = stN 4 (stN 4 (x ^^^ c)) := by rw [← stN_add]

/-- the product -/
def S (a b : Nat) : Nat → Nat
  | 0 => 0
  | k + 1 => S a b k ^^^ (if a.testBit (31 - k) then stN k b else 0)
theorem S_xor (a a' b k : Nat) : S (a ^^^ a') b k = S a b k ^^^ S a' b k := by
  induction k with
  | zero => simp [S]
  | succ k ih =>
    simp only [S]
    rw [ih, Nat.testBit_xor]
    generalize stN k b = t
    generalize S a b k = p
    generalize S a' b k = q
    cases a.testBit (31 - k) <;> cases a'.testBit (31 - k) <;> simp
    · rw [Nat.xor_assoc]
    · rw [Nat.xor_assoc, Nat.xor_assoc, Nat.xor_comm q]
    · rw [Nat.xor_assoc p t, Nat.xor_comm t, Nat.xor_assoc q, Nat.xor_self, Nat.xor_zero]
theorem S_half (a b : Nat) (ha : a < 4294967296) (k : Nat) (hk : k ≤ 31) : S (a / 2) b (k + 1) = st (S a b k) := by
  induction k with
  | zero =>
    simp only [S, stN]
    rw [Nat.testBit_div_two, show a.testBit (31 - 0 + 1) = false from Nat.testBit_lt_two_pow (by omega)]
    simp [st_zero]
  | succ k ih =>
    rw [show S (a / 2) b (k + 1 + 1) = S (a / 2) b (k + 1) ^^^ (if (a / 2).testBit (31 - (k + 1)) then stN (k + 1) b else 0) from rfl, ih (by omega)]
    simp only [S]
    rw [st_xor, Nat.testBit_div_two, show 31 - (k + 1) + 1 = 31 - k by omega, stN_succ']
    congr 1
    split <;> simp [st_zero]
theorem S_lin (a b b' k : Nat) : S a (b ^^^ b') k = S a b k ^^^ S a b' k := by
  induction k with
  | zero => simp [S]
  | succ k ih =>
    simp only [S]
    rw [ih, stN_xor]
    generalize S a b k = p
    generalize S a b' k = q
    generalize stN k b = t
    generalize stN k b' = u
    split
    · rw [Nat.xor_assoc, Nat.xor_assoc, ← Nat.xor_assoc q, Nat.xor_comm q t, Nat.xor_assoc]
    · simp
theorem S_zero_b (a k : Nat) : S a 0 k = 0 := by
  induction k with
  | zero => rfl
  | succ k ih => simp only [S, ih, stN_zero]; split <;> rfl
/-- two linear maps that agree on the single bits agree -/
theorem lin_eq (f g : Nat → Nat) (hf : ∀ a b, f (a ^^^ b) = f a ^^^ f b) (hg : ∀ a b, g (a ^^^ b) = g a ^^^ g b) (h0 : f 0 = g 0)
    (h : ∀ i < 32, f (2 ^ i) = g (2 ^ i)) (n : Nat) (hn : n ≤ 32) : ∀ b, b < 2 ^ n → f b = g b := by
  induction n with
  | zero => intro b hb; have : b = 0 := by omega
            subst this; exact h0
  | succ n ih =>
    intro b hb
    rw [split_low b n, hf, hg, ih (by omega) (b % 2 ^ n) (Nat.mod_lt _ (Nat.two_pow_pos n))]
    congr 1
    have : b / 2 ^ n < 2 := by rw [Nat.div_lt_iff_lt_mul (Nat.two_pow_pos n)]; rw [Nat.pow_succ] at hb; omega
    generalize b / 2 ^ n = q at this ⊢
    rcases (by omega : q = 0 ∨ q = 1) with e | e
    · rw [e]; simpa using h0
    · rw [e, Nat.one_mul]; exact h n (by omega)
theorem S_poly (b : Nat) (hb : b < 4294967296) : S 3988292384 b 32 = stN 32 b := by
  refine lin_eq (fun b => S 3988292384 b 32) (stN 32) (fun a b => S_lin _ a b 32) (stN_xor 32) ?_ ?_ 32 (Nat.le_refl _) b hb
  · show S 3988292384 0 32 = stN 32 0; rw [S_zero_b, stN_zero]
  · decide +kernel
theorem S_st (a b : Nat) (ha : a < 4294967296) (hb : b < 4294967296) : S (st a) b 32 = st (S a b 32) := by
  have e : S a b 32 = S a b 31 ^^^ (if a.testBit 0 then stN 31 b else 0) := rfl
  rw [e, st_xor, ← S_half a b ha 31 (by omega)]
  conv => lhs; unfold st
  rw [S_xor]
  congr 1
  have ht : a.testBit 0 = decide (a % 2 = 1) := by simp [Nat.testBit_zero]
  rw [ht]
  by_cases h : a % 2 = 1
  · simp only [h, if_true, decide_true]
    rw [S_poly b hb, ← stN_succ']
  · simp only [h, if_false, decide_false]
    rw [show S 0 b 32 = 0 from ?_]
    · simp [st_zero]
    · simp [S]
theorem S_one (b : Nat) : S 2147483648 b 32 = b := by
  have : ∀ k, S 2147483648 b (k + 1) = b := by
    intro k
    induction k with
    | zero => simp only [S, stN, Nat.zero_xor, Nat.sub_zero]; rw [if_pos (by decide)]
    | succ k ih =>
      rw [show S 2147483648 b (k + 1 + 1) = S 2147483648 b (k + 1) ^^^ (if (2147483648).testBit (31 - (k + 1)) then stN (k + 1) b else 0) from rfl, ih]
      rw [show (2147483648 : Nat) = 2 ^ 31 from rfl, Nat.testBit_two_pow_of_ne (by omega)]
      simp
  exact this 31
/-- times by what m steps make of one: m steps -/
theorem S_stN (m : Nat) : ∀ b, b < 4294967296 → S (stN m 2147483648) b 32 = stN m b := by
  induction m with
  | zero => intro b _; exact S_one b
  | succ m ih =>
    intro b hb
    rw [stN_succ', stN_succ', S_st _ b (stN_lt m (by decide)) hb, ih b hb]
theorem S_lt (a b k : Nat) (hb : b < 4294967296) : S a b k < 4294967296 := by
  induction k with
  | zero => simp [S]
  | succ k ih =>
    refine Nat.xor_lt_two_pow (n := 32) ih ?_
    split
    · exact stN_lt k hb
    · decide
/-- the loop's test -/
theorem bit_top (a i : Nat) (hi : i ≤ 31) : (a * 2 ^ i % 4294967296 / 2147483648 = 1) ↔ a.testBit (31 - i) = true := by
  have h1 : a * 2 ^ i % 4294967296 / 2147483648 = (a * 2 ^ i % 2 ^ 32) / 2 ^ 31 := rfl
  have h2 : (a * 2 ^ i % 2 ^ 32) / 2 ^ 31 < 2 := by
    rw [Nat.div_lt_iff_lt_mul (by decide)]
    exact Nat.mod_lt _ (by decide)
  have h3 : (a * 2 ^ i % 2 ^ 32).testBit 31 = a.testBit (31 - i) := by
    rw [Nat.testBit_mod_two_pow, Nat.testBit_mul_two_pow]
    simp [hi]
  rw [h1, ← h3, Nat.testBit_eq_decide_div_mod_eq]
  simp only [decide_eq_true_eq]
  omega
theorem rest_zero (a b i : Nat) (h : a * 2 ^ i % 4294967296 = 0) : ∀ k, i + k ≤ 32 → S a b (i + k) = S a b i := by
  intro k
  induction k with
  | zero => intro _; rfl
  | succ k ih =>
    intro hk
    rw [← Nat.add_assoc]
    simp only [S]
    rw [ih (by omega)]
    have h3 : (a * 2 ^ i % 2 ^ 32).testBit (31 - k) = a.testBit (31 - (i + k)) := by
      rw [Nat.testBit_mod_two_pow, Nat.testBit_mul_two_pow]
      rw [show decide (31 - k < 32) = true by simp; omega, show decide (i ≤ 31 - k) = true by simp; omega]
      simp
      congr 1
      omega
    have h4 : a * 2 ^ i % 2 ^ 32 = 0 := h
    rw [← h3, h4]
    simp
theorem S_done (a b i : Nat) (h : a * 2 ^ i % 4294967296 = 0) (hi : i ≤ 32) : S a b i = S a b 32 := by
  have := rest_zero a b i h (32 - i) (by omega)
  rw [show i + (32 - i) = 32 by omega] at this
  exact this.symm

/-- steps are one to one -/
theorem st_inj0 (d : Nat) (hd : d < 4294967296) (h : st d = 0) : d = 0 := by
  unfold st at h
  by_cases ho : d % 2 = 1
  · rw [if_pos ho] at h
    have : d / 2 = 3988292384 := by
      have := xor_cancel (d / 2) 3988292384
      rw [h, Nat.zero_xor] at this
      exact this.symm
    omega
  · rw [if_neg ho, Nat.xor_zero] at h; omega
theorem stN_inj0 (n : Nat) : ∀ d, d < 4294967296 → stN n d = 0 → d = 0 := by
  induction n with
  | zero => intro d _ h; exact h
  | succ n ih => intro d hd h; exact st_inj0 d hd (ih _ (st_lt hd) h)
end Go.Proofs.Ytmcjefdnkcpghaa.Crc
