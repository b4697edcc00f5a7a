/- BITS THAT ARE OTHERS, WITHIN 32 SIDE BY SIDE, MAKE ANOTHER SUM: plain arithmetic. No program here. -/
import Derived.Test.YtmcjefdnkcpghaaCd
namespace Go.Proofs.Ytmcjefdnkcpghaa
/-- bytes, some of whose bits are turned: those of N, the lowest first -/
def mixL : List UInt8 → Nat → List UInt8
  | [], _ => []
  | b :: l, N => (b ^^^ UInt8.ofNat N) :: mixL l (N / 256)
theorem mixL_length (l : List UInt8) : ∀ N, (mixL l N).length = l.length := by
  induction l with
  | nil => intro N; rfl
  | cons b l ih => intro N; simp [mixL, ih]
theorem mixL_get (l : List UInt8) : ∀ (N j : Nat) (h : j < l.length) (h' : j < (mixL l N).length), (mixL l N)[j] = l[j] ^^^ UInt8.ofNat (N / 256 ^ j) := by
  induction l with
  | nil => intro N j h; simp at h
  | cons b l ih =>
    intro N j h h'
    cases j with
    | zero => simp [mixL]
    | succ j =>
      have h2 : j < l.length := by simpa using h
      simp only [mixL, List.getElem_cons_succ]
      rw [ih (N / 256) j h2, Nat.div_div_eq_div_mul, ← Nat.pow_succ']
theorem mixL_zero (l : List UInt8) : mixL l 0 = l := by
  induction l with
  | nil => rfl
  | cons b l ih => simp [mixL, ih]
theorem ofNat_xor (a b : Nat) : UInt8.ofNat (a ^^^ b) = UInt8.ofNat a ^^^ UInt8.ofNat b := by
  rw [← UInt8.toNat_inj]
  simp only [UInt8.toNat_ofNat', UInt8.toNat_xor]
  exact Nat.xor_mod_two_pow (n := 8)
theorem bit_byte (q r j : Nat) (hr : r < 8) : UInt8.ofNat (2 ^ (8 * q + r) / 256 ^ j) = if j = q then UInt8.ofNat (2 ^ r) else 0 := by
  have e : (256 : Nat) ^ j = 2 ^ (8 * j) := by rw [Nat.pow_mul]
  rw [e]
  by_cases h : j = q
  · subst h
    rw [if_pos rfl, Nat.pow_add, Nat.mul_div_cancel_left _ (Nat.two_pow_pos _)]
  · rw [if_neg h]
    rcases Nat.lt_or_ge j q with hlt | hge
    · obtain ⟨d, rfl⟩ : ∃ d, q = j + 1 + d := ⟨q - j - 1, by omega⟩
      rw [show 8 * (j + 1 + d) + r = 8 * j + (8 + (8 * d + r)) by omega, Nat.pow_add, Nat.mul_div_cancel_left _ (Nat.two_pow_pos _), Nat.pow_add]
      rw [← UInt8.toNat_inj]
      simp only [UInt8.toNat_ofNat']
      show 256 * 2 ^ (8 * d + r) % 256 = 0
      exact Nat.mul_mod_right _ _
    · have : 2 ^ (8 * q + r) / 2 ^ (8 * j) = 0 := Nat.div_eq_of_lt (Nat.pow_lt_pow_right (by decide) (by omega))
      rw [this]
      rfl
/-- one bit more -/
theorem mixL_bit (l : List UInt8) (N q r : Nat) (hr : r < 8) (h' : q < (mixL l N).length) :
    mixL l (N ^^^ 2 ^ (8 * q + r)) = (mixL l N).set q ((mixL l N)[q] ^^^ UInt8.ofNat (2 ^ r)) := by
  apply List.ext_getElem
  · rw [List.length_set, mixL_length, mixL_length]
  · intro j h1 h2
    rw [mixL_length] at h1
    rw [mixL_get _ _ _ h1, List.getElem_set]
    have e : (N ^^^ 2 ^ (8 * q + r)) / 256 ^ j = N / 256 ^ j ^^^ 2 ^ (8 * q + r) / 256 ^ j := by
      rw [show (256 : Nat) ^ j = 2 ^ (8 * j) by rw [Nat.pow_mul]]
      exact Nat.xor_div_two_pow
    rw [e, ofNat_xor, bit_byte q r j hr]
    by_cases hjq : q = j
    · subst hjq
      rw [if_pos rfl, if_pos rfl, mixL_get _ _ _ h1, UInt8.xor_assoc]
    · rw [if_neg hjq, if_neg (fun e => hjq e.symm), mixL_get _ _ _ h1, UInt8.xor_zero]
theorem onL_mix (l : List UInt8) : ∀ (z N : Nat), N < 256 ^ l.length → Crc.onL z (nats (mixL l N)) = Crc.onL z (nats l) ^^^ Crc.stN (8 * l.length) N := by
  induction l with
  | nil =>
    intro z N hN
    have : N = 0 := by simpa using hN
    subst this
    simp [nats, mixL, Crc.onL, Crc.stN]
  | cons b l ih =>
    intro z N hN
    have hN' : N / 256 < 256 ^ l.length := by
      rw [Nat.div_lt_iff_lt_mul (by decide)]
      simpa [Nat.pow_succ] using hN
    have hb : (b ^^^ UInt8.ofNat N).toNat = b.toNat ^^^ (N % 256) := by simp [UInt8.toNat_xor]
    show Crc.onL z ((b ^^^ UInt8.ofNat N).toNat :: nats (mixL l (N / 256))) = Crc.onL z (b.toNat :: nats l) ^^^ _
    rw [Crc.onL_cons, Crc.onL_cons, hb, ih _ _ hN', ← Nat.xor_assoc, Crc.stN_xor, Nat.xor_comm (Crc.stN 8 (z ^^^ b.toNat)), Crc.onL_lin]
    have hs := Crc.stN_split 8 N
    have hl : (nats l).length = l.length := by simp [nats]
    rw [hl, show 8 * (b :: l).length = 8 + 8 * l.length by simp; omega, Crc.stN_add, hs, Crc.stN_xor]
    rw [show 2 ^ 8 = 256 from rfl, Nat.xor_comm (Crc.stN (8 * l.length) (Crc.stN 8 (N % 256))), Nat.xor_assoc]
    congr 1
    rw [Crc.stN_xor, Nat.xor_comm]
theorem burst (l : List UInt8) (turn p : Nat) (ht : turn < 4294967296) (h0 : turn ≠ 0) (hp : p + 32 ≤ 8 * l.length) : Crc.on 0 (nats (mixL l (turn * 2 ^ p))) ≠ Crc.on 0 (nats l) := by
  intro h
  have hN : turn * 2 ^ p < 256 ^ l.length := by
    have h1 : turn * 2 ^ p < 2 ^ 32 * 2 ^ p := Nat.mul_lt_mul_of_pos_right ht (Nat.two_pow_pos p)
    rw [← Nat.pow_add] at h1
    have h2 : (256 : Nat) ^ l.length = 2 ^ (8 * l.length) := by rw [Nat.pow_mul]
    rw [h2]
    exact Nat.lt_of_lt_of_le h1 (Nat.pow_le_pow_right (by decide) (by omega))
  unfold Crc.on at h
  rw [onL_mix _ _ _ hN] at h
  generalize Crc.onL (0 ^^^ 4294967295) (nats l) = t at h
  have h2 : Crc.stN (8 * l.length) (turn * 2 ^ p) = 0 := by
    have h3 : t ^^^ Crc.stN (8 * l.length) (turn * 2 ^ p) = t := by
      have := congrArg (· ^^^ 4294967295) h
      simpa only [Crc.xor_cancel] using this
    have h4 := congrArg (t ^^^ ·) h3
    simpa only [← Nat.xor_assoc, Nat.xor_self, Nat.zero_xor] using h4
  rw [show 8 * l.length = p + (8 * l.length - p) by omega, Crc.stN_add, Crc.stN_shl] at h2
  exact h0 (Crc.stN_inj0 _ _ ht h2)
/-- behind the first four bytes -/
theorem mixL_wrap (s l : List UInt8) (hs : s.length = 4) (N : Nat) : mixL (s ++ l) (N * 2 ^ 32) = s ++ mixL l N := by
  match s, hs with
  | [a, b, c, d], _ =>
    have sh : ∀ k : Nat, N * 2 ^ (k + 8) / 256 = N * 2 ^ k := fun k => by
      rw [Nat.pow_add, ← Nat.mul_assoc]
      exact Nat.mul_div_cancel _ (by decide)
    have mo : ∀ k : Nat, N * 2 ^ (k + 8) % 256 = 0 := fun k => by
      rw [Nat.pow_add, ← Nat.mul_assoc]
      exact Nat.mul_mod_left _ _
    have e1 : N * 2 ^ 32 / 256 = N * 2 ^ 24 := sh 24
    have e2 : N * 2 ^ 24 / 256 = N * 2 ^ 16 := sh 16
    have e3 : N * 2 ^ 16 / 256 = N * 2 ^ 8 := sh 8
    have e4 : N * 2 ^ 8 / 256 = N := by
      simp
    have z : ∀ M : Nat, M % 256 = 0 → UInt8.ofNat M = 0 := by
      intro M hM
      rw [← UInt8.toNat_inj, UInt8.toNat_ofNat']
      exact hM
    simp only [List.cons_append, List.nil_append, mixL, e1, e2, e3, e4]
    rw [z _ (mo 24), z _ (mo 16), z _ (mo 8), z _ (mo 0)]
    simp
theorem low_bits (turn i : Nat) : turn % 2 ^ (i + 1) = if turn / 2 ^ i % 2 = 1 then (turn % 2 ^ i) ^^^ 2 ^ i else turn % 2 ^ i := by
  rw [Nat.mod_pow_succ]
  by_cases h : turn / 2 ^ i % 2 = 1
  · rw [if_pos h, h, Nat.mul_one]
    have := Nat.two_pow_add_eq_or_of_lt (i := i) (Nat.mod_lt turn (Nat.two_pow_pos i)) 1
    rw [Nat.mul_one] at this
    rw [Nat.add_comm, this]
    apply Nat.eq_of_testBit_eq
    intro k
    rw [Nat.testBit_or, Nat.testBit_xor, Nat.testBit_mod_two_pow, Nat.testBit_two_pow]
    by_cases hk : i = k
    · subst hk; simp
    · simp [hk]
  · rw [if_neg h, show turn / 2 ^ i % 2 = 0 by omega]; simp
theorem shift_xor (a i f : Nat) : (a ^^^ 2 ^ i) * 2 ^ f = a * 2 ^ f ^^^ 2 ^ (f + i) := by
  apply Nat.eq_of_testBit_eq
  intro k
  rw [Nat.testBit_mul_two_pow, Nat.testBit_xor, Nat.testBit_xor, Nat.testBit_mul_two_pow, Nat.testBit_two_pow, Nat.testBit_two_pow]
  by_cases h : f ≤ k
  · simp only [h, decide_true, Bool.true_and]
    congr 1
    rw [decide_eq_decide]
    omega
  · have : ¬ f + i = k := by omega
    simp [h, this]
end Go.Proofs.Ytmcjefdnkcpghaa
