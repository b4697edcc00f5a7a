/- WHAT A READER READS: plain functions on bytes. -/
import Derived.Test.YtnmiodjkomgfcaaMem
namespace Go.Proofs.Ytnmiodjkomgfcaa
def valL (l : List UInt8) : Nat := l.foldl (fun a b => a * 256 + b.toNat) 0
theorem valL_snoc (l : List UInt8) (k : Nat) (hk : k < l.length) : valL (l.take (k + 1)) = valL (l.take k) * 256 + l[k].toNat := by
  unfold valL
  rw [List.take_succ_eq_append_getElem hk, List.foldl_append]
  rfl
theorem valL_lt (l : List UInt8) (k : Nat) : valL (l.take k) < 256 ^ k := by
  induction k with
  | zero => simp [valL]
  | succ k ih =>
    by_cases hk : k < l.length
    · rw [valL_snoc l k hk, Nat.pow_succ]
      have := l[k].toNat_lt
      omega
    · rw [List.take_of_length_le (by omega)]
      rw [List.take_of_length_le (by omega)] at ih
      exact Nat.lt_of_lt_of_le ih (Nat.pow_le_pow_right (by decide) (by omega))
theorem valL_lt128 (l : List UInt8) (h0 : 0 < l.length) (h : l[0].toNat < 128) (k : Nat) : valL (l.take (k + 1)) < 128 * 256 ^ k := by
  induction k with
  | zero => rw [valL_snoc l 0 h0]; simpa [valL] using h
  | succ k ih =>
    by_cases hk : k + 1 < l.length
    · rw [valL_snoc l (k + 1) hk, Nat.pow_succ]
      have := l[k + 1].toNat_lt
      omega
    · rw [List.take_of_length_le (by omega)]
      rw [List.take_of_length_le (by omega)] at ih
      exact Nat.lt_of_lt_of_le ih (Nat.mul_le_mul_left _ (Nat.pow_le_pow_right (by decide) (by omega)))
theorem valL_bound (l : List UInt8) (many k : Nat) (hm : many ≤ 8) (hl : many ≤ l.length) (h8 : many = 8 → ∀ h : 0 < l.length, l[0].toNat < 128) (hk : k < many) : valL (l.take (k + 1)) < 9223372036854775808 := by
  by_cases h : k = 7
  · subst h
    have := valL_lt128 l (by omega) (h8 (by omega) (by omega)) 7
    exact Nat.lt_of_lt_of_le this (by decide)
  · exact Nat.lt_of_lt_of_le (valL_lt l (k + 1)) (Nat.le_trans (Nat.pow_le_pow_right (by decide) (show k + 1 ≤ 7 by omega)) (by decide))
/-- may a number stand here, whose head is h, with t behind it? -/
def numOk (h : UInt8) (t : List UInt8) : Bool :=
  decide (h.toNat % 128 ≤ 8) && (decide (h.toNat < 128) || decide (0 < h.toNat % 128)) && decide (h.toNat % 128 ≤ t.length) &&
    (decide (h.toNat % 128 = 0) || (decide (0 < (t.headD 0).toNat) && (decide (h.toNat % 128 < 8) || decide ((t.headD 0).toNat < 128))))
def rdNum : List UInt8 → Option (Int × List UInt8)
  | [] => none
  | h :: t => if numOk h t then some ((if h.toNat < 128 then (valL (t.take (h.toNat % 128)) : Int) else -(valL (t.take (h.toNat % 128)) : Int)), t.drop (h.toNat % 128)) else none
def rdText (l : List UInt8) : Option (ByteArray × List UInt8) :=
  match rdNum l with
  | some (n, t) => if 0 ≤ n ∧ n ≤ 65536 ∧ n ≤ t.length then some (⟨(t.take n.toNat).toArray⟩, t.drop n.toNat) else none
  | none => none
def rdFlag : List UInt8 → Option (Bool × List UInt8)
  | [] => none
  | h :: t => if h.toNat ≤ 1 then some (h.toNat == 1, t) else none
theorem rdNum_yes {h : UInt8} {t : List UInt8} (ho : numOk h t = true) : rdNum (h :: t) = some ((if h.toNat < 128 then (valL (t.take (h.toNat % 128)) : Int) else -(valL (t.take (h.toNat % 128)) : Int)), t.drop (h.toNat % 128)) := if_pos ho
theorem rdNum_no {h : UInt8} {t : List UInt8} (ho : ¬ numOk h t = true) : rdNum (h :: t) = none := if_neg ho
theorem rdNum_range {l : List UInt8} {n : Int} {t : List UInt8} (h : rdNum l = some (n, t)) : -9223372036854775808 < n ∧ n < 9223372036854775808 := by
  cases l with
  | nil => cases h
  | cons c t' =>
    by_cases ho : numOk c t' = true
    · rw [rdNum_yes ho] at h
      simp only [numOk, Bool.and_eq_true, Bool.or_eq_true, decide_eq_true_eq] at ho
      obtain ⟨⟨⟨h1, _⟩, h3⟩, h4⟩ := ho
      simp only [Option.some.injEq, Prod.mk.injEq] at h
      obtain ⟨rfl, _⟩ := h
      have hv : valL (t'.take (c.toNat % 128)) < 9223372036854775808 := by
        rcases Nat.eq_zero_or_pos (c.toNat % 128) with h0 | hp
        · rw [h0]; simp [valL]
        · have := valL_bound t' (c.toNat % 128) (c.toNat % 128 - 1) h1 h3 (fun e hl => by
            rcases h4 with h4 | ⟨_, h4⟩
            · omega
            · rcases h4 with h4 | h4
              · omega
              · cases t' with
                | nil => simp at hl
                | cons a b => simpa using h4) (by omega)
          rwa [show c.toNat % 128 - 1 + 1 = c.toNat % 128 by omega] at this
      split <;> omega
    · rw [rdNum_no ho] at h; cases h
end Go.Proofs.Ytnmiodjkomgfcaa
