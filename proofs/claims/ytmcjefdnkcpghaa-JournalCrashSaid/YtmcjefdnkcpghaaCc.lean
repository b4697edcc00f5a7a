/- THE WALKS OF THE REFERENCE'S Step, On, Sum, AND OF crc.times, crc.Join, ref.Join. -/
import Derived.Test.YtmcjefdnkcpghaaCb
namespace Go.Proofs.Ytmcjefdnkcpghaa
open Go.RowKit
set_option maxHeartbeats 400000 in
theorem rstep_any (x : Nat) (hx : x < 4294967296) (w : World) :
    Calls Try.prog 86 #[.int .u32 x] w fun e w' => e = .returned (.int .u32 (Crc.st x)) ∧ w = w' := by
  have e1 : bits BinOp.xor IntKind.u32 ((x : Int) / 2) 3988292384 = ((x / 2 ^^^ 3988292384 : Nat) : Int) := by
    have := xor32 (x / 2) 3988292384 (by omega) (by decide)
    exact this
  by_cases h : x % 2 = 1
  · go_enter Try.func86, Try.ntmps86
    go_wp2
    go_ret
    exact ⟨ret_int (by unfold Crc.st; rw [if_pos h]), rfl⟩
  · go_enter Try.func86, Try.ntmps86
    go_wp2
    go_ret
    exact ⟨ret_int (by unfold Crc.st; rw [if_neg h, Nat.xor_zero]; rfl), rfl⟩
set_option maxHeartbeats 1000000 in
theorem ron_any (s : Nat) (hs : s < 4294967296) (v : Value) (l : List UInt8) (w : World) (B : Nat) (hv : Byt w B v l) :
    Calls Try.prog 24 #[.int .u32 s, v] w fun e w' => e = .returned (.int .u32 (Crc.on s (nats l))) ∧ w = w' := by
  obtain ⟨A, c, rfl, hc, hm, hr⟩ := hv
  unfold maxLen at hm
  have HR := Lib.hid hr
  clear hr
  have x0 := xor32_ones s hs
  have hx0 := xor32_lt s 4294967295 hs (by decide)
  go_enter Try.func24, Try.ntmps24
  go_wp2
  clear x0
  generalize hz : s ^^^ 4294967295 = z at *
  have HZ := Lib.hid hz
  clear hz
  go_loop [5, 6] (fun x i => ∃ k : Nat, k ≤ l.length ∧ i = .int .i64 k ∧ x = .int .u32 (Crc.onL z (nats (l.take k)))) (fun _ i => l.length - (intOf i).toNat)
  case atStart => exact ⟨0, Nat.zero_le _, rfl, rfl⟩
  case round =>
    obtain ⟨k, hk, rfl, rfl⟩ := hrel
    have hlt := onL_take_lt z hx0 (l.take k)
    by_cases h : k < l.length
    · have hsn := on_snoc z l k h
      generalize Crc.onL z (nats (l.take k)) = x at *
      obtain ⟨ad, rfl, _, hcell⟩ := HR.out (by omega)
      have hcx : w.cell? (ad.add k) = some (.int .u8 (l[k].toNat : Int)) := hcell k _ (List.getElem?_eq_getElem h)
      clear hcell
      have hb := l[k].toNat_lt
      generalize l[k].toNat = b at *
      have e1 := xor32 x b hlt (by omega)
      have l1 := xor32_lt x b hlt (by omega)
      generalize x ^^^ b = y at *
      have HSN := Lib.hid hsn
      clear hsn
      go_wp2
      go_loop [5, 7] (fun x i => ∃ j : Nat, j ≤ 8 ∧ i = .int .i64 j ∧ x = .int .u32 (Crc.stN j y)) (fun _ i => 8 - (intOf i).toNat)
      case atStart => exact ⟨0, Nat.zero_le _, rfl, rfl⟩
      case round =>
        obtain ⟨j, hj, rfl, rfl⟩ := hrel
        by_cases h8 : j < 8
        · go_wp2_with (go_at_call 86; refine (rstep_any _ (Crc.stN_lt j l1) _).mono ?_; rintro e w' ⟨rfl, rfl⟩)
          go_round
          case rel => exact ⟨j + 1, by omega, by go_num, by rw [Crc.stN_succ']⟩
          case measure => simp [intOf]; omega
        · obtain rfl : j = 8 := by omega
          go_wp2
          go_round
          case rel => exact ⟨k + 1, by omega, by go_num, by rw [HSN.out]⟩
          case measure => simp [intOf]; omega
    · obtain rfl : k = l.length := by omega
      have e6 := xor32_ones _ hlt
      rw [List.take_length] at hlt e6 ⊢
      go_wp2
      go_ret
      exact ⟨ret_int (by unfold Crc.on; rw [HZ.out]), rfl⟩
set_option maxHeartbeats 400000 in
theorem rsum_any (v : Value) (l : List UInt8) (w : World) (B : Nat) (hv : Byt w B v l) :
    Calls Try.prog 26 #[v] w fun e w' => e = .returned (.int .u32 (Crc.on 0 (nats l))) ∧ w = w' := by
  go_enter Try.func26, Try.ntmps26
  go_wp2_with (go_at_call 24; refine (ron_any 0 (by decide) v l _ B hv).mono ?_; rintro e w1 ⟨rfl, rfl⟩)
  go_ret
  exact ⟨rfl, rfl⟩
set_option maxHeartbeats 1000000 in
theorem times_any (a b : Nat) (ha : a < 4294967296) (hb : b < 4294967296) (w : World) :
    Calls Try.prog 87 #[.int .u32 a, .int .u32 b] w fun e w' => e = .returned (.int .u32 (Crc.S a b 32)) ∧ w = w' := by
  go_enter Try.func87, Try.ntmps87
  go_wp2
  go_loopg [0, 1, 4] 32 (fun g x y o wr => w = wr ∧ ∃ k : Nat, k ≤ 32 ∧ g = 32 - k ∧ x = .int .u32 ((a * 2 ^ k % 4294967296 : Nat) : Int) ∧ y = .int .u32 (Crc.stN k b) ∧ o = .int .u32 (Crc.S a b k))
  case atStart => exact ⟨rfl, 0, by omega, rfl, by rw [show a * 2 ^ 0 % 4294967296 = a by omega], rfl, rfl⟩
  case round =>
    obtain ⟨rfl, k, hk, hg, rfl, rfl, rfl⟩ := hrel
    have HG := Lib.hid hg
    clear hg
    have hx : a * 2 ^ k % 4294967296 < 4294967296 := Nat.mod_lt _ (by decide)
    have hy := Crc.stN_lt k hb
    have ho := Crc.S_lt a b k hb
    have hnext : a * 2 ^ k % 4294967296 * 2 % 4294967296 = a * 2 ^ (k + 1) % 4294967296 := by
      rw [Nat.pow_succ, ← Nat.mul_assoc, Nat.mod_mul_mod]
    by_cases h0 : a * 2 ^ k % 4294967296 = 0
    · have hd := Crc.S_done a b k h0 hk
      rw [hd, h0]
      clear hnext hx hy ho h0 hd
      go_wp2_with fail
      go_ret
      exact ⟨rfl, rfl⟩
    · have hk2 : k < 32 := by
        rcases Nat.lt_or_ge k 32 with h | h
        · exact h
        · exfalso
          obtain rfl : k = 32 := by omega
          apply h0
          omega
      have ht := Crc.bit_top a k (by omega)
      have hS : Crc.S a b (k + 1) = Crc.S a b k ^^^ (if a.testBit (31 - k) then Crc.stN k b else 0) := rfl
      have HN := Lib.hid hnext
      generalize a * 2 ^ k % 4294967296 = x at *
      have e1 := xor32 _ _ ho hy
      generalize Crc.S a b k = o at *
      have HS := Lib.hid hS
      have HT := Lib.hid ht
      clear hS ht hnext
      by_cases hb : x / 2147483648 = 1
      all_goals
        go_wp2_with (go_at_call 116; refine (step_any _ hy _).mono ?_; rintro e w' ⟨rfl, rfl⟩)
        go_roundg (32 - (k + 1))
        case measure => have := HG.out; omega
        case rel =>
          refine ⟨rfl, k + 1, by omega, rfl, ?_, by rw [Crc.stN_succ'], ?_⟩
          · rw [← HN.out]; first | rfl | (congr 1; omega)
          · first | (rw [HS.out, if_pos (HT.out.1 (by assumption))]) | (rw [HS.out, if_neg (fun h => absurd (HT.out.2 h) (by assumption)), Nat.xor_zero])
theorem ofInt_i64' (a : Nat) (ha : a < 9223372036854775808) : (BitVec.ofInt 64 (a : Int)).toNat = a := by
  rw [BitVec.ofInt_natCast, BitVec.toNat_ofNat]; exact Nat.mod_eq_of_lt (by omega)
theorem and64_1 (a : Nat) (ha : a < 9223372036854775808) : bits .and .i64 (a : Int) 1 = ((a % 2 : Nat) : Int) := by
  show IntKind.i64.wrap ((BitVec.ofInt 64 (a : Int) &&& BitVec.ofInt 64 ((1 : Nat) : Int)).toNat : Int) = _
  rw [BitVec.toNat_and, ofInt_i64' a ha, ofInt_i64' 1 (by decide), Nat.and_one_is_mod, IntKind.wrap_i64]
  omega
set_option maxHeartbeats 400000 in
theorem join_no (a b n : Int) (h : n < 0 ∨ 1048576 < n) (w : World) :
    Calls Try.prog 31 #[.int .u32 a, .int .u32 b, .int .i64 n] w fun e w' => e = .returned (.int .u32 0) ∧ w = w' := by
  by_cases h1 : n < 0
  · go_enter Try.func31, Try.ntmps31
    go_wp2
    go_ret
    exact ⟨rfl, rfl⟩
  · have h2 : 1048576 < n := by omega
    go_enter Try.func31, Try.ntmps31
    go_wp2
    go_ret
    exact ⟨rfl, rfl⟩
theorem stN_pow (j : Nat) (a : Nat) (ha : a < 4294967296) : Crc.S (Crc.stN (8 * 2 ^ j) 2147483648) a 32 = Crc.stN (8 * 2 ^ j) a := Crc.S_stN _ _ ha
set_option maxHeartbeats 1000000 in
theorem join_yes (a b n : Nat) (ha : a < 4294967296) (hb : b < 4294967296) (hn : n ≤ 1048576) (w : World) :
    Calls Try.prog 31 #[.int .u32 a, .int .u32 b, .int .i64 n] w fun e w' => e = .returned (.int .u32 ((Crc.stN (8 * n) a ^^^ b : Nat) : Int)) ∧ w = w' := by
  have g1 : ¬ ((n : Int) < 0) := by omega
  have g2 : ¬ (1048576 < (n : Int)) := by omega
  go_enter Try.func31, Try.ntmps31
  go_wp2
  clear g1 g2
  go_loopg [0, 2, 7] 21 (fun g x m y wr => w = wr ∧ ∃ k : Nat, k ≤ 21 ∧ g = 21 - k ∧ x = .int .u32 (Crc.stN (8 * (n % 2 ^ k)) a) ∧ m = .int .i64 ((n / 2 ^ k : Nat) : Int) ∧ y = .int .u32 (Crc.stN (8 * 2 ^ k) 2147483648))
  case atStart => exact ⟨rfl, 0, by omega, rfl, by simp [Nat.mod_one, Crc.stN], by simp, by rw [show Crc.stN (8 * 2 ^ 0) 2147483648 = 8388608 by decide +kernel]; rfl⟩
  case round =>
    obtain ⟨rfl, k, hk, hg, rfl, rfl, rfl⟩ := hrel
    have HG := Lib.hid hg
    clear hg
    have hx := Crc.stN_lt (8 * (n % 2 ^ k)) ha
    have hy := Crc.stN_lt (8 * 2 ^ k) (show 2147483648 < 4294967296 by decide)
    by_cases h0 : n / 2 ^ k = 0
    · have hmod : n % 2 ^ k = n := Nat.mod_eq_of_lt (by
        rcases Nat.div_eq_zero_iff.1 h0 with h | h
        · exact absurd h (Nat.ne_of_gt (Nat.two_pow_pos k))
        · exact h)
      rw [h0, hmod]
      rw [hmod] at hx
      have e1 := xor32 _ _ hx hb
      clear h0 hmod
      go_wp2_with fail
      go_ret
      exact ⟨rfl, rfl⟩
    · have hk2 : k < 21 := by
        rcases Nat.lt_or_ge k 21 with h | h
        · exact h
        · exfalso
          obtain rfl : k = 21 := by omega
          apply h0
          omega
      have hm1 : n % 2 ^ (k + 1) = n % 2 ^ k + 2 ^ k * (n / 2 ^ k % 2) := Nat.mod_pow_succ
      have hd1 : n / 2 ^ (k + 1) = n / 2 ^ k / 2 := by rw [Nat.pow_succ, Nat.div_div_eq_div_mul]
      have hle : n / 2 ^ k ≤ n := Nat.div_le_self _ _
      have hT1 := Crc.S_stN (8 * 2 ^ k) _ hx
      have hT2 := Crc.S_stN (8 * 2 ^ k) _ hy
      rw [← Crc.stN_add] at hT1 hT2
      have HM := Lib.hid hm1
      have HD := Lib.hid hd1
      have HT1 := Lib.hid hT1
      have HT2 := Lib.hid hT2
      clear hm1 hd1 hT1 hT2
      generalize n / 2 ^ k = m at *
      generalize n % 2 ^ k = r at *
      have e1 := and64_1 m (by omega)
      by_cases hb : m % 2 = 1
      · have HB := Lib.hid hb
        rw [hb] at e1
        generalize Crc.stN (8 * 2 ^ k) 2147483648 = y at *
        generalize Crc.stN (8 * r) a = x at *
        go_wp2_with fail
        refine (times_any _ _ hy hx _).mono ?_
        rintro e w' ⟨rfl, rfl⟩
        rw [HT1.out]
        go_wp2_with fail
        refine (times_any _ _ hy hy _).mono ?_
        rintro e w' ⟨rfl, rfl⟩
        rw [HT2.out]
        go_wp2_with fail
        go_roundg (21 - (k + 1))
        case measure => have := HG.out; omega
        case rel => exact ⟨rfl, k + 1, by omega, rfl, by rw [HM.out, HB.out]; congr 3; omega, by rw [HD.out]; rfl, by congr 3; omega⟩
      · have hb0 : m % 2 = 0 := by omega
        have HB := Lib.hid hb0
        clear hb
        rw [hb0] at e1
        clear hb0
        generalize Crc.stN (8 * 2 ^ k) 2147483648 = y at *
        go_wp2_with fail
        refine (times_any _ _ hy hy _).mono ?_
        rintro e w' ⟨rfl, rfl⟩
        rw [HT2.out]
        go_wp2_with fail
        go_roundg (21 - (k + 1))
        case measure => have := HG.out; omega
        case rel => exact ⟨rfl, k + 1, by omega, rfl, by rw [HM.out, HB.out]; rfl, by rw [HD.out]; rfl, by congr 3; omega⟩
set_option maxHeartbeats 400000 in
theorem rjoin_no (a b n : Int) (h : n < 0 ∨ 1048576 < n) (w : World) :
    Calls Try.prog 32 #[.int .u32 a, .int .u32 b, .int .i64 n] w fun e w' => e = .returned (.int .u32 0) ∧ w = w' := by
  by_cases h1 : n < 0
  · go_enter Try.func32, Try.ntmps32
    go_wp2
    go_ret
    exact ⟨rfl, rfl⟩
  · have h2 : 1048576 < n := by omega
    go_enter Try.func32, Try.ntmps32
    go_wp2
    go_ret
    exact ⟨rfl, rfl⟩
set_option maxHeartbeats 1000000 in
theorem rjoin_yes (a b n : Nat) (ha : a < 4294967296) (hb : b < 4294967296) (hn : n ≤ 1048576) (w : World) :
    Calls Try.prog 32 #[.int .u32 a, .int .u32 b, .int .i64 n] w fun e w' => e = .returned (.int .u32 ((Crc.stN (8 * n) a ^^^ b : Nat) : Int)) ∧ w = w' := by
  have g1 : ¬ ((n : Int) < 0) := by omega
  have g2 : ¬ (1048576 < (n : Int)) := by omega
  go_enter Try.func32, Try.ntmps32
  go_wp2
  clear g1 g2
  go_loopg [7, 8] (8 * n) (fun g x m wr => w = wr ∧ ∃ k : Nat, k ≤ 8 * n ∧ g = 8 * n - k ∧ x = .int .u32 (Crc.stN k a) ∧ m = .int .i64 (k : Int))
  case atStart => exact ⟨rfl, 0, by omega, rfl, rfl, rfl⟩
  case round =>
    obtain ⟨rfl, k, hk, hg, rfl, rfl⟩ := hrel
    have HG := Lib.hid hg
    clear hg
    have hx := Crc.stN_lt k ha
    by_cases h0 : k < 8 * n
    · go_wp2_with (go_at_call 86; refine (rstep_any _ hx _).mono ?_; rintro e w' ⟨rfl, rfl⟩)
      go_roundg (8 * n - (k + 1))
      case measure => have := HG.out; omega
      case rel => exact ⟨rfl, k + 1, by omega, rfl, by rw [Crc.stN_succ'], by go_num⟩
    · obtain rfl : k = 8 * n := by omega
      have e1 := xor32 _ _ hx hb
      go_wp2_with fail
      go_ret
      exact ⟨rfl, rfl⟩
end Go.Proofs.Ytmcjefdnkcpghaa
