/- THE WALK'S SPELLINGS OF u32 AND u8 OPERATIONS, BROUGHT TO PLAIN NUMBERS. No program here. -/
import Derived.WalkKit
import Derived.Test.YtmcjefdnkcpghaaCrc
namespace Go.Proofs.Ytmcjefdnkcpghaa
open Go.RowKit
theorem ofInt_u32 (a : Nat) (ha : a < 4294967296) : (BitVec.ofInt 32 (a : Int)).toNat = a := by
  rw [BitVec.ofInt_natCast, BitVec.toNat_ofNat]; exact Nat.mod_eq_of_lt (by omega)
theorem and32 (a b : Nat) (ha : a < 4294967296) (hb : b < 4294967296) : bits .and .u32 (a : Int) (b : Int) = ((a &&& b : Nat) : Int) := by
  have hx : a &&& b < 2 ^ 32 := Nat.and_lt_two_pow _ (by omega)
  show IntKind.u32.wrap ((BitVec.ofInt 32 (a : Int) &&& BitVec.ofInt 32 (b : Int)).toNat : Int) = _
  rw [BitVec.toNat_and, ofInt_u32 a ha, ofInt_u32 b hb, IntKind.wrap_u32]
  omega
theorem or32 (a b : Nat) (ha : a < 4294967296) (hb : b < 4294967296) : bits .or .u32 (a : Int) (b : Int) = ((a ||| b : Nat) : Int) := by
  have hx : a ||| b < 2 ^ 32 := Nat.or_lt_two_pow (by omega) (by omega)
  show IntKind.u32.wrap ((BitVec.ofInt 32 (a : Int) ||| BitVec.ofInt 32 (b : Int)).toNat : Int) = _
  rw [BitVec.toNat_or, ofInt_u32 a ha, ofInt_u32 b hb, IntKind.wrap_u32]
  omega
theorem xor32 (a b : Nat) (ha : a < 4294967296) (hb : b < 4294967296) : bits .xor .u32 (a : Int) (b : Int) = ((a ^^^ b : Nat) : Int) := by
  have hx : a ^^^ b < 2 ^ 32 := Nat.xor_lt_two_pow (by omega) (by omega)
  show IntKind.u32.wrap ((BitVec.ofInt 32 (a : Int) ^^^ BitVec.ofInt 32 (b : Int)).toNat : Int) = _
  rw [BitVec.toNat_xor, ofInt_u32 a ha, ofInt_u32 b hb, IntKind.wrap_u32]
  omega
theorem xor32_lt (a b : Nat) (ha : a < 4294967296) (hb : b < 4294967296) : a ^^^ b < 4294967296 := Nat.xor_lt_two_pow (n := 32) ha hb
theorem and32_1 (x : Nat) (hx : x < 4294967296) : bits .and .u32 (x : Int) 1 = ((x % 2 : Nat) : Int) := by
  have := and32 x 1 hx (by decide)
  rw [Nat.and_one_is_mod] at this
  exact this
theorem and32_15 (x : Nat) (hx : x < 4294967296) : bits .and .u32 (x : Int) 15 = ((x % 16 : Nat) : Int) := by
  have := and32 x 15 hx (by decide)
  rw [show x &&& 15 = x % 16 from Nat.and_two_pow_sub_one_eq_mod x 4] at this
  exact this
theorem xor32_ones (x : Nat) (hx : x < 4294967296) : bits .xor .u32 (x : Int) 4294967295 = ((x ^^^ 4294967295 : Nat) : Int) := xor32 x 4294967295 hx (by decide)
theorem val_st (x : Nat) (hx : x < 4294967296) : bits .xor .u32 ((x : Int) / 2) (bits .and .u32 (-bits .and .u32 (x : Int) 1 % 4294967296) 3988292384) = ((Crc.st x : Nat) : Int) := by
  rw [and32_1 x hx, show (x : Int) / 2 = ((x / 2 : Nat) : Int) by omega]
  have hp : (3988292384 : Int) = ((3988292384 : Nat) : Int) := rfl
  rcases Nat.mod_two_eq_zero_or_one x with h | h
  · rw [h, show (-((0 : Nat) : Int) % 4294967296) = ((0 : Nat) : Int) by rfl, hp, and32 0 _ (by decide) (by decide), xor32 _ _ (by omega) (by decide)]
    simp [Crc.st, h]
  · rw [h, show (-((1 : Nat) : Int) % 4294967296) = ((4294967295 : Nat) : Int) by rfl, hp, and32 _ _ (by decide) (by decide), show (4294967295 &&& 3988292384 : Nat) = 3988292384 by decide, xor32 _ _ (by omega) (by decide)]
    simp [Crc.st, h]
end Go.Proofs.Ytmcjefdnkcpghaa
