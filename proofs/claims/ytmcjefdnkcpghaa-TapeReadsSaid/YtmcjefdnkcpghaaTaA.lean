/- THE TAPE, PLAINLY: numbers as bytes, sectors, heads and ends. -/
import Derived.Test.YtmcjefdnkcpghaaCd
import Derived.Test.YtmcjefdnkcpghaaFoot
import Derived.Test.YtmcjefdnkcpghaaSl
namespace Go.Proofs.Ytmcjefdnkcpghaa
open Go.RowKit
/-- a number in so many bytes, the highest first -/
def beB (n : Nat) : Nat → List UInt8
  | 0 => []
  | m + 1 => UInt8.ofNat (n / 256 ^ m) :: beB n m
theorem beB_len (n m : Nat) : (beB n m).length = m := by
  induction m with
  | zero => rfl
  | succ m ih => simp [beB, ih]
/-- filled with 0, up to a sector -/
def fillL (l : List UInt8) : List UInt8 := l ++ List.replicate (64 - l.length) 0
theorem fillL_len (l : List UInt8) (h : l.length ≤ 64) : (fillL l).length = 64 := by
  unfold fillL; rw [List.length_append, List.length_replicate]; omega
def firstL (seq len sum : Nat) : List UInt8 := fillL (wrapL (72 :: beB seq 8 ++ beB len 4 ++ beB sum 4))
def lastL (seq sum : Nat) : List UInt8 := fillL (wrapL (69 :: beB seq 8 ++ beB sum 4))
theorem wrapL_len (l : List UInt8) : (wrapL l).length = l.length + 4 := by simp [wrapL, be4]
theorem firstL_len (a b c : Nat) : (firstL a b c).length = 64 := fillL_len _ (by rw [wrapL_len]; simp [beB_len])
theorem lastL_len (a b : Nat) : (lastL a b).length = 64 := fillL_len _ (by rw [wrapL_len]; simp [beB_len])
/-- bytes, a sector's at a time -/
def cutsL (l : List UInt8) : List (List UInt8) := if _h : l = [] then [] else fillL (l.take 64) :: cutsL (l.drop 64)
termination_by l.length
decreasing_by
  rw [List.length_drop]
  have : 0 < l.length := List.length_pos_iff.2 (by assumption)
  omega
def sumL (l : List UInt8) : Nat := Crc.on 0 (nats l)
def pagesL (seq : Nat) (l : List UInt8) : List (List UInt8) := firstL seq l.length (sumL l) :: cutsL l ++ [lastL seq (sumL l)]
end Go.Proofs.Ytmcjefdnkcpghaa
