/- strings.IndexByte, by the shelf's contract. -/
import Derived.Shelf.Small.Strs
import Derived.Shelf.Strings.Search1
import Derived.Test.YtnfpmobmfcgfnaaMem
namespace Go.Proofs.Ytnfpmobmfcgfnaa
open Go.Shelf Go.RowKit
def Try.lays137_ren : Go.Shelf.Ren := ⟨fun | 137 => 111 | 217 => 122 | 266 => 125 | n => n, fun | 9 => 9 | 5 => 5 | 3 => 3 | n => n, fun | n => n⟩
theorem Try.lays137 : Go.Proofs.Lays.n137 Try.prog Try.lays137_ren := {
  mixed := by kernel_rfl
  f137 := Try.func111.trans (congrArg some (by kernel_rfl))
  f217 := Try.func122.trans (congrArg some (by kernel_rfl))
  f266 := Try.func125.trans (congrArg some (by kernel_rfl))
  t3 := Try.underlying3
  a3 := Try.isAgg3
  z3 := Try.sizeOf3
  v3 := Try.zeroValue3
  t5 := Try.underlying5
  a5 := Try.isAgg5
  z5 := Try.sizeOf5
  v5 := Try.zeroValue5
  t9 := Try.underlying9
  a9 := Try.isAgg9
  z9 := Try.sizeOf9
  v9 := Try.zeroValue9 }
/-- is the byte '+' or '*'? -/
theorem plusStar_any (b : UInt8) (w : World) : Calls Try.prog 111 #[.string ⟨#[43, 42]⟩, .int .u8 (b.toNat : Int)] w fun e w' =>
    e = .returned (.int .i64 (if b = 43 then 0 else if b = 42 then 1 else -1)) ∧ w = w' := by
  refine (Any.strings_IndexByte Try.lays137 ⟨#[43, 42]⟩ (b.toNat : Int) w).mono fun e w' he => ?_
  obtain ⟨rfl, rfl⟩ := he
  refine ⟨ret_int ?_, rfl⟩
  have e1 : (b.toNat : Int).toNat.toUInt8 = b := by simp
  rw [e1]
  show Lib.indexByte [43, 42] b = _
  by_cases h1 : b = 43
  · subst h1; rfl
  · by_cases h2 : b = 42
    · subst h2; rfl
    · rw [if_neg h1, if_neg h2]
      have h1' : (43 : UInt8) ≠ b := fun e => h1 e.symm
      have h2' : (42 : UInt8) ≠ b := fun e => h2 e.symm
      simp [Lib.indexByte, h1', h2']
end Go.Proofs.Ytnfpmobmfcgfnaa
