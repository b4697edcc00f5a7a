/- HOW A LAW'S ARGUMENTS ARE OPENED: numbers as natural numbers in their range, slices of bytes as lists. -/
import Derived.Test.YtnfpmobmfcgfnaaMem
import Derived.ProofKit
import Derived.OpenShut
import Derived.ShutString
import Derived.ChangeOld
import Derived.Below
namespace Go.Proofs.Ytnfpmobmfcgfnaa
open Go.ChangeShapes Go.WideShapes Go.ChangeAt Go.RowKit
theorem Try.own : ownKnob Try.prog.godebug = none := by kernel_rfl
theorem Try.laidOut : laidOutB Try.prog = true := by kernel_rfl
theorem nat_u32 {a : Int} (h : (Lit.int .u32 a).wf = true) : ∃ n : Nat, a = (n : Int) ∧ n < 4294967296 := by
  have hmin : IntKind.u32.min = 0 := rfl
  have hmax : IntKind.u32.max = 4294967295 := rfl
  simp only [Lit.wf, Bool.and_eq_true, decide_eq_true_eq] at h
  exact ⟨a.toNat, by omega, by omega⟩
theorem nat_u8 {a : Int} (h : (Lit.int .u8 a).wf = true) : ∃ n : Nat, a = (n : Int) ∧ n < 256 := by
  have hmin : IntKind.u8.min = 0 := rfl
  have hmax : IntKind.u8.max = 255 := rfl
  simp only [Lit.wf, Bool.and_eq_true, decide_eq_true_eq] at h
  exact ⟨a.toNat, by omega, by omega⟩
theorem int_i64 {a : Int} (h : (Lit.int .i64 a).wf = true) : -9223372036854775808 ≤ a ∧ a ≤ 9223372036854775807 := by
  have hmin : IntKind.i64.min = -9223372036854775808 := rfl
  have hmax : IntKind.i64.max = 9223372036854775807 := rfl
  simp only [Lit.wf, Bool.and_eq_true, decide_eq_true_eq] at h
  omega
theorem Try.cells5 : Try.prog.cellsOf 5 = 1 := by kernel_rfl
set_option maxRecDepth 100000 in
/-- a slice of bytes that came in -/
theorem open_byt {H : Type} {enc : TypeId × Value → H} {W : World} {base' : Nat} {r : Reach} {v : Value} {d : DataW H} {p : List MemPlace}
    (hv : Value.okWide Try.prog W r base' 59 v) (h : DataW.Trod enc Try.prog W 0 (fun _ => true) true 59 v d p) : ∃ l, Byt W W.heap.size v l := by
  obtain ⟨a, len, cap, rfl⟩ := okWide_slice Try.underlying59 hv
  obtain ⟨fuel, hf⟩ := h
  rcases open_ints Try.underlying59 Try.underlying5 Try.cells5 hf with ⟨hcs, _⟩ | ⟨x, l, c, zs, hcs, _, hl, hm, hz, _, hcell, hwz⟩
  · simp [Value.cells] at hcs
    obtain ⟨rfl, rfl, rfl⟩ := hcs
    exact ⟨[], Byt.nil_ _ _⟩
  · simp [Value.cells] at hcs
    obtain ⟨rfl, rfl, rfl⟩ := hcs
    have hlen : len ≤ zs.length := by
      have : zs.length = cap := by simpa using hz
      omega
    refine ⟨(zs.take len).map fun z => UInt8.ofNat z.toNat, some x, cap, ?_, ?_, hm, ?_⟩
    · rw [List.length_map, List.length_take, Nat.min_eq_left hlen]
    · rw [List.length_map, List.length_take]; omega
    · intro h0
      rw [List.length_map, List.length_take] at h0
      have key : ∀ (j : Nat) (y : UInt8), ((zs.take len).map fun z => UInt8.ofNat z.toNat)[j]? = some y → W.cell? (x.add j) = some (bV y) := by
        intro j y hj
        rw [List.getElem?_map] at hj
        cases hjz : (zs.take len)[j]? with
        | none => rw [hjz] at hj; cases hj
        | some z =>
          rw [hjz] at hj
          cases hj
          have hjl : j < (zs.take len).length := (List.getElem?_eq_some_iff.1 hjz).1
          rw [List.length_take] at hjl
          rw [List.getElem?_take, if_pos (by omega)] at hjz
          have hzm : z ∈ zs := List.mem_of_getElem? hjz
          have hw := hwz z hzm
          obtain ⟨n, rfl, hn⟩ := nat_u8 hw
          rw [hcell j (by omega)]
          simp [List.getD, hjz, bV]
          omega
      refine ⟨x, rfl, ?_, key⟩
      have := World.block_lt_of_cell? W _ (hcell 0 (by omega))
      rwa [addr_add_block] at this
end Go.Proofs.Ytnfpmobmfcgfnaa
