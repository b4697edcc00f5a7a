/- HOW A SLICE OF ints IS OPENED. -/
import Derived.Test.YtnmiodjkomgfcaaRow5
import Derived.Test.YtnmiodjkomgfcaaBOn
namespace Go.Proofs.Ytnmiodjkomgfcaa
open Go.ChangeShapes Go.WideShapes Go.ChangeAt Go.RowKit
set_option maxRecDepth 100000 in
theorem open_il {H : Type} {enc : TypeId × Value → H} {W : World} {base' : Nat} {r : Reach} {v : Value} {d : DataW H} {p : List MemPlace}
    (hv : Value.okWide Try.prog W r base' 45 v) (h : DataW.Trod enc Try.prog W 0 (fun _ => true) true 45 v d p) : ∃ l, Ints W W.heap.size v l := by
  obtain ⟨a, len, cap, rfl⟩ := okWide_slice Try.underlying45 hv
  obtain ⟨fuel, hf⟩ := h
  rcases open_ints Try.underlying45 Try.underlying3 Try.cellsInt hf with ⟨hcs, _⟩ | ⟨x, l, c, zs, hcs, _, hl, hm, hz, _, hcell, hwz⟩
  · simp [Value.cells] at hcs
    obtain ⟨rfl, rfl, rfl⟩ := hcs
    exact ⟨[], none, 0, rfl, Nat.le_refl _, by simp [maxLen], fun h0 => absurd h0 (by simp)⟩
  · simp [Value.cells] at hcs
    obtain ⟨rfl, rfl, rfl⟩ := hcs
    have hlen : len ≤ zs.length := by
      have : zs.length = cap := by simpa using hz
      omega
    refine ⟨zs.take len, some x, cap, ?_, ?_, hm, ?_⟩
    · rw [List.length_take, Nat.min_eq_left hlen]
    · rw [List.length_take]; omega
    · intro h0
      rw [List.length_take] at h0
      refine ⟨x, rfl, ?_, fun j y hj => ?_⟩
      · have := World.block_lt_of_cell? W _ (hcell 0 (by omega))
        rwa [addr_add_block] at this
      · have hjl : j < (zs.take len).length := (List.getElem?_eq_some_iff.1 hj).1
        rw [List.length_take] at hjl
        rw [List.getElem?_take, if_pos (by omega)] at hj
        refine ⟨int_i64 (hwz y (List.mem_of_getElem? hj)), ?_⟩
        rw [hcell j (by omega)]
        simp [List.getD, hj]
end Go.Proofs.Ytnmiodjkomgfcaa
