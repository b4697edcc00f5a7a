/- THE WALKS OF sector's New AND Clone. -/
import Derived.Test.YtmcjefdnkcpghaaSeD
namespace Go.Proofs.Ytmcjefdnkcpghaa
open Go.RowKit
def zpage : Value := .agg (Array.replicate 64 (.int .u8 0))
theorem Try.pageInfo : (Try.prog.info? 141).map (fun i => (i.zero, i.size, i.bytes)) = some (some zpage, 64, 64) := by kernel_rfl
theorem made_zero (n : Nat) : madeCells zpage.cells (n * 64) = ((List.replicate (64 * n) (0 : UInt8)).map bV).toArray := by
  apply Array.ext
  · simp [madeCells, Nat.mul_comm]
  · intro i h1 h2
    have hc : zpage.cells = Array.replicate 64 (.int .u8 0) := by kernel_rfl
    have hz : ∀ j, j < 64 → zpage.cells[j]! = .int .u8 0 := by
      intro j hj
      rw [hc]
      simp [hj]
    have hs : zpage.cells.size = 64 := by rw [hc]; simp
    simp only [madeCells, Array.getElem_map, Array.getElem_range, hs]
    rw [hz _ (Nat.mod_lt _ (by decide))]
    simp [bV]
def Dv.new (n : Nat) : Dv := ⟨n, List.replicate (64 * n) 0, none, false, 0⟩
set_option maxRecDepth 100000 in
theorem new_any (n : Nat) (h1 : 1 ≤ n) (h2 : n ≤ 4096) (w : World) : Calls Try.prog 34 #[.int .i64 (n : Int)] w fun e w' => ∃ g, e = .returned (.pointer (some ⟨g, 0, none⟩)) ∧ Dk w' (fun b => w.heap.size ≤ b ∧ b < w'.heap.size) g (Dv.new n) ∧ Below w.heap.size w w' := by
  obtain ⟨i, hi, hz, hs, hb⟩ := info_parts Try.pageInfo
  have hmk : ∀ w, (Instr.makeSlice 99 (.int .i64 (n : Int)) (.int .i64 (n : Int))).run Try.prog w = .ok (.slice (some ⟨w.heap.size, 0, none⟩) n n) (w.alloc (.cells ((List.replicate (64 * n) (0 : UInt8)).map bV).toArray 141)) := fun w => by
    have := run_make (P := Try.prog) w 99 141 i zpage Try.underlying99 hi hz .i64 .i64 (n : Int) (n : Int) (by omega) (Int.le_refl _) (by rw [hb]; omega) (by omega)
    rw [this, Int.toNat_natCast, hs, made_zero]
  obtain ⟨Z, hZ⟩ : ∃ Z, Z = (List.replicate (64 * n) (0 : UInt8)).map bV := ⟨_, rfl⟩
  rw [← hZ] at hmk
  have HZ := Lib.hid hZ
  clear hZ hi hz hs hb
  have e1 : decide ((n : Int) < 1) = false := decide_eq_false (by omega)
  have e2 : decide ((4096 : Int) < (n : Int)) = false := decide_eq_false (by omega)
  go_enter Try.func34, Try.ntmps34
  go_wp2
  go_ret
  refine ⟨_, rfl, ⟨⟨h1, h2, by simp [Dv.new], fun a t e => (by cases e), by simp [Dv.new]⟩, by simp, w.heap.size, .pointer none, n, [], ⟨Nat.le_refl _, by omega⟩, ?_, ?_, ⟨Nat.le_refl _, by simp; omega⟩, rfl⟩, ?_⟩
  · have := heap_alloc_new (w.alloc (.cells Z.toArray 141)) (.cells #[.slice (some ⟨w.heap.size, 0, none⟩) n n, .pointer none, .bool false, .int .i64 0] 102 (0, 0))
    simpa [Dv.new] using this
  · rw [Below.heap_alloc _ _ _ (by simp)]
    have := heap_alloc_new w (.cells Z.toArray 141 (0, 0))
    rw [this, HZ.out, List.append_nil]; rfl
  · exact ((Below.refl _ w).alloc (Nat.le_refl _) _).alloc (by simp) _
end Go.Proofs.Ytmcjefdnkcpghaa
