/- THE WALKS OF crc.step, crc.four, crc.On: what they compute. -/
import Derived.Deep.LoopGhost
import Derived.Deep.WholeRow
import Derived.Deep.MidRow
import Derived.Test.YtmcjefdnkcpghaaV
import Derived.Test.YtmcjefdnkcpghaaMem
namespace Go.Proofs.Ytmcjefdnkcpghaa
open Go.RowKit
set_option maxHeartbeats 400000 in
theorem step_any (x : Nat) (hx : x < 4294967296) (w : World) :
    Calls Try.prog 116 #[.int .u32 x] w fun e w' => e = .returned (.int .u32 (Crc.st x)) ∧ w = w' := by
  go_enter Try.func116, Try.ntmps116
  go_wp2
  go_ret
  exact ⟨ret_int (val_st x hx), rfl⟩

set_option maxHeartbeats 400000 in
theorem nibble_any (x : Nat) (hx : x < 4294967296) (w : World) :
    Calls Try.prog 115 #[.int .u32 x] w fun e w' => e = .returned (.int .u32 (Crc.stN 4 x)) ∧ w = w' := by
  go_enter Try.func115, Try.ntmps115
  go_wp2_with fail
  go_loop [0, 3] (fun v i => ∃ k : Nat, k ≤ 4 ∧ i = .int .i64 k ∧ v = .int .u32 (Crc.stN k x)) (fun _ i => 4 - (intOf i).toNat)
  case atStart => exact ⟨0, by omega, rfl, rfl⟩
  case round =>
    obtain ⟨k, hk, rfl, rfl⟩ := hrel
    by_cases h : k < 4
    · go_wp2_with (go_at_call 116; refine (step_any _ (Crc.stN_lt k hx) _).mono ?_; rintro e w' ⟨rfl, rfl⟩)
      go_round
      case rel => exact ⟨k + 1, by omega, by go_num, by rw [Crc.stN_succ']⟩
      case measure => simp [intOf]; omega
    · obtain rfl : k = 4 := by omega
      go_wp2
      go_ret
      exact ⟨rfl, rfl⟩
def tabArr (k : Nat) : Array Value := ((List.range 16).map fun i => if i < k then Value.int .u32 (Crc.stN 4 i) else .int .u32 0).toArray
theorem tabArr_get (k j : Nat) (h : j < 16) : (tabArr k)[j]? = some (if j < k then Value.int .u32 (Crc.stN 4 j) else .int .u32 0) := by
  simp [tabArr, h]
theorem tabArr_size (k : Nat) : (tabArr k).size = 16 := by simp [tabArr]
theorem tabArr_one (k : Nat) : (tabArr k).all (·.oneCell') = true := by
  simp only [tabArr, List.all_toArray, List.all_map, List.all_eq_true]
  intro i _
  simp only [Function.comp]
  split <;> rfl
theorem tabArr_set (k : Nat) (hk : k < 16) : (tabArr k).setIfInBounds k (.int .u32 (Crc.stN 4 k)) = tabArr (k + 1) := by
  apply Array.ext_getElem?
  intro j
  rw [Array.getElem?_setIfInBounds, tabArr_size]
  by_cases hj : j < 16
  · rw [tabArr_get _ _ hj, tabArr_get _ _ hj]
    by_cases e : k = j
    · subst e; simp [hj]
    · rw [if_neg e]
      by_cases h2 : j < k
      · simp [h2, show j < k + 1 by omega]
      · simp [h2, show ¬ j < k + 1 by omega]
  · rw [if_neg (show ¬ k = j by omega)]
    have hj' : 16 ≤ j := by omega
    simp [tabArr, hj']
set_option maxHeartbeats 1000000 in
theorem four_any (w : World) :
    Calls Try.prog 85 #[] w fun e w' => e = .returned (.agg (tabArr 16)) ∧ w' = w.alloc (.cells (tabArr 16) 133) := by
  have hi : (Try.prog.info? 133).map (·.size) = some (tabArr 16).size := by rw [tabArr_size]; kernel_rfl
  have HI := Lib.hid hi
  clear hi
  go_enter Try.func85, Try.ntmps85
  go_wp2_with fail
  go_loopw [3] (fun i wr => ∃ k : Nat, k ≤ 16 ∧ i = .int .i64 k ∧ wr = w.alloc (.cells (tabArr k) 133)) (fun i _ => 16 - (intOf i).toNat)
  case atStart => exact ⟨0, by omega, rfl, rfl⟩
  case round =>
    obtain ⟨k, hk, rfl, rfl⟩ := hrel
    by_cases h : k < 16
    · have hg := tabArr_get k k h
      rw [if_neg (by omega)] at hg
      have hz := tabArr_size k
      clear HI
      go_wp2_with (go_at_call 115; refine (nibble_any k (by omega) _).mono ?_; rintro e w' ⟨rfl, rfl⟩)
      go_roundw
      case rel => exact ⟨k + 1, by omega, by go_num, by rw [tabArr_set k h]⟩
      case measure => simp [intOf]; omega
    · obtain rfl : k = 16 := by omega
      have h1 := tabArr_one 16
      clear h hk
      generalize hT : tabArr 16 = T at *
      have HT := Lib.hid hT
      clear hT
      go_wp2_with (first | (with_reducible refine wpList_load_row rfl 133 _ rfl w.heap.size rfl 133 T (0, 0) _ (heap_alloc_new _ _) Try.underlying133 rfl HI.out ?_) | (with_reducible refine wpList_store_row rfl 133 _ _ rfl w.heap.size T rfl rfl 133 T (heap_alloc_new _ _) HI.out rfl h1 ?_; rw [World.setRow_alloc_new]))
      refine bodyPost_ret (v := .agg T) (results_cell_row rfl _ _ w.heap.size 133 T (0, 0) _ rfl (heap_alloc_new _ _) Try.underlying133 rfl HI.out) rfl ⟨by rw [HT.out], by rw [HT.out]⟩
end Go.Proofs.Ytmcjefdnkcpghaa
