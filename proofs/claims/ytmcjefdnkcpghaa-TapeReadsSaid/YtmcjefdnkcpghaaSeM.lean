/- THE WALK OF octroilaw09.Fill. -/
import Derived.Test.YtmcjefdnkcpghaaSeL
namespace Go.Proofs.Ytmcjefdnkcpghaa
open Go.RowKit
def FillPost (w : World) (b : UInt8) (e : Ending) (w' : World) : Prop := ∃ v, e = .returned v ∧ Byt w' w'.heap.size v (List.replicate 64 b) ∧ Below w.heap.size w w'
set_option maxRecDepth 100000 in
theorem fill_any (b : UInt8) (w : World) : Calls Try.prog 36 #[.int .u8 (b.toNat : Int)] w (FillPost w b) := by
  go_enter Try.func36, Try.ntmps36
  go_wp2
  go_loopg [3, 4] 64 (fun gk v x wr => ∃ k : Nat, k ≤ 64 ∧ gk = 64 - k ∧ x = .int .i64 (k : Int) ∧ Own wr w.heap.size v (List.replicate k b) ∧ Below w.heap.size w wr)
  case atStart => exact ⟨0, Nat.zero_le _, rfl, rfl, Own.nil_ _ _, Below.refl _ _⟩
  case round =>
    obtain ⟨k, hk, hgk, rfl, hown, hbel⟩ := hrel
    have HG := Lib.hid hgk
    clear hgk
    by_cases h : k < 64
    · have hlr : (List.replicate k b).length + [b].length ≤ 140737488355328 := by simp; omega
      have hba : w.heap.size ≤ (wr.alloc (.cells #[.int .u8 (b.toNat : Int)] 5)).heap.size := by have := hbel.size; simp; omega
      go_wp2_with (first
        | (at_builtin; go_must (refine wpList_append_byt _ rfl (.tmp 6) (.tmp 8) rfl w.heap.size _ (List.replicate k b) rfl (hown.alloc _) _ _ [b] rfl (byt_one wr _ b rfl) hlr hba ?_)
           intro v' w1 hown1 hg1 hat1))
      go_roundg (64 - (k + 1))
      case measure => have := HG.out; omega
      case rel => exact ⟨k + 1, by omega, rfl, by go_num, by rw [List.replicate_succ']; exact hown1, (hbel.alloc hbel.size _).grown hg1 hba (fun g hg => (hown.lt g hg).1)⟩
    · obtain rfl : k = 64 := by omega
      obtain ⟨A, c, rfl, _, _, _⟩ := id hown.byt
      rw [List.length_replicate] at *
      have HB := Lib.hid hown.byt
      go_wp2
      go_ret
      exact ⟨_, rfl, HB.out, hbel⟩
end Go.Proofs.Ytmcjefdnkcpghaa
