/- THE WALK OF CrcSums. -/
import Derived.Test.YtmcjefdnkcpghaaCe
namespace Go.Proofs.Ytmcjefdnkcpghaa
open Go.RowKit
def LawPost (w : World) (e : Ending) (w' : World) : Prop := e = .returned (.bool true) ∧ Below w.heap.size w w'
set_option maxRecDepth 100000 in
set_option maxHeartbeats 1000000 in
theorem crcSums_walk (s : Nat) (hs : s < 4294967296) (v : Value) (l : List UInt8) {B : Nat} {w : World} (hv : Byt w B v l) :
    Calls Try.prog 3 #[.int .u32 s, v] w (LawPost w) := by
  have hv1 := hv.heap
  clear hv
  obtain ⟨A, c, rfl, hc, hm, hr⟩ := id hv1
  unfold maxLen at hm
  clear hr
  by_cases hl : l.length ≤ 20000
  · go_enter Try.func3, Try.ntmps3
    go_wp2_with (first
      | (go_at_call 23; refine (on_any s hs _ l _ _ hv1).mono ?_; rintro e w1 ⟨rfl, hb1⟩; have hv2 := hv1.below hb1)
      | (go_at_call 24; refine (ron_any s hs _ l _ _ hv2).mono ?_; rintro e w1 ⟨rfl, rfl⟩)
      | (go_at_call 25; refine (sum_any _ l _ _ hv2).mono ?_; rintro e w2 ⟨rfl, hb2⟩; have hv3 := hv2.below (hb2.mono hb1.size))
      | (go_at_call 26; refine (rsum_any _ l _ _ hv3).mono ?_; rintro e w1 ⟨rfl, rfl⟩)
      | (go_at_call 22; refine (lives06 _).mono ?_; rintro e w3 ⟨rfl, hb3⟩))
    go_ret
    exact ⟨rfl, (hb1.trans (hb2.mono hb1.size)).trans (hb3.mono (Nat.le_trans hb1.size hb2.size))⟩
  · go_enter Try.func3, Try.ntmps3
    go_wp2_with (first
      | (go_at_call 22; refine (lives06 _).mono ?_; rintro e w3 ⟨rfl, hb3⟩))
    go_ret
    exact ⟨rfl, hb3⟩
end Go.Proofs.Ytmcjefdnkcpghaa
