/- THE WALKS OF blob.Writer's Text AND Bytes. -/
import Derived.Test.YtnmiodjkomgfcaaWrj
namespace Go.Proofs.Ytnmiodjkomgfcaa
open Go.RowKit
section
variable {w : World} {g : Nat} {l : List UInt8} {sp : Bool} {s : Value}
set_option maxHeartbeats 1000000 in
theorem text_long (t : ByteArray) (ht : 65536 < t.size) (hm : t.size ≤ maxLen) (h : Wr w g l sp s) :
    Calls Try.prog 26 #[ptr g, .string t] w (WPost w g l true s) := by
  have h2 := h.c2
  have hf := h.f2
  have hres := h.spoilt
  unfold maxLen at hm
  unfold ptr
  go_enter Try.func26, Try.ntmps26
  go_wp2_with (go_at_call 31; refine (none_any h).mono ?_; rintro e w' ⟨rfl, rfl⟩)
  go_ret
  exact ⟨_, rfl, hres.1, hres.2⟩
set_option maxHeartbeats 1000000 in
theorem text_any (t : ByteArray) (ht : t.size ≤ 65536) (h : Wr w g l sp s) (hl : l.length ≤ 900000000) :
    Calls Try.prog 26 #[ptr g, .string t] w (WPost w g (l ++ textL t) sp s) := by
  have hnum := num_any (t.size : Int) (by omega) (by omega) h (by omega)
  have hnl := numL_len (t.size : Int) (by omega) (by omega)
  unfold ptr
  go_enter Try.func26, Try.ntmps26
  go_wp2_with (first
    | (go_at_call 31; refine (none_any h).mono ?_; rintro e w' ⟨rfl, rfl⟩)
    | (go_at_call 25; refine hnum.mono ?_; rintro e w1 ⟨s1, rfl, hw1, hs1⟩; have hc1 := hw1.c0)
    | (at_builtin; go_must (refine wpList_wr_str hw1 (Below.refl _ _) rfl (.tmp 24) (.tmp 25) rfl rfl t rfl (by rw [List.length_append]; omega) ?_)
       intro A n c w2 hc2 hf2 hres))
  go_ret
  exact ⟨_, rfl, by unfold textL; rw [← List.append_assoc]; exact hres.1, hs1.trans hres.2⟩
set_option maxHeartbeats 1000000 in
theorem bytes_spoilt (h : Wr w g l true s) : Calls Try.prog 13 #[ptr g] w fun e w' => e = .returned (.tuple #[.slice none 0 0, .int .i64 2]) ∧ w = w' := by
  have h2 := h.c2
  unfold ptr
  go_enter Try.func13, Try.ntmps13
  go_wp2_with (go_at_call 31; refine (none_any h).mono ?_; rintro e w' ⟨rfl, rfl⟩)
  go_ret2
  exact ⟨rfl, rfl⟩
set_option maxHeartbeats 1000000 in
theorem bytes_any (h : Wr w g l false s) (hl : l.length ≤ 2000000000) : Calls Try.prog 13 #[ptr g] w fun e w' =>
    ∃ r, e = .returned (.tuple #[r, .int .i64 0]) ∧ Own w' w.heap.size r l ∧ Below w.heap.size w w' := by
  have h0 := h.c0
  have h2 := h.c2
  have hlt := h.lt
  have hne := World.new_ne w _ h0
  have hby := h.own.byt
  unfold ptr
  go_enter Try.func13, Try.ntmps13
  go_wp2_with (first
    | (go_at_call 31; refine (none_any h).mono ?_; rintro e w' ⟨rfl, rfl⟩)
    | (at_builtin; go_must (refine wpList_append_byt _ rfl (.tmp 12) (.tmp 16) rfl w.heap.size _ [] rfl (own_lit w [] (by simp)) w.heap.size _ l rfl (hby.alloc (Nat.le_refl _) _) (by simp; omega) (by simp) ?_)
       intro v' w1 hown hg hat))
  go_ret2
  refine ⟨_, rfl, hown, ((Below.refl _ _).alloc (Nat.le_refl _) _).grown hg (by simp) (fun k hk => ?_)⟩
  cases hk
  exact Nat.le_refl _
end
end Go.Proofs.Ytnmiodjkomgfcaa
