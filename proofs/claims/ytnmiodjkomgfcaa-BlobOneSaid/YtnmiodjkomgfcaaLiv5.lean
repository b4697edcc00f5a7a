/- THE WALK OF octroilaw05's lives. -/
import Derived.Test.YtnmiodjkomgfcaaPud
namespace Go.Proofs.Ytnmiodjkomgfcaa
open Go.RowKit
theorem lives_bytes : numL 300 ++ numL (-1) ++ numL 0 ++ textL ⟨#[97, 98]⟩ = [2, 1, 44, 129, 1, 0, 1, 2, 97, 98] := by
  have d0 := digs_zero
  have d1 : digs 1 = [1] := by rw [digs_pos (by decide), show 1 / 256 = 0 by decide, d0]; rfl
  have d2 : digs 2 = [2] := by rw [digs_pos (by decide), show 2 / 256 = 0 by decide, d0]; rfl
  have d3 : digs 300 = [1, 44] := by rw [digs_pos (by decide), show 300 / 256 = 1 by decide, d1]; rfl
  have n1 : numL 300 = [2, 1, 44] := by show UInt8.ofNat (0 + (digs 300).length) :: digs 300 = _; rw [d3]; rfl
  have n2 : numL (-1) = [129, 1] := by show UInt8.ofNat (128 + (digs 1).length) :: digs 1 = _; rw [d1]; rfl
  have n3 : numL 0 = [0] := by show UInt8.ofNat (0 + (digs 0).length) :: digs 0 = _; rw [d0]; rfl
  have n4 : textL ⟨#[97, 98]⟩ = [1, 2, 97, 98] := by
    show (UInt8.ofNat (0 + (digs 2).length) :: digs 2) ++ [97, 98] = _
    rw [d2]; rfl
  rw [n1, n2, n3, n4]; rfl
theorem lives_calls : ∃ L1 L2 L3 L4 : List UInt8, L1 ++ L2 ++ L3 ++ L4 = [2, 1, 44, 129, 1, 0, 1, 2, 97, 98] ∧
    (∀ (w : World) (g : Nat) (l : List UInt8) (s : Value), Wr w g l false s → l.length ≤ 10 → Calls Try.prog 25 #[.pointer (some ⟨g, 0, none⟩), .int .i64 300] w (WPost w g (l ++ L1) false s)) ∧
    (∀ (w : World) (g : Nat) (l : List UInt8) (s : Value), Wr w g l false s → l.length ≤ 10 → Calls Try.prog 25 #[.pointer (some ⟨g, 0, none⟩), .int .i64 (-1)] w (WPost w g (l ++ L2) false s)) ∧
    (∀ (w : World) (g : Nat) (l : List UInt8) (s : Value), Wr w g l false s → l.length ≤ 10 → Calls Try.prog 25 #[.pointer (some ⟨g, 0, none⟩), .int .i64 0] w (WPost w g (l ++ L3) false s)) ∧
    (∀ (w : World) (g : Nat) (l : List UInt8) (s : Value), Wr w g l false s → l.length ≤ 10 → Calls Try.prog 26 #[.pointer (some ⟨g, 0, none⟩), .string ⟨#[97, 98]⟩] w (WPost w g (l ++ L4) false s)) :=
  ⟨_, _, _, _, lives_bytes, fun _ _ _ _ h hl => num_any 300 (by omega) (by omega) h (by omega), fun _ _ _ _ h hl => num_any (-1) (by omega) (by omega) h (by omega),
    fun _ _ _ _ h hl => num_any 0 (by omega) (by omega) h (by omega), fun _ _ _ _ h hl => text_any ⟨#[97, 98]⟩ (by decide) h (by omega)⟩
set_option maxRecDepth 100000 in
set_option maxHeartbeats 2000000 in
theorem lives_any (w : World) : Calls Try.prog 9 #[] w fun e w' => e = .returned (.bool true) ∧ Below w.heap.size w w' := by
  obtain ⟨L1, L2, L3, L4, hL, c1, c2, c3, c4⟩ := lives_calls
  replace c1 := Lib.hid c1
  replace c2 := Lib.hid c2
  replace c3 := Lib.hid c3
  replace c4 := Lib.hid c4
  have hl : L1.length + L2.length + L3.length + L4.length = 10 := by have := congrArg List.length hL; simp at this; omega
  have HL := Lib.hid hL
  clear hL
  go_enter Try.func9, Try.ntmps9
  go_wp2_with (first
    | (go_at_call 10; refine (new_any _).mono ?_; rintro e w1 ⟨rfl, hw1, hb1⟩)
    | (go_at_call 25; first
        | (refine (c3.out _ _ _ _ hw3 (by simp; omega)).mono ?_; rintro e w4 ⟨s4, rfl, hw4, hs4⟩)
        | (refine (c2.out _ _ _ _ hw2 (by simp; omega)).mono ?_; rintro e w3 ⟨s3, rfl, hw3, hs3⟩)
        | (refine (c1.out _ _ _ _ hw1 (by simp)).mono ?_; rintro e w2 ⟨s2, rfl, hw2, hs2⟩))
    | (go_at_call 26; refine (c4.out _ _ _ _ hw4 (by simp; omega)).mono ?_; rintro e w5 ⟨s5, rfl, hw5, hs5⟩; rw [List.nil_append, HL.out] at hw5)
    | (go_at_call 13; refine (bytes_any hw5 (by simp)).mono ?_; rintro e w6 ⟨r6, rfl, hown6, hb6⟩; have hstr := hown6.byt.str))
  go_ret
  have hst := ((hs2.trans hs3).trans hs4).trans hs5
  have hsz := hst.kept.size
  have hsz1 := hb1.size
  refine ⟨rfl, (hb1.trans (hst.kept.toBelow (B := w.heap.size) hsz1 fun b hb => ⟨by omega, by simp [Value.ownBlock]⟩)).trans (hb6.mono (by omega))⟩
end Go.Proofs.Ytnmiodjkomgfcaa
