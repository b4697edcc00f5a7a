/- THE WALKS OF record's within, day, currency AND octroiref08's in, Currency. -/
import Derived.Test.YtnfpmobmfcgfnaaLnA
import Derived.Test.YtnfpmobmfcgfnaaVaI
namespace Go.Proofs.Ytnfpmobmfcgfnaa
open Go.RowKit
def inB (n lo hi : Int) : Bool := decide (lo ≤ n) && decide (n ≤ hi)
theorem inB_iff (n lo hi : Int) : inB n lo hi = true ↔ lo ≤ n ∧ n ≤ hi := by simp [inB]
set_option maxRecDepth 100000 in
theorem within_any (n lo hi : Int) (w : World) : Calls Try.prog 50 #[.int .i64 n, .int .i64 lo, .int .i64 hi] w fun e w' => e = .returned (.bool (inB n lo hi)) ∧ w = w' := by
  unfold inB
  by_cases h : lo ≤ n
  · rw [decide_eq_true h, Bool.true_and]
    go_enter Try.func50, Try.ntmps50
    go_wp2
    go_ret
    exact ⟨rfl, rfl⟩
  · rw [decide_eq_false h, Bool.false_and]
    go_enter Try.func50, Try.ntmps50
    go_wp2
    go_ret
    exact ⟨rfl, rfl⟩
set_option maxRecDepth 100000 in
theorem rin_any (n lo hi : Int) (w : World) : Calls Try.prog 40 #[.int .i64 n, .int .i64 lo, .int .i64 hi] w fun e w' => e = .returned (.bool (inB n lo hi)) ∧ w = w' := by
  unfold inB
  by_cases h : lo ≤ n
  · rw [decide_eq_true h, Bool.true_and]
    go_enter Try.func40, Try.ntmps40
    go_wp2
    go_ret
    exact ⟨rfl, rfl⟩
  · rw [decide_eq_false h, Bool.false_and]
    go_enter Try.func40, Try.ntmps40
    go_wp2
    go_ret
    exact ⟨rfl, rfl⟩
set_option maxRecDepth 100000 in
theorem day_any (n : Int) (w : World) : Calls Try.prog 51 #[.int .i64 n] w fun e w' => e = .returned (.bool (inB n 0 2932896)) ∧ w = w' := by
  have h := within_any n 0 2932896 w
  go_enter Try.func51, Try.ntmps51
  go_wp2_with (go_at_call 50; (with_reducible refine h.mono ?_); rintro e w' ⟨rfl, rfl⟩)
  go_ret
  exact ⟨rfl, rfl⟩
/-- a currency: three letters -/
def curL (c : List UInt8) : Bool := decide (c.length = 3) && letB (c.getD 0 0) && letB (c.getD 1 0) && letB (c.getD 2 0)
set_option maxRecDepth 100000 in
theorem rcur_any (c : ByteArray) (w : World) : Calls Try.prog 43 #[.string c] w fun e w' => e = .returned (.bool (curL c.data.toList)) ∧ w = w' := by
  have e : c.data.toList.length = c.size := Array.length_toList
  by_cases h : c.size = 3
  · have i0 : 0 < c.size := by omega
    have i1 : 1 < c.size := by omega
    have i2 : 2 < c.size := by omega
    have a0 := byte_at c 0 i0
    have a1 := byte_at c 1 i1
    have a2 := byte_at c 2 i2
    have hc : curL c.data.toList = (letB (c[0]'i0) && letB (c[1]'i1) && letB (c[2]'i2)) := by simp only [curL, e, h, a0, a1, a2, decide_true, Bool.true_and]
    have hz : ((c.size : Int) == 3) = true := by rw [beq_iff_eq]; omega
    rw [hc]
    clear e a0 a1 a2 hc h
    have g0 := rletter_any (c[0]'i0) w
    have g1 := rletter_any (c[1]'i1) w
    have g2 := rletter_any (c[2]'i2) w
    generalize letB (c[0]'i0) = v0 at *
    generalize letB (c[1]'i1) = v1 at *
    generalize letB (c[2]'i2) = v2 at *
    cases v0
    · go_enter Try.func43, Try.ntmps43
      go_wp2_with (go_at_call 79; (with_reducible refine g0.mono ?_); rintro e w' ⟨rfl, rfl⟩)
      go_ret
      exact ⟨rfl, rfl⟩
    · cases v1
      · go_enter Try.func43, Try.ntmps43
        go_wp2_with (go_at_call 79; first | ((with_reducible refine g0.mono ?_); rintro e w' ⟨rfl, rfl⟩) | ((with_reducible refine g1.mono ?_); rintro e w' ⟨rfl, rfl⟩))
        go_ret
        exact ⟨rfl, rfl⟩
      · go_enter Try.func43, Try.ntmps43
        go_wp2_with (go_at_call 79; first | ((with_reducible refine g0.mono ?_); rintro e w' ⟨rfl, rfl⟩) | ((with_reducible refine g1.mono ?_); rintro e w' ⟨rfl, rfl⟩) | ((with_reducible refine g2.mono ?_); rintro e w' ⟨rfl, rfl⟩))
        go_ret
        exact ⟨rfl, rfl⟩
  · have hc : curL c.data.toList = false := by simp [curL, h]
    have hz : ((c.size : Int) == 3) = false := by rw [beq_eq_false_iff_ne]; omega
    rw [hc]
    clear e hc h
    go_enter Try.func43, Try.ntmps43
    go_wp2
    go_ret
    exact ⟨rfl, rfl⟩
theorem curL_split (c : ByteArray) (h : c.size = 3) : curL c.data.toList = (countryL (c.extract 0 2).data.toList && countryL (c.extract 1 c.size).data.toList) := by
  have e : c.data.toList.length = 3 := by rw [← h]; exact Array.length_toList
  have e1 : (c.extract 0 2).data.toList = c.data.toList.take 2 := by simp [ByteArray.data_extract, List.extract]
  have e2 : (c.extract 1 c.size).data.toList = c.data.toList.drop 1 := by
    simp only [ByteArray.data_extract, Array.toList_extract, List.extract]
    rw [List.take_of_length_le (by rw [List.length_drop, e, h]; omega)]
  rw [e1, e2]
  rcases hl : c.data.toList with _ | ⟨x, _ | ⟨y, _ | ⟨z, _ | ⟨u, r⟩⟩⟩⟩ <;> rw [hl] at e <;> simp at e
  simp [curL, countryL]
  cases letB x <;> cases letB y <;> cases letB z <;> rfl
set_option maxRecDepth 100000 in
theorem cur_any (c : ByteArray) (w : World) : Calls Try.prog 54 #[.string c] w fun e w' => e = .returned (.bool (curL c.data.toList)) ∧ w = w' := by
  have e : c.data.toList.length = c.size := Array.length_toList
  by_cases h : c.size = 3
  · have hz : ((c.size : Int) == 3) = true := by rw [beq_iff_eq]; omega
    have j1 : (2 : Int) ≤ (c.size : Int) := by omega
    have j2 : (1 : Int) ≤ (c.size : Int) := by omega
    rw [curL_split c h]
    clear h e
    have g0 := country_any (c.extract 0 2) w
    have g1 := country_any (c.extract 1 c.size) w
    generalize countryL (c.extract 0 2).data.toList = v0 at *
    generalize countryL (c.extract 1 c.size).data.toList = v1 at *
    cases v0
    · go_enter Try.func54, Try.ntmps54
      go_wp2_with (go_at_call 60; (with_reducible refine g0.mono ?_); rintro e w' ⟨rfl, rfl⟩)
      go_ret
      exact ⟨rfl, rfl⟩
    · go_enter Try.func54, Try.ntmps54
      go_wp2_with (go_at_call 60; first | ((with_reducible refine g0.mono ?_); rintro e w' ⟨rfl, rfl⟩) | ((with_reducible refine g1.mono ?_); rintro e w' ⟨rfl, rfl⟩))
      go_ret
      exact ⟨rfl, rfl⟩
  · have hc : curL c.data.toList = false := by simp [curL, h]
    have hz : ((c.size : Int) == 3) = false := by rw [beq_eq_false_iff_ne]; omega
    rw [hc]
    clear e hc h
    go_enter Try.func54, Try.ntmps54
    go_wp2
    go_ret
    exact ⟨rfl, rfl⟩
end Go.Proofs.Ytnfpmobmfcgfnaa
