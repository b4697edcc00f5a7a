/- THE WALKS OF blob.Reader's Left AND Done. -/
import Derived.Test.YtnmiodjkomgfcaaRdr
namespace Go.Proofs.Ytnmiodjkomgfcaa
open Go.RowKit
section
variable {w : World} {g B : Nat} {v : Value} {l : List UInt8} {bad : Bool}
theorem mleft_any (h : Rd w g B l bad v) : Calls Try.prog 21 #[.pointer (some ⟨g, 0, none⟩)] w fun e w' => e = .returned (.int .i64 (if bad then 0 else (l.length : Int))) ∧ w = w' := by
  have hn := rdnone_any h
  have c0 := h.c0
  have c2 := h.c2
  obtain ⟨A, c, rfl, hc, hm, _⟩ := h.byt
  unfold maxLen at hm
  cases bad with
  | true =>
    go_enter Try.func21, Try.ntmps21
    go_wp2_with (go_at_call 38; refine hn.mono ?_; rintro e w' ⟨rfl, rfl⟩)
    go_ret
    exact ⟨rfl, rfl⟩
  | false =>
    go_enter Try.func21, Try.ntmps21
    go_wp2_with (go_at_call 38; refine hn.mono ?_; rintro e w' ⟨rfl, rfl⟩)
    go_ret
    exact ⟨rfl, rfl⟩
theorem mdone_any (h : Rd w g B l bad v) : Calls Try.prog 23 #[.pointer (some ⟨g, 0, none⟩)] w fun e w' => e = .returned (.int .i64 (if bad || decide (0 < l.length) then 10 else 0)) ∧ w = w' := by
  have hn := rdnone_any h
  have c0 := h.c0
  have c2 := h.c2
  obtain ⟨A, c, rfl, hc, hm, _⟩ := h.byt
  unfold maxLen at hm
  cases bad with
  | true =>
    go_enter Try.func23, Try.ntmps23
    go_wp2_with (go_at_call 38; refine hn.mono ?_; rintro e w' ⟨rfl, rfl⟩)
    go_ret
    exact ⟨rfl, rfl⟩
  | false =>
    by_cases hl : 0 < l.length
    · rw [Bool.false_or, decide_eq_true hl]
      have d : (0 : Int) < (l.length : Int) := by omega
      go_enter Try.func23, Try.ntmps23
      go_wp2_with (go_at_call 38; refine hn.mono ?_; rintro e w' ⟨rfl, rfl⟩)
      go_ret
      exact ⟨rfl, rfl⟩
    · rw [Bool.false_or, decide_eq_false hl]
      have d : decide ((0 : Int) < (l.length : Int)) = false := decide_eq_false (by omega)
      go_enter Try.func23, Try.ntmps23
      go_wp2_with (go_at_call 38; refine hn.mono ?_; rintro e w' ⟨rfl, rfl⟩)
      go_ret
      exact ⟨rfl, rfl⟩
end
end Go.Proofs.Ytnmiodjkomgfcaa
