/- THE WALKS OF Zone (both) AND octroilaw07's lives. -/
import Derived.Test.YtljaglppldmgoaaVaK
namespace Go.Proofs.Ytljaglppldmgoaa
open Go.RowKit
def zoneP (home c : ByteArray) : Int × Int :=
  if (memB home.data.toList && countryL c.data.toList) = false then (0, 40) else if c = home then (0, 0) else if memB c.data.toList = true then (1, 0) else (2, 0)
def ZonePost (home c : ByteArray) (w : World) (e : Ending) (w' : World) : Prop := e = .returned (.tuple #[.int .i64 (zoneP home c).1, .int .i64 (zoneP home c).2]) ∧ Below w.heap.size w w'
set_option maxHeartbeats 1000000 in
theorem zone_any (home c : ByteArray) (w : World) : Calls Try.prog 14 #[.string home, .string c] w (ZonePost home c w) := by
  have h1 := fun w => member_any home w
  have h2 := fun w => member_any c w
  have h3 := fun w => country_any c w
  unfold ZonePost zoneP
  generalize memB home.data.toList = m1 at *
  generalize memB c.data.toList = m2 at *
  generalize countryL c.data.toList = m3 at *
  cases m1
  · go_enter Try.func14, Try.ntmps14
    go_wp2_with (first
      | (go_at_call 18; refine (h1 _).mono ?_; rintro e w1 ⟨rfl, hb1⟩))
    go_ret2
    exact ⟨rfl, hb1⟩
  · cases m3
    · go_enter Try.func14, Try.ntmps14
      go_wp2_with (first
        | (go_at_call 18; refine (h1 _).mono ?_; rintro e w1 ⟨rfl, hb1⟩)
        | (go_at_call 16; refine (h3 _).mono ?_; rintro e w2 ⟨rfl, rfl⟩))
      go_ret2
      exact ⟨rfl, hb1⟩
    · by_cases hq : c = home
      · have e1 : (c.toList == home.toList) = true := by rw [str_eq]; exact decide_eq_true hq
        rw [if_neg (by simp), if_pos hq]
        clear hq h2
        go_enter Try.func14, Try.ntmps14
        go_wp2_with (first
          | (go_at_call 18; refine (h1 _).mono ?_; rintro e w1 ⟨rfl, hb1⟩)
          | (go_at_call 16; refine (h3 _).mono ?_; rintro e w2 ⟨rfl, rfl⟩))
        go_ret2
        exact ⟨rfl, hb1⟩
      · have e1 : (c.toList == home.toList) = false := by rw [str_eq]; exact decide_eq_false hq
        rw [if_neg (by simp), if_neg hq]
        clear hq
        cases m2
        all_goals
          go_enter Try.func14, Try.ntmps14
          go_wp2_with (first
            | (go_at_call 18; first
                | (have _h := hb1; (with_reducible refine (h2 _).mono ?_); rintro e w4 ⟨rfl, hb4⟩)
                | ((with_reducible refine (h1 _).mono ?_); rintro e w1 ⟨rfl, hb1⟩))
            | (go_at_call 16; refine (h3 _).mono ?_; rintro e w2 ⟨rfl, rfl⟩))
          go_ret2
          exact ⟨rfl, hb1.trans (hb4.mono hb1.size)⟩
set_option maxHeartbeats 1000000 in
theorem rzone_any (home c : ByteArray) (w : World) : Calls Try.prog 15 #[.string home, .string c] w (ZonePost home c w) := by
  have h1 := fun w => rmember_any home w
  have h2 := fun w => rmember_any c w
  have h3 := fun w => rcountry_any c w
  unfold ZonePost zoneP
  generalize memB home.data.toList = m1 at *
  generalize memB c.data.toList = m2 at *
  generalize countryL c.data.toList = m3 at *
  cases m1
  · go_enter Try.func15, Try.ntmps15
    go_wp2_with (first
      | (go_at_call 19; refine (h1 _).mono ?_; rintro e w1 ⟨rfl, hb1⟩))
    go_ret2
    exact ⟨rfl, hb1⟩
  · cases m3
    · go_enter Try.func15, Try.ntmps15
      go_wp2_with (first
        | (go_at_call 19; refine (h1 _).mono ?_; rintro e w1 ⟨rfl, hb1⟩)
        | (go_at_call 17; refine (h3 _).mono ?_; rintro e w2 ⟨rfl, rfl⟩))
      go_ret2
      exact ⟨rfl, hb1⟩
    · by_cases hq : c = home
      · have e1 : (c.toList == home.toList) = true := by rw [str_eq]; exact decide_eq_true hq
        rw [if_neg (by simp), if_pos hq]
        clear hq h2
        go_enter Try.func15, Try.ntmps15
        go_wp2_with (first
          | (go_at_call 19; refine (h1 _).mono ?_; rintro e w1 ⟨rfl, hb1⟩)
          | (go_at_call 17; refine (h3 _).mono ?_; rintro e w2 ⟨rfl, rfl⟩))
        go_ret2
        exact ⟨rfl, hb1⟩
      · have e1 : (c.toList == home.toList) = false := by rw [str_eq]; exact decide_eq_false hq
        rw [if_neg (by simp), if_neg hq]
        clear hq
        cases m2
        all_goals
          go_enter Try.func15, Try.ntmps15
          go_wp2_with (first
            | (go_at_call 19; first
                | (have _h := hb1; (with_reducible refine (h2 _).mono ?_); rintro e w4 ⟨rfl, hb4⟩)
                | ((with_reducible refine (h1 _).mono ?_); rintro e w1 ⟨rfl, hb1⟩))
            | (go_at_call 17; refine (h3 _).mono ?_; rintro e w2 ⟨rfl, rfl⟩))
          go_ret2
          exact ⟨rfl, hb1.trans (hb4.mono hb1.size)⟩
theorem lives_clean (w : World) : Calls Try.prog 12 #[.string ⟨#[98, 101, 32, 48, 49, 50, 51, 46, 52, 53, 54, 46, 55, 56, 57]⟩] w fun e w' =>
    e = .returned (.tuple #[.string ⟨#[66, 69]⟩, .string ⟨#[48, 49, 50, 51, 52, 53, 54, 55, 56, 57]⟩, .int .i64 0]) ∧ Below w.heap.size w w' := by
  refine (clean_any _ (by decide) w).mono fun e w' he => ⟨he.1.trans ?_, he.2⟩
  have h : cleanP ((⟨#[98, 101, 32, 48, 49, 50, 51, 46, 52, 53, 54, 46, 55, 56, 57]⟩ : ByteArray).data.toList) = some ([66, 69], [48, 49, 50, 51, 52, 53, 54, 55, 56, 57]) := by decide +kernel
  rw [h]; rfl
theorem lives_right1 (w : World) : Calls Try.prog 7 #[.string ⟨#[68, 69]⟩, .string ⟨#[49, 50, 51, 52, 53, 54, 55, 56, 57]⟩] w fun e w' => e = .returned (.bool true) ∧ Below w.heap.size w w' := by
  refine (right_any _ _ (by decide) (by decide) w).mono fun e w' he => ⟨he.1.trans ?_, he.2⟩
  have h : rightL ((⟨#[68, 69]⟩ : ByteArray).data.toList) ((⟨#[49, 50, 51, 52, 53, 54, 55, 56, 57]⟩ : ByteArray).data.toList) = true := by decide +kernel
  rw [h]
theorem lives_right2 (w : World) : Calls Try.prog 7 #[.string ⟨#[68, 69]⟩, .string ⟨#[49, 50, 51, 52, 53, 54, 55, 56]⟩] w fun e w' => e = .returned (.bool false) ∧ Below w.heap.size w w' := by
  refine (right_any _ _ (by decide) (by decide) w).mono fun e w' he => ⟨he.1.trans ?_, he.2⟩
  have h : rightL ((⟨#[68, 69]⟩ : ByteArray).data.toList) ((⟨#[49, 50, 51, 52, 53, 54, 55, 56]⟩ : ByteArray).data.toList) = false := by decide +kernel
  rw [h]
set_option maxHeartbeats 1000000 in
theorem lives_any (w : World) : Calls Try.prog 6 #[] w fun e w' => e = .returned (.bool true) ∧ Below w.heap.size w w' := by
  go_enter Try.func6, Try.ntmps6
  go_wp2_with (first
    | (go_at_call 12; refine (lives_clean _).mono ?_; rintro e w1 ⟨rfl, hb1⟩)
    | (go_at_call 7; first
        | (have _h := hb2; (with_reducible refine (lives_right2 _).mono ?_); rintro e w3 ⟨rfl, hb3⟩)
        | ((with_reducible refine (lives_right1 _).mono ?_); rintro e w2 ⟨rfl, hb2⟩)))
  go_ret
  exact ⟨rfl, (hb1.trans (hb2.mono hb1.size)).trans (hb3.mono (Nat.le_trans hb1.size hb2.size))⟩
end Go.Proofs.Ytljaglppldmgoaa
