/- THE WALKS OF VatidNumbers, VatidCleans, VatidCountries. -/
import Derived.Test.YtljaglppldmgoaaVaL
namespace Go.Proofs.Ytljaglppldmgoaa
open Go.RowKit
def LawPost (w : World) (e : Ending) (w' : World) : Prop := e = .returned (.bool true) ∧ Below w.heap.size w w'
set_option maxHeartbeats 2000000 in
theorem vatidNumbers_walk (c : ByteArray) (hc : c.size ≤ maxLen) (num : ByteArray) (hn : num.size ≤ maxLen) {w : World} : Calls Try.prog 3 #[.string c, .string num] w (LawPost w) := by
  unfold maxLen at hc hn
  by_cases z1 : c.size ≤ 1000
  · have d1 : decide ((1000 : Int) < (c.size : Int)) = false := decide_eq_false (by omega)
    by_cases z2 : num.size ≤ 1000
    · have d2 : decide ((1000 : Int) < (num.size : Int)) = false := decide_eq_false (by omega)
      have h1 := fun w => right_any c num (by omega) (by omega) w
      have h2 := fun w => rright_any c num (by omega) w
      have h3 := fun w => formsF_any c (by unfold maxLen; omega) w
      have h4 := fun w => rforms_any c w
      unfold RightPost at h1 h2
      generalize rightL c.data.toList num.data.toList = r at *
      generalize formsT c.data.toList = fs at *
      cases r
      all_goals
        go_enter Try.func3, Try.ntmps3
        go_wp2_with (first
          | (go_at_call 7; refine (h1 _).mono ?_; rintro e w1 ⟨rfl, hb1⟩)
          | (go_at_call 8; refine (h2 _).mono ?_; rintro e w2 ⟨rfl, hb2⟩)
          | (go_at_call 10; refine (h3 _).mono ?_; rintro e w3 ⟨v3, rfl, hs3, hb3⟩)
          | (go_at_call 11; refine (h4 _).mono ?_; rintro e w4 ⟨v4, rfl, hs4, hb4⟩)
          | (go_at_call 9; refine (same_any _ _ _ _ _ _ _ (hs3.below hb4) hs4).mono ?_; rintro e w5 ⟨rfl, hb5⟩; rw [decide_eq_true rfl])
          | (go_at_call 6; refine (lives_any _).mono ?_; rintro e w9 ⟨rfl, hb9⟩))
        go_ret
        have s1 := hb1.size
        have s2 := hb2.size
        have s3 := hb3.size
        have s4 := hb4.size
        have s5 := hb5.size
        exact ⟨rfl, ((((hb1.trans (hb2.mono s1)).trans (hb3.mono (by omega))).trans (hb4.mono (by omega))).trans (hb5.mono (by omega))).trans (hb9.mono (by omega))⟩
    · have d2 : (1000 : Int) < (num.size : Int) := by omega
      go_enter Try.func3, Try.ntmps3
      go_wp2_with (go_at_call 6; refine (lives_any _).mono ?_; rintro e w9 ⟨rfl, hb9⟩)
      go_ret
      exact ⟨rfl, hb9⟩
  · have d1 : (1000 : Int) < (c.size : Int) := by omega
    go_enter Try.func3, Try.ntmps3
    go_wp2_with (go_at_call 6; refine (lives_any _).mono ?_; rintro e w9 ⟨rfl, hb9⟩)
    go_ret
    exact ⟨rfl, hb9⟩
set_option maxHeartbeats 2000000 in
theorem vatidCleans_walk (s : ByteArray) (hs : s.size ≤ maxLen) {w : World} : Calls Try.prog 4 #[.string s] w (LawPost w) := by
  unfold maxLen at hs
  by_cases z1 : s.size ≤ 2000
  · have d1 : decide ((2000 : Int) < (s.size : Int)) = false := decide_eq_false (by omega)
    have h1 := fun w => clean_any s (by omega) w
    have h2 := fun w => rclean_any s (by omega) w
    unfold CleanPost at h1 h2
    have hlen := clean_len s.data.toList
    have es : s.data.toList.length = s.size := Array.length_toList
    cases hp : cleanP s.data.toList with
    | none =>
      rw [hp] at h1 h2
      clear hp hlen es
      go_enter Try.func4, Try.ntmps4
      go_wp2_with (first
        | (go_at_call 12; refine (h1 _).mono ?_; rintro e w1 ⟨rfl, hb1⟩)
        | (go_at_call 13; refine (h2 _).mono ?_; rintro e w2 ⟨rfl, hb2⟩)
        | (go_at_call 6; refine (lives_any _).mono ?_; rintro e w9 ⟨rfl, hb9⟩))
      go_ret
      have s1 := hb1.size
      have s2 := hb2.size
      exact ⟨rfl, (hb1.trans (hb2.mono s1)).trans (hb9.mono (by omega))⟩
    | some p =>
      obtain ⟨c, n⟩ := p
      obtain ⟨ha, hr⟩ := cleanP_again hp
      have hcn : (bsA c).size + (bsA n).size ≤ 2000 := by
        unfold cleanP at hp
        split at hp
        · simp only [Option.some.injEq, Prod.mk.injEq] at hp
          obtain ⟨rfl, rfl⟩ := hp
          rw [bsA_size, bsA_size, List.length_take, List.length_drop]; omega
        · cases hp
      rw [hp] at h1 h2
      have h3 := fun w => clean_any (bsA c ++ bsA n) (by rw [ByteArray.size_append]; omega) w
      unfold CleanPost at h3
      rw [bsA_append, bsA_list, ha] at h3
      have h4 := fun w => right_any (bsA c) (bsA n) (by omega) (by omega) w
      unfold RightPost at h4
      rw [bsA_list, bsA_list, hr] at h4
      have HAP := Lib.hid (bsA_append c n)
      clear hp hlen es ha hr
      go_enter Try.func4, Try.ntmps4
      go_wp2_with (first
        | (go_at_call 12; first
            | (have _h := hb1; rw [HAP.out]; (with_reducible refine (h3 _).mono ?_); rintro e w3 ⟨rfl, hb3⟩)
            | ((with_reducible refine (h1 _).mono ?_); rintro e w1 ⟨rfl, hb1⟩))
        | (go_at_call 13; refine (h2 _).mono ?_; rintro e w2 ⟨rfl, hb2⟩)
        | (go_at_call 7; refine (h4 _).mono ?_; rintro e w4 ⟨rfl, hb4⟩)
        | (go_at_call 6; refine (lives_any _).mono ?_; rintro e w9 ⟨rfl, hb9⟩))
      go_ret
      have s1 := hb1.size
      have s2 := hb2.size
      have s3 := hb3.size
      have s4 := hb4.size
      exact ⟨rfl, (((hb1.trans (hb2.mono s1)).trans (hb3.mono (by omega))).trans (hb4.mono (by omega))).trans (hb9.mono (by omega))⟩
  · have d1 : (2000 : Int) < (s.size : Int) := by omega
    go_enter Try.func4, Try.ntmps4
    go_wp2_with (go_at_call 6; refine (lives_any _).mono ?_; rintro e w9 ⟨rfl, hb9⟩)
    go_ret
    exact ⟨rfl, hb9⟩
set_option maxHeartbeats 2000000 in
theorem vatidCountries_walk (home : ByteArray) (hh : home.size ≤ maxLen) (c : ByteArray) (hc : c.size ≤ maxLen) {w : World} : Calls Try.prog 5 #[.string home, .string c] w (LawPost w) := by
  unfold maxLen at hc hh
  by_cases z1 : home.size ≤ 1000
  · have d1 : decide ((1000 : Int) < (home.size : Int)) = false := decide_eq_false (by omega)
    by_cases z2 : c.size ≤ 1000
    · have d2 : decide ((1000 : Int) < (c.size : Int)) = false := decide_eq_false (by omega)
      have h1 := fun w => zone_any home c w
      have h2 := fun w => rzone_any home c w
      have h3 := fun w => country_any c w
      have h4 := fun w => rcountry_any c w
      have h5 := fun w => member_any c w
      have h6 := fun w => rmember_any c w
      unfold ZonePost at h1 h2
      generalize (zoneP home c).1 = q1 at *
      generalize (zoneP home c).2 = q2 at *
      generalize countryL c.data.toList = m3 at *
      generalize memB c.data.toList = m2 at *
      cases m3 <;> cases m2
      all_goals
        go_enter Try.func5, Try.ntmps5
        go_wp2_with (first
          | (go_at_call 14; refine (h1 _).mono ?_; rintro e w1 ⟨rfl, hb1⟩)
          | (go_at_call 15; refine (h2 _).mono ?_; rintro e w2 ⟨rfl, hb2⟩)
          | (go_at_call 16; refine (h3 _).mono ?_; rintro e w3 ⟨rfl, rfl⟩)
          | (go_at_call 17; refine (h4 _).mono ?_; rintro e w4 ⟨rfl, rfl⟩)
          | (go_at_call 18; refine (h5 _).mono ?_; rintro e w5 ⟨rfl, hb5⟩)
          | (go_at_call 19; refine (h6 _).mono ?_; rintro e w6 ⟨rfl, hb6⟩)
          | (go_at_call 20; refine (members_any _).mono ?_; rintro e w7 ⟨v7, rfl, hs7, hb7⟩)
          | (go_at_call 21; refine (rmembers_any _).mono ?_; rintro e w8 ⟨v8, rfl, hs8, hb8⟩)
          | (go_at_call 9; refine (same_any _ _ _ _ _ _ _ (hs7.sl.below hb8) hs8.sl).mono ?_; rintro e w10 ⟨rfl, hb10⟩; rw [decide_eq_true rfl])
          | (go_at_call 6; refine (lives_any _).mono ?_; rintro e w9 ⟨rfl, hb9⟩))
        go_ret
        have s1 := hb1.size
        have s2 := hb2.size
        have s5 := hb5.size
        have s6 := hb6.size
        have s7 := hb7.size
        have s8 := hb8.size
        have s10 := hb10.size
        exact ⟨rfl, (((((((hb1.trans (hb2.mono s1)).trans (hb5.mono (by omega))).trans (hb6.mono (by omega))).trans (hb7.mono (by omega))).trans (hb8.mono (by omega))).trans (hb10.mono (by omega))).trans (hb9.mono (by omega)))⟩
    · have d2 : (1000 : Int) < (c.size : Int) := by omega
      go_enter Try.func5, Try.ntmps5
      go_wp2_with (go_at_call 6; refine (lives_any _).mono ?_; rintro e w9 ⟨rfl, hb9⟩)
      go_ret
      exact ⟨rfl, hb9⟩
  · have d1 : (1000 : Int) < (home.size : Int) := by omega
    go_enter Try.func5, Try.ntmps5
    go_wp2_with (go_at_call 6; refine (lives_any _).mono ?_; rintro e w9 ⟨rfl, hb9⟩)
    go_ret
    exact ⟨rfl, hb9⟩
end Go.Proofs.Ytljaglppldmgoaa
