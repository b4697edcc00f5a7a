/- THE WALKS OF vatid's AND octroiref07's SMALL FUNCTIONS. -/
import Derived.Test.YtnfpmobmfcgfnaaVaS
import Derived.Test.YtnfpmobmfcgfnaaVaP
import Derived.Test.YtnfpmobmfcgfnaaSl
import Derived.Deep.QuietTactic
import Derived.BigQuiet
namespace Go.Proofs.Ytnfpmobmfcgfnaa
open Go.RowKit
theorem letB_t {b : UInt8} (h1 : 65 ≤ b.toNat) (h2 : b.toNat ≤ 90) : letB b = true := by simp [letB, h1, h2]
theorem letB_f {b : UInt8} (h : ¬ (65 ≤ b.toNat ∧ b.toNat ≤ 90)) : letB b = false := by
  unfold letB; rw [Bool.and_eq_false_iff, decide_eq_false_iff_not, decide_eq_false_iff_not]; omega
theorem digB_t {b : UInt8} (h1 : 48 ≤ b.toNat) (h2 : b.toNat ≤ 57) : digB b = true := by simp [digB, h1, h2]
theorem digB_f {b : UInt8} (h : ¬ (48 ≤ b.toNat ∧ b.toNat ≤ 57)) : digB b = false := by
  unfold digB; rw [Bool.and_eq_false_iff, decide_eq_false_iff_not, decide_eq_false_iff_not]; omega
theorem letter_any (b : UInt8) (w : World) : Calls Try.prog 92 #[.int .u8 (b.toNat : Int)] w fun e w' => e = .returned (.bool (letB b)) ∧ w = w' := by
  by_cases h1 : 65 ≤ b.toNat
  · have a1 : (65 : Int) ≤ (b.toNat : Int) := by omega
    by_cases h2 : b.toNat ≤ 90
    · have a2 : (b.toNat : Int) ≤ 90 := by omega
      rw [letB_t h1 h2]
      go_enter Try.func92, Try.ntmps92
      go_wp2
      go_ret
      exact ⟨rfl, rfl⟩
    · have a2 : decide ((b.toNat : Int) ≤ 90) = false := decide_eq_false (by omega)
      rw [letB_f (by omega)]
      go_enter Try.func92, Try.ntmps92
      go_wp2
      go_ret
      exact ⟨rfl, rfl⟩
  · have a1 : decide ((65 : Int) ≤ (b.toNat : Int)) = false := decide_eq_false (by omega)
    rw [letB_f (by omega)]
    go_enter Try.func92, Try.ntmps92
    go_wp2
    go_ret
    exact ⟨rfl, rfl⟩
theorem digit_any (b : UInt8) (w : World) : Calls Try.prog 112 #[.int .u8 (b.toNat : Int)] w fun e w' => e = .returned (.bool (digB b)) ∧ w = w' := by
  by_cases h1 : 48 ≤ b.toNat
  · have a1 : (48 : Int) ≤ (b.toNat : Int) := by omega
    by_cases h2 : b.toNat ≤ 57
    · have a2 : (b.toNat : Int) ≤ 57 := by omega
      rw [digB_t h1 h2]
      go_enter Try.func112, Try.ntmps112
      go_wp2
      go_ret
      exact ⟨rfl, rfl⟩
    · have a2 : decide ((b.toNat : Int) ≤ 57) = false := decide_eq_false (by omega)
      rw [digB_f (by omega)]
      go_enter Try.func112, Try.ntmps112
      go_wp2
      go_ret
      exact ⟨rfl, rfl⟩
  · have a1 : decide ((48 : Int) ≤ (b.toNat : Int)) = false := decide_eq_false (by omega)
    rw [digB_f (by omega)]
    go_enter Try.func112, Try.ntmps112
    go_wp2
    go_ret
    exact ⟨rfl, rfl⟩
theorem rletter_any (b : UInt8) (w : World) : Calls Try.prog 79 #[.int .u8 (b.toNat : Int)] w fun e w' => e = .returned (.bool (letB b)) ∧ w = w' := by
  by_cases h1 : 65 ≤ b.toNat
  · have a1 : (65 : Int) ≤ (b.toNat : Int) := by omega
    by_cases h2 : b.toNat ≤ 90
    · have a2 : (b.toNat : Int) ≤ 90 := by omega
      rw [letB_t h1 h2]
      go_enter Try.func79, Try.ntmps79
      go_wp2
      go_ret
      exact ⟨rfl, rfl⟩
    · have a2 : decide ((b.toNat : Int) ≤ 90) = false := decide_eq_false (by omega)
      rw [letB_f (by omega)]
      go_enter Try.func79, Try.ntmps79
      go_wp2
      go_ret
      exact ⟨rfl, rfl⟩
  · have a1 : decide ((65 : Int) ≤ (b.toNat : Int)) = false := decide_eq_false (by omega)
    rw [letB_f (by omega)]
    go_enter Try.func79, Try.ntmps79
    go_wp2
    go_ret
    exact ⟨rfl, rfl⟩
theorem rdigit_any (b : UInt8) (w : World) : Calls Try.prog 80 #[.int .u8 (b.toNat : Int)] w fun e w' => e = .returned (.bool (digB b)) ∧ w = w' := by
  by_cases h1 : 48 ≤ b.toNat
  · have a1 : (48 : Int) ≤ (b.toNat : Int) := by omega
    by_cases h2 : b.toNat ≤ 57
    · have a2 : (b.toNat : Int) ≤ 57 := by omega
      rw [digB_t h1 h2]
      go_enter Try.func80, Try.ntmps80
      go_wp2
      go_ret
      exact ⟨rfl, rfl⟩
    · have a2 : decide ((b.toNat : Int) ≤ 57) = false := decide_eq_false (by omega)
      rw [digB_f (by omega)]
      go_enter Try.func80, Try.ntmps80
      go_wp2
      go_ret
      exact ⟨rfl, rfl⟩
  · have a1 : decide ((48 : Int) ≤ (b.toNat : Int)) = false := decide_eq_false (by omega)
    rw [digB_f (by omega)]
    go_enter Try.func80, Try.ntmps80
    go_wp2
    go_ret
    exact ⟨rfl, rfl⟩
/-- bytes of a text -/
theorem byte_at (s : ByteArray) (k : Nat) (h : k < s.size) : s.data.toList.getD k 0 = s[k] := by
  have e : s.data.toList.length = s.size := Array.length_toList
  rw [List.getD_eq_getElem?_getD, List.getElem?_eq_getElem (by omega)]
  rfl
theorem country_any (c : ByteArray) (w : World) : Calls Try.prog 60 #[.string c] w fun e w' => e = .returned (.bool (countryL c.data.toList)) ∧ w = w' := by
  have e : c.data.toList.length = c.size := Array.length_toList
  by_cases h : c.size = 2
  · have a0 := byte_at c 0 (by omega)
    have a1 := byte_at c 1 (by omega)
    have hc : countryL c.data.toList = (letB c[0] && letB c[1]) := by simp only [countryL, e, h, a0, a1, decide_true, Bool.true_and]
    have hz : ((c.size : Int) == 2) = true := by rw [beq_iff_eq]; omega
    have i0 : 0 < c.size := by omega
    have i1 : 1 < c.size := by omega
    rw [hc]
    have H := Lib.hid h
    clear e a0 a1 hc
    generalize g0 : letB c[0] = v0
    generalize g1 : letB c[1] = v1
    have G0 := Lib.hid g0
    have G1 := Lib.hid g1
    clear g0 g1 h H
    cases v0
    · go_enter Try.func60, Try.ntmps60
      go_wp2_with (go_at_call 92; refine (letter_any _ _).mono ?_; rintro e w' ⟨rfl, rfl⟩; rw [G0.out])
      go_ret
      exact ⟨rfl, rfl⟩
    · go_enter Try.func60, Try.ntmps60
      go_wp2_with (go_at_call 92; refine (letter_any _ _).mono ?_; rintro e w' ⟨rfl, rfl⟩; first | rw [G0.out] | rw [G1.out])
      go_ret
      exact ⟨rfl, rfl⟩
  · have hc : countryL c.data.toList = false := by simp [countryL, h]
    have hz : ((c.size : Int) == 2) = false := by rw [beq_eq_false_iff_ne]; omega
    rw [hc]
    clear e hc h
    go_enter Try.func60, Try.ntmps60
    go_wp2
    go_ret
    exact ⟨rfl, rfl⟩
theorem rcountry_any (c : ByteArray) (w : World) : Calls Try.prog 41 #[.string c] w fun e w' => e = .returned (.bool (countryL c.data.toList)) ∧ w = w' := by
  have e : c.data.toList.length = c.size := Array.length_toList
  by_cases h : c.size = 2
  · have a0 := byte_at c 0 (by omega)
    have a1 := byte_at c 1 (by omega)
    have hc : countryL c.data.toList = (letB c[0] && letB c[1]) := by simp only [countryL, e, h, a0, a1, decide_true, Bool.true_and]
    have hz : ((c.size : Int) == 2) = true := by rw [beq_iff_eq]; omega
    have i0 : 0 < c.size := by omega
    have i1 : 1 < c.size := by omega
    rw [hc]
    have H := Lib.hid h
    clear e a0 a1 hc
    generalize g0 : letB c[0] = v0
    generalize g1 : letB c[1] = v1
    have G0 := Lib.hid g0
    have G1 := Lib.hid g1
    clear g0 g1 h H
    cases v0
    · go_enter Try.func41, Try.ntmps41
      go_wp2_with (go_at_call 79; refine (rletter_any _ _).mono ?_; rintro e w' ⟨rfl, rfl⟩; rw [G0.out])
      go_ret
      exact ⟨rfl, rfl⟩
    · go_enter Try.func41, Try.ntmps41
      go_wp2_with (go_at_call 79; refine (rletter_any _ _).mono ?_; rintro e w' ⟨rfl, rfl⟩; first | rw [G0.out] | rw [G1.out])
      go_ret
      exact ⟨rfl, rfl⟩
  · have hc : countryL c.data.toList = false := by simp [countryL, h]
    have hz : ((c.size : Int) == 2) = false := by rw [beq_eq_false_iff_ne]; omega
    rw [hc]
    clear e hc h
    go_enter Try.func41, Try.ntmps41
    go_wp2
    go_ret
    exact ⟨rfl, rfl⟩
theorem extra_any (b : UInt8) (w : World) (g : Nat) (hc : w.cell? ⟨g, 0, none⟩ = some (.int .u8 (b.toNat : Int))) :
    Calls Try.prog 110 #[.string ⟨#[43, 42]⟩, .pointer (some ⟨g, 0, none⟩)] w fun e w' => e = .returned (.bool (b == 43 || b == 42)) ∧ w = w' := by
  have h1 := fun w => plusStar_any b w
  by_cases e1 : b = 43
  · subst e1
    go_enter Try.func110, Try.ntmps110
    go_wp2_with (go_at_call 111; refine (h1 _).mono ?_; rintro e w' ⟨rfl, rfl⟩)
    go_ret
    exact ⟨rfl, rfl⟩
  · by_cases e2 : b = 42
    · subst e2
      go_enter Try.func110, Try.ntmps110
      go_wp2_with (go_at_call 111; refine (h1 _).mono ?_; rintro e w' ⟨rfl, rfl⟩)
      go_ret
      exact ⟨rfl, rfl⟩
    · have hr : (if b = 43 then (0 : Int) else if b = 42 then 1 else -1) = -1 := by rw [if_neg e1, if_neg e2]
      have hb : (b == 43 || b == 42) = false := by simp [e1, e2]
      rw [hr] at h1
      rw [hb]
      clear hr hb e1 e2
      go_enter Try.func110, Try.ntmps110
      go_wp2_with (go_at_call 111; refine (h1 _).mono ?_; rintro e w' ⟨rfl, rfl⟩)
      go_ret
      exact ⟨rfl, rfl⟩
theorem fitB_else {f : UInt8} (b : UInt8) (h1 : f ≠ 43) (h2 : f ≠ 88) (h3 : f ≠ 65) (h4 : f ≠ 57) : fitB f b = (f == b) := by
  unfold fitB; rw [if_neg h4, if_neg h3, if_neg h2, if_neg h1]
theorem toNat_ne {f : UInt8} {k : Nat} (hk : k < 256) (h : f ≠ UInt8.ofNat k) : ((f.toNat : Int) == (k : Int)) = false := by
  rw [beq_eq_false_iff_ne]
  intro e
  apply h
  rw [← UInt8.toNat_inj, UInt8.toNat_ofNat']
  omega
set_option maxHeartbeats 1000000 in
theorem stands_any (f b : UInt8) (w : World) : Calls Try.prog 87 #[.int .u8 (f.toNat : Int), .int .u8 (b.toNat : Int)] w fun e w' => e = .returned (.bool (fitB f b)) ∧ Below w.heap.size w w' := by
  have hbel : Below w.heap.size w (w.alloc (.cells #[.int .u8 (b.toNat : Int)] 5)) := (Below.refl _ _).alloc (Nat.le_refl _) _
  have hL := fun w => letter_any b w
  have hD := fun w => digit_any b w
  have HB := Lib.hid hbel
  clear hbel
  by_cases e1 : f = 43
  · subst e1
    have hf : fitB 43 b = (letB b || digB b || (b == 43 || b == 42)) := by show (letB b || digB b || b == 43 || b == 42) = _; rw [Bool.or_assoc (letB b || digB b)]
    rw [hf, show (((43 : UInt8).toNat : Nat) : Int) = 43 from rfl]
    have hX := fun w g hc => extra_any b w g hc
    clear hf
    generalize (b == 43 || b == 42) = vx at *
    generalize letB b = vl at *
    generalize digB b = vd at *
    replace hX := Lib.hid hX
    cases vx <;> cases vl <;> cases vd
    all_goals
      go_enter Try.func87, Try.ntmps87
      go_wp2_with (first
        | (go_at_call 92; refine (hL _).mono ?_; rintro e w' ⟨rfl, rfl⟩)
        | (go_at_call 112; refine (hD _).mono ?_; rintro e w' ⟨rfl, rfl⟩)
        | (go_at_call 110; refine (hX.out _ _ (by simp)).mono ?_; rintro e w' ⟨rfl, rfl⟩))
      go_ret
      exact ⟨rfl, HB.out⟩
  have z1 : ((f.toNat : Int) == 43) = false := toNat_ne (k := 43) (by decide) e1
  by_cases e2 : f = 88
  · subst e2
    have hf : fitB 88 b = (letB b || digB b) := rfl
    rw [hf, show (((88 : UInt8).toNat : Nat) : Int) = 88 from rfl]
    clear hf z1 e1
    generalize letB b = vl at *
    generalize digB b = vd at *
    cases vl <;> cases vd
    all_goals
      go_enter Try.func87, Try.ntmps87
      go_wp2_with (first
        | (go_at_call 92; refine (hL _).mono ?_; rintro e w' ⟨rfl, rfl⟩)
        | (go_at_call 112; refine (hD _).mono ?_; rintro e w' ⟨rfl, rfl⟩))
      go_ret
      exact ⟨rfl, HB.out⟩
  have z2 : ((f.toNat : Int) == 88) = false := toNat_ne (k := 88) (by decide) e2
  by_cases e3 : f = 65
  · subst e3
    have hf : fitB 65 b = letB b := rfl
    rw [hf, show (((65 : UInt8).toNat : Nat) : Int) = 65 from rfl]
    clear hf z1 z2 e1 e2
    generalize letB b = vl at *
    generalize digB b = vd at *
    go_enter Try.func87, Try.ntmps87
    go_wp2_with (first
      | (go_at_call 92; refine (hL _).mono ?_; rintro e w' ⟨rfl, rfl⟩)
      | (go_at_call 112; refine (hD _).mono ?_; rintro e w' ⟨rfl, rfl⟩))
    go_ret
    exact ⟨rfl, HB.out⟩
  have z3 : ((f.toNat : Int) == 65) = false := toNat_ne (k := 65) (by decide) e3
  by_cases e4 : f = 57
  · subst e4
    have hf : fitB 57 b = digB b := rfl
    rw [hf, show (((57 : UInt8).toNat : Nat) : Int) = 57 from rfl]
    clear hf z1 z2 z3 e1 e2 e3
    generalize letB b = vl at *
    generalize digB b = vd at *
    go_enter Try.func87, Try.ntmps87
    go_wp2_with (first
      | (go_at_call 92; refine (hL _).mono ?_; rintro e w' ⟨rfl, rfl⟩)
      | (go_at_call 112; refine (hD _).mono ?_; rintro e w' ⟨rfl, rfl⟩))
    go_ret
    exact ⟨rfl, HB.out⟩
  have z4 : ((f.toNat : Int) == 57) = false := toNat_ne (k := 57) (by decide) e4
  rw [fitB_else b e1 e2 e3 e4]
  clear hL hD e1 e2 e3 e4
  by_cases e5 : f = b
  · subst e5
    rw [beq_self_eq_true]
    go_enter Try.func87, Try.ntmps87
    go_wp2
    go_ret
    exact ⟨rfl, HB.out⟩
  · have hb : (f == b) = false := by rw [beq_eq_false_iff_ne]; exact e5
    have z5 : ((f.toNat : Int) == (b.toNat : Int)) = false := by rw [beq_eq_false_iff_ne]; exact fun e => e5 (UInt8.toNat_inj.1 (by omega))
    have Z5 := Lib.hid z5
    clear z5
    rw [hb]
    go_enter Try.func87, Try.ntmps87
    go_wp2
    go_ret
    exact ⟨ret_bool Z5.out, HB.out⟩
set_option maxHeartbeats 1000000 in
theorem rfit_any (f b : UInt8) (w : World) : Calls Try.prog 82 #[.int .u8 (f.toNat : Int), .int .u8 (b.toNat : Int)] w fun e w' => e = .returned (.bool (fitB f b)) ∧ w = w' := by
  have hL := fun w => rletter_any b w
  have hD := fun w => rdigit_any b w
  by_cases e1 : f = 43
  · subst e1
    have hf : fitB 43 b = (letB b || digB b || b == 43 || b == 42) := rfl
    rw [hf, show (((43 : UInt8).toNat : Nat) : Int) = 43 from rfl]
    clear hf
    generalize letB b = vl at *
    generalize digB b = vd at *
    by_cases q1 : b = 43
    · subst q1
      rw [show (((43 : UInt8).toNat : Nat) : Int) = 43 from rfl] at hL hD ⊢
      cases vl <;> cases vd
      all_goals
        go_enter Try.func82, Try.ntmps82
        go_wp2_with (first
          | (go_at_call 79; refine (hL _).mono ?_; rintro e w' ⟨rfl, rfl⟩)
          | (go_at_call 80; refine (hD _).mono ?_; rintro e w' ⟨rfl, rfl⟩))
        go_ret
        exact ⟨rfl, rfl⟩
    have y1 : ((b.toNat : Int) == 43) = false := toNat_ne (k := 43) (by decide) q1
    have y1' : (b == 43) = false := by rw [beq_eq_false_iff_ne]; exact q1
    by_cases q2 : b = 42
    · subst q2
      rw [show (((42 : UInt8).toNat : Nat) : Int) = 42 from rfl] at hL hD ⊢
      clear y1 y1'
      cases vl <;> cases vd
      all_goals
        go_enter Try.func82, Try.ntmps82
        go_wp2_with (first
          | (go_at_call 79; refine (hL _).mono ?_; rintro e w' ⟨rfl, rfl⟩)
          | (go_at_call 80; refine (hD _).mono ?_; rintro e w' ⟨rfl, rfl⟩))
        go_ret
        exact ⟨rfl, rfl⟩
    have y2 : ((b.toNat : Int) == 42) = false := toNat_ne (k := 42) (by decide) q2
    have y2' : (b == 42) = false := by rw [beq_eq_false_iff_ne]; exact q2
    rw [y1', y2']
    clear y1' y2'
    cases vl <;> cases vd
    all_goals
      go_enter Try.func82, Try.ntmps82
      go_wp2_with (first
        | (go_at_call 79; refine (hL _).mono ?_; rintro e w' ⟨rfl, rfl⟩)
        | (go_at_call 80; refine (hD _).mono ?_; rintro e w' ⟨rfl, rfl⟩))
      go_ret
      exact ⟨rfl, rfl⟩
  have z1 : ((f.toNat : Int) == 43) = false := toNat_ne (k := 43) (by decide) e1
  by_cases e2 : f = 88
  · subst e2
    have hf : fitB 88 b = (letB b || digB b) := rfl
    rw [hf, show (((88 : UInt8).toNat : Nat) : Int) = 88 from rfl]
    clear hf z1 e1
    generalize letB b = vl at *
    generalize digB b = vd at *
    cases vl <;> cases vd
    all_goals
      go_enter Try.func82, Try.ntmps82
      go_wp2_with (first
        | (go_at_call 79; refine (hL _).mono ?_; rintro e w' ⟨rfl, rfl⟩)
        | (go_at_call 80; refine (hD _).mono ?_; rintro e w' ⟨rfl, rfl⟩))
      go_ret
      exact ⟨rfl, rfl⟩
  have z2 : ((f.toNat : Int) == 88) = false := toNat_ne (k := 88) (by decide) e2
  by_cases e3 : f = 65
  · subst e3
    have hf : fitB 65 b = letB b := rfl
    rw [hf, show (((65 : UInt8).toNat : Nat) : Int) = 65 from rfl]
    clear hf z1 z2 e1 e2
    generalize letB b = vl at *
    generalize digB b = vd at *
    go_enter Try.func82, Try.ntmps82
    go_wp2_with (first
      | (go_at_call 79; refine (hL _).mono ?_; rintro e w' ⟨rfl, rfl⟩)
      | (go_at_call 80; refine (hD _).mono ?_; rintro e w' ⟨rfl, rfl⟩))
    go_ret
    exact ⟨rfl, rfl⟩
  have z3 : ((f.toNat : Int) == 65) = false := toNat_ne (k := 65) (by decide) e3
  by_cases e4 : f = 57
  · subst e4
    have hf : fitB 57 b = digB b := rfl
    rw [hf, show (((57 : UInt8).toNat : Nat) : Int) = 57 from rfl]
    clear hf z1 z2 z3 e1 e2 e3
    generalize letB b = vl at *
    generalize digB b = vd at *
    go_enter Try.func82, Try.ntmps82
    go_wp2_with (first
      | (go_at_call 79; refine (hL _).mono ?_; rintro e w' ⟨rfl, rfl⟩)
      | (go_at_call 80; refine (hD _).mono ?_; rintro e w' ⟨rfl, rfl⟩))
    go_ret
    exact ⟨rfl, rfl⟩
  have z4 : ((f.toNat : Int) == 57) = false := toNat_ne (k := 57) (by decide) e4
  rw [fitB_else b e1 e2 e3 e4]
  clear hL hD e1 e2 e3 e4
  by_cases e5 : f = b
  · subst e5
    rw [beq_self_eq_true]
    go_enter Try.func82, Try.ntmps82
    go_wp2
    go_ret
    exact ⟨rfl, rfl⟩
  · have hb : (f == b) = false := by rw [beq_eq_false_iff_ne]; exact e5
    have z5 : ((f.toNat : Int) == (b.toNat : Int)) = false := by rw [beq_eq_false_iff_ne]; exact fun e => e5 (UInt8.toNat_inj.1 (by omega))
    have Z5 := Lib.hid z5
    clear z5
    rw [hb]
    go_enter Try.func82, Try.ntmps82
    go_wp2
    go_ret
    exact ⟨ret_bool Z5.out, rfl⟩
end Go.Proofs.Ytnfpmobmfcgfnaa
