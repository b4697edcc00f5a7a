/- THE WALKS OF record.GoodLine AND octroiref08.GoodLine (printed by gen/genglb.py). -/
import Derived.Test.YtnfpmobmfcgfnaaGlA
import Derived.Deep.DeepCutAuto
namespace Go.Proofs.Ytnfpmobmfcgfnaa
open Go.RowKit
def goodLineB (o : Ln) (sale : Bool) : Bool :=
  (inB o.cat 1 5 && inB o.am 0 1099511627776 && inB o.co 0 1099511627776 && !(sale && o.mx)) &&
  (if o.sup = 7 then countryL o.fr.data.toList && countryL o.tw.data.toList && o.pl.toList.isEmpty && o.gr
   else if o.sup = 1 then countryL o.fr.data.toList && countryL o.tw.data.toList && o.pl.toList.isEmpty && (o.co == 0)
   else if o.sup = 3 ∨ o.sup = 4 ∨ o.sup = 5 then o.fr.toList.isEmpty && o.tw.toList.isEmpty && (o.co == 0) && countryL o.pl.data.toList
   else if o.sup = 2 ∨ o.sup = 6 then o.fr.toList.isEmpty && o.tw.toList.isEmpty && (o.co == 0) && o.pl.toList.isEmpty
   else false)
set_option maxRecDepth 100000 in
set_option maxHeartbeats 4000000 in
theorem goodline_any (o : Ln) (sale : Bool) (w : World) : Calls Try.prog 29 #[.agg o.vs, .bool sale] w fun e w' => e = .returned (.bool (goodLineB o sale)) ∧ Below w.heap.size w w' := by
  obtain ⟨sup, cat, fr, tw, pl, am, gr, co, mx⟩ := o
  have HAL := Lib.hid (fun o => (Below.refl w.heap.size w).alloc (Nat.le_refl _) o)
  unfold goodLineB
  simp only [Ln.vs]
  have k1 := fun W => within_any cat 1 5 W
  have k2 := fun W => within_any am 0 1099511627776 W
  have k3 := fun W => within_any co 0 1099511627776 W
  have k4 := fun W => country_any fr W
  have k5 := fun W => country_any tw W
  have k6 := fun W => country_any pl W
  generalize inB cat 1 5 = b1 at *
  generalize inB am 0 1099511627776 = b2 at *
  generalize inB co 0 1099511627776 = b3 at *
  generalize countryL fr.data.toList = b4 at *
  generalize countryL tw.data.toList = b5 at *
  generalize countryL pl.data.toList = b6 at *
  generalize hR : (if sup = 7 then b4 && b5 && pl.toList.isEmpty && gr else if sup = 1 then b4 && b5 && pl.toList.isEmpty && (co == 0) else if sup = 3 ∨ sup = 4 ∨ sup = 5 then fr.toList.isEmpty && tw.toList.isEmpty && (co == 0) && b6 else if sup = 2 ∨ sup = 6 then fr.toList.isEmpty && tw.toList.isEmpty && (co == 0) && pl.toList.isEmpty else false) = R at *
  generalize hG : ((b1 && b2 && b3 && !(sale && mx)) && R) = G at *
  have HG := Lib.hid hG
  have HR := Lib.hid hR
  have K1 := Lib.hid k1
  have K2 := Lib.hid k2
  have K3 := Lib.hid k3
  have K4 := Lib.hid k4
  have K5 := Lib.hid k5
  have K6 := Lib.hid k6
  clear hG hR k1 k2 k3 k4 k5 k6
  go_enter Try.func29, Try.ntmps29
  go_upto_region 1 with fail
  cases b1
  · skip
    have hG := HG.out
    simp only [Bool.false_and] at hG
    subst hG
    go_wp2_with (first
      | (go_at_call 50; first | ((with_reducible refine (K1.out _).mono ?_); rintro e w' ⟨rfl, rfl⟩) | ((with_reducible refine (K2.out _).mono ?_); rintro e w' ⟨rfl, rfl⟩) | ((with_reducible refine (K3.out _).mono ?_); rintro e w' ⟨rfl, rfl⟩))
      | (go_at_call 60; first | ((with_reducible refine (K4.out _).mono ?_); rintro e w' ⟨rfl, rfl⟩) | ((with_reducible refine (K5.out _).mono ?_); rintro e w' ⟨rfl, rfl⟩) | ((with_reducible refine (K6.out _).mono ?_); rintro e w' ⟨rfl, rfl⟩)))
    go_ret
    exact ⟨rfl, HAL.out _⟩
  cases b2
  · skip
    have hG := HG.out
    simp only [Bool.false_and, Bool.and_false] at hG
    subst hG
    go_wp2_with (first
      | (go_at_call 50; first | ((with_reducible refine (K1.out _).mono ?_); rintro e w' ⟨rfl, rfl⟩) | ((with_reducible refine (K2.out _).mono ?_); rintro e w' ⟨rfl, rfl⟩) | ((with_reducible refine (K3.out _).mono ?_); rintro e w' ⟨rfl, rfl⟩))
      | (go_at_call 60; first | ((with_reducible refine (K4.out _).mono ?_); rintro e w' ⟨rfl, rfl⟩) | ((with_reducible refine (K5.out _).mono ?_); rintro e w' ⟨rfl, rfl⟩) | ((with_reducible refine (K6.out _).mono ?_); rintro e w' ⟨rfl, rfl⟩)))
    go_ret
    exact ⟨rfl, HAL.out _⟩
  cases b3
  · skip
    have hG := HG.out
    simp only [Bool.false_and, Bool.and_false] at hG
    subst hG
    go_wp2_with (first
      | (go_at_call 50; first | ((with_reducible refine (K1.out _).mono ?_); rintro e w' ⟨rfl, rfl⟩) | ((with_reducible refine (K2.out _).mono ?_); rintro e w' ⟨rfl, rfl⟩) | ((with_reducible refine (K3.out _).mono ?_); rintro e w' ⟨rfl, rfl⟩))
      | (go_at_call 60; first | ((with_reducible refine (K4.out _).mono ?_); rintro e w' ⟨rfl, rfl⟩) | ((with_reducible refine (K5.out _).mono ?_); rintro e w' ⟨rfl, rfl⟩) | ((with_reducible refine (K6.out _).mono ?_); rintro e w' ⟨rfl, rfl⟩)))
    go_ret
    exact ⟨rfl, HAL.out _⟩
  by_cases hsm : sale = true ∧ mx = true
  · obtain ⟨rfl, rfl⟩ := hsm
    have hG := HG.out
    simp only [Bool.and_self, Bool.not_true, Bool.and_false, Bool.false_and] at hG
    subst hG
    go_wp2_with (first
      | (go_at_call 50; first | ((with_reducible refine (K1.out _).mono ?_); rintro e w' ⟨rfl, rfl⟩) | ((with_reducible refine (K2.out _).mono ?_); rintro e w' ⟨rfl, rfl⟩) | ((with_reducible refine (K3.out _).mono ?_); rintro e w' ⟨rfl, rfl⟩))
      | (go_at_call 60; first | ((with_reducible refine (K4.out _).mono ?_); rintro e w' ⟨rfl, rfl⟩) | ((with_reducible refine (K5.out _).mono ?_); rintro e w' ⟨rfl, rfl⟩) | ((with_reducible refine (K6.out _).mono ?_); rintro e w' ⟨rfl, rfl⟩)))
    go_ret
    exact ⟨rfl, HAL.out _⟩
  have hsm2 : (sale && mx) = false := by
    cases sale
    · rfl
    · cases mx
      · rfl
      · exact absurd ⟨rfl, rfl⟩ hsm
  have HSM := Lib.hid hsm2
  have hG := HG.out
  rw [hsm2, Bool.not_false, Bool.and_true, Bool.and_self, Bool.and_self, Bool.true_and] at hG
  subst hG
  clear hsm hsm2 HG
  go_cut [29] from 5 (fun xs wx => xs = .bool false ∧ wx = w.alloc (.cells #[.int .i64 sup, .int .i64 cat, .string fr, .string tw, .string pl, .int .i64 am, .bool gr, .int .i64 co, .bool mx] 55))
  case first =>
    have hsm := HSM.out
    cases sale
    · skip
      clear hsm
      go_wp2_with (first
        | (go_at_call 50; first | ((with_reducible refine (K1.out _).mono ?_); rintro e w' ⟨rfl, rfl⟩) | ((with_reducible refine (K2.out _).mono ?_); rintro e w' ⟨rfl, rfl⟩) | ((with_reducible refine (K3.out _).mono ?_); rintro e w' ⟨rfl, rfl⟩))
        | (go_at_call 60; first | ((with_reducible refine (K4.out _).mono ?_); rintro e w' ⟨rfl, rfl⟩) | ((with_reducible refine (K5.out _).mono ?_); rintro e w' ⟨rfl, rfl⟩) | ((with_reducible refine (K6.out _).mono ?_); rintro e w' ⟨rfl, rfl⟩)))
      go_meet
      exact ⟨rfl, rfl⟩
    · obtain rfl : mx = false := by simpa using hsm
      clear hsm
      go_wp2_with (first
        | (go_at_call 50; first | ((with_reducible refine (K1.out _).mono ?_); rintro e w' ⟨rfl, rfl⟩) | ((with_reducible refine (K2.out _).mono ?_); rintro e w' ⟨rfl, rfl⟩) | ((with_reducible refine (K3.out _).mono ?_); rintro e w' ⟨rfl, rfl⟩))
        | (go_at_call 60; first | ((with_reducible refine (K4.out _).mono ?_); rintro e w' ⟨rfl, rfl⟩) | ((with_reducible refine (K5.out _).mono ?_); rintro e w' ⟨rfl, rfl⟩) | ((with_reducible refine (K6.out _).mono ?_); rintro e w' ⟨rfl, rfl⟩)))
      go_meet
      exact ⟨rfl, rfl⟩
  case rest =>
  obtain ⟨rfl, rfl⟩ := hcut
  go_upto_region 3 with fail
  go_cut [5] from 30 (fun x5 wx => x5 = .bool (b4 && b5 && pl.toList.isEmpty) ∧ wx = w.alloc (.cells #[.int .i64 sup, .int .i64 cat, .string fr, .string tw, .string pl, .int .i64 am, .bool gr, .int .i64 co, .bool mx] 55))
  case first =>
    cases b4
    · skip
      go_wp2_with (first
        | (go_at_call 50; first | ((with_reducible refine (K1.out _).mono ?_); rintro e w' ⟨rfl, rfl⟩) | ((with_reducible refine (K2.out _).mono ?_); rintro e w' ⟨rfl, rfl⟩) | ((with_reducible refine (K3.out _).mono ?_); rintro e w' ⟨rfl, rfl⟩))
        | (go_at_call 60; first | ((with_reducible refine (K4.out _).mono ?_); rintro e w' ⟨rfl, rfl⟩) | ((with_reducible refine (K5.out _).mono ?_); rintro e w' ⟨rfl, rfl⟩) | ((with_reducible refine (K6.out _).mono ?_); rintro e w' ⟨rfl, rfl⟩)))
      all_goals (go_meet; exact ⟨congrArg Value.bool (by simp [*]), rfl⟩)
    cases b5
    · skip
      go_wp2_with (first
        | (go_at_call 50; first | ((with_reducible refine (K1.out _).mono ?_); rintro e w' ⟨rfl, rfl⟩) | ((with_reducible refine (K2.out _).mono ?_); rintro e w' ⟨rfl, rfl⟩) | ((with_reducible refine (K3.out _).mono ?_); rintro e w' ⟨rfl, rfl⟩))
        | (go_at_call 60; first | ((with_reducible refine (K4.out _).mono ?_); rintro e w' ⟨rfl, rfl⟩) | ((with_reducible refine (K5.out _).mono ?_); rintro e w' ⟨rfl, rfl⟩) | ((with_reducible refine (K6.out _).mono ?_); rintro e w' ⟨rfl, rfl⟩)))
      all_goals (go_meet; exact ⟨congrArg Value.bool (by simp [*]), rfl⟩)
    go_wp2_with (first
      | (go_at_call 50; first | ((with_reducible refine (K1.out _).mono ?_); rintro e w' ⟨rfl, rfl⟩) | ((with_reducible refine (K2.out _).mono ?_); rintro e w' ⟨rfl, rfl⟩) | ((with_reducible refine (K3.out _).mono ?_); rintro e w' ⟨rfl, rfl⟩))
      | (go_at_call 60; first | ((with_reducible refine (K4.out _).mono ?_); rintro e w' ⟨rfl, rfl⟩) | ((with_reducible refine (K5.out _).mono ?_); rintro e w' ⟨rfl, rfl⟩) | ((with_reducible refine (K6.out _).mono ?_); rintro e w' ⟨rfl, rfl⟩)))
    all_goals (go_meet; exact ⟨congrArg Value.bool (by simp [*]), rfl⟩)
  case rest =>
  obtain ⟨rfl, rfl⟩ := hcut
  generalize hm : (b4 && b5 && pl.toList.isEmpty) = M at *
  clear hm
  go_upto_region 4 with fail
  go_cut [6] from 43 (fun x6 wx => x6 = .bool (fr.toList.isEmpty && tw.toList.isEmpty && (co == 0)) ∧ wx = w.alloc (.cells #[.int .i64 sup, .int .i64 cat, .string fr, .string tw, .string pl, .int .i64 am, .bool gr, .int .i64 co, .bool mx] 55))
  case first =>
    go_wp2_with (first
      | (go_at_call 50; first | ((with_reducible refine (K1.out _).mono ?_); rintro e w' ⟨rfl, rfl⟩) | ((with_reducible refine (K2.out _).mono ?_); rintro e w' ⟨rfl, rfl⟩) | ((with_reducible refine (K3.out _).mono ?_); rintro e w' ⟨rfl, rfl⟩))
      | (go_at_call 60; first | ((with_reducible refine (K4.out _).mono ?_); rintro e w' ⟨rfl, rfl⟩) | ((with_reducible refine (K5.out _).mono ?_); rintro e w' ⟨rfl, rfl⟩) | ((with_reducible refine (K6.out _).mono ?_); rintro e w' ⟨rfl, rfl⟩)))
    all_goals (go_meet; exact ⟨congrArg Value.bool (by simp [*]), rfl⟩)
  case rest =>
  obtain ⟨rfl, rfl⟩ := hcut
  have hR := HR.out
  clear HR
  generalize hs : (fr.toList.isEmpty && tw.toList.isEmpty && (co == 0)) = S at *
  clear hs
  by_cases h7 : sup = 7
  · subst h7
    simp [-List.isEmpty_iff] at hR
    cases M
    · skip
      subst hR
      go_wp2_with (first
        | (go_at_call 50; first | ((with_reducible refine (K1.out _).mono ?_); rintro e w' ⟨rfl, rfl⟩) | ((with_reducible refine (K2.out _).mono ?_); rintro e w' ⟨rfl, rfl⟩) | ((with_reducible refine (K3.out _).mono ?_); rintro e w' ⟨rfl, rfl⟩))
        | (go_at_call 60; first | ((with_reducible refine (K4.out _).mono ?_); rintro e w' ⟨rfl, rfl⟩) | ((with_reducible refine (K5.out _).mono ?_); rintro e w' ⟨rfl, rfl⟩) | ((with_reducible refine (K6.out _).mono ?_); rintro e w' ⟨rfl, rfl⟩)))
      all_goals (go_ret; exact ⟨ret_bool (by simp_all), HAL.out _⟩)
    · skip
      subst hR
      go_wp2_with (first
        | (go_at_call 50; first | ((with_reducible refine (K1.out _).mono ?_); rintro e w' ⟨rfl, rfl⟩) | ((with_reducible refine (K2.out _).mono ?_); rintro e w' ⟨rfl, rfl⟩) | ((with_reducible refine (K3.out _).mono ?_); rintro e w' ⟨rfl, rfl⟩))
        | (go_at_call 60; first | ((with_reducible refine (K4.out _).mono ?_); rintro e w' ⟨rfl, rfl⟩) | ((with_reducible refine (K5.out _).mono ?_); rintro e w' ⟨rfl, rfl⟩) | ((with_reducible refine (K6.out _).mono ?_); rintro e w' ⟨rfl, rfl⟩)))
      all_goals (go_ret; exact ⟨ret_bool (by simp_all), HAL.out _⟩)
  by_cases h1 : sup = 1
  · subst h1
    simp [-List.isEmpty_iff] at hR
    cases M
    · skip
      subst hR
      go_wp2_with (first
        | (go_at_call 50; first | ((with_reducible refine (K1.out _).mono ?_); rintro e w' ⟨rfl, rfl⟩) | ((with_reducible refine (K2.out _).mono ?_); rintro e w' ⟨rfl, rfl⟩) | ((with_reducible refine (K3.out _).mono ?_); rintro e w' ⟨rfl, rfl⟩))
        | (go_at_call 60; first | ((with_reducible refine (K4.out _).mono ?_); rintro e w' ⟨rfl, rfl⟩) | ((with_reducible refine (K5.out _).mono ?_); rintro e w' ⟨rfl, rfl⟩) | ((with_reducible refine (K6.out _).mono ?_); rintro e w' ⟨rfl, rfl⟩)))
      all_goals (go_ret; exact ⟨ret_bool (by simp_all), HAL.out _⟩)
    · skip
      subst hR
      go_wp2_with (first
        | (go_at_call 50; first | ((with_reducible refine (K1.out _).mono ?_); rintro e w' ⟨rfl, rfl⟩) | ((with_reducible refine (K2.out _).mono ?_); rintro e w' ⟨rfl, rfl⟩) | ((with_reducible refine (K3.out _).mono ?_); rintro e w' ⟨rfl, rfl⟩))
        | (go_at_call 60; first | ((with_reducible refine (K4.out _).mono ?_); rintro e w' ⟨rfl, rfl⟩) | ((with_reducible refine (K5.out _).mono ?_); rintro e w' ⟨rfl, rfl⟩) | ((with_reducible refine (K6.out _).mono ?_); rintro e w' ⟨rfl, rfl⟩)))
      all_goals (go_ret; exact ⟨ret_bool (by simp_all), HAL.out _⟩)
  by_cases h3 : sup = 3
  · subst h3
    simp [-List.isEmpty_iff] at hR
    cases S
    · skip
      cases b6
      · skip
        subst hR
        go_wp2_with (first
          | (go_at_call 50; first | ((with_reducible refine (K1.out _).mono ?_); rintro e w' ⟨rfl, rfl⟩) | ((with_reducible refine (K2.out _).mono ?_); rintro e w' ⟨rfl, rfl⟩) | ((with_reducible refine (K3.out _).mono ?_); rintro e w' ⟨rfl, rfl⟩))
          | (go_at_call 60; first | ((with_reducible refine (K4.out _).mono ?_); rintro e w' ⟨rfl, rfl⟩) | ((with_reducible refine (K5.out _).mono ?_); rintro e w' ⟨rfl, rfl⟩) | ((with_reducible refine (K6.out _).mono ?_); rintro e w' ⟨rfl, rfl⟩)))
        all_goals (go_ret; exact ⟨ret_bool (by simp_all), HAL.out _⟩)
      · skip
        subst hR
        go_wp2_with (first
          | (go_at_call 50; first | ((with_reducible refine (K1.out _).mono ?_); rintro e w' ⟨rfl, rfl⟩) | ((with_reducible refine (K2.out _).mono ?_); rintro e w' ⟨rfl, rfl⟩) | ((with_reducible refine (K3.out _).mono ?_); rintro e w' ⟨rfl, rfl⟩))
          | (go_at_call 60; first | ((with_reducible refine (K4.out _).mono ?_); rintro e w' ⟨rfl, rfl⟩) | ((with_reducible refine (K5.out _).mono ?_); rintro e w' ⟨rfl, rfl⟩) | ((with_reducible refine (K6.out _).mono ?_); rintro e w' ⟨rfl, rfl⟩)))
        all_goals (go_ret; exact ⟨ret_bool (by simp_all), HAL.out _⟩)
    · skip
      cases b6
      · skip
        subst hR
        go_wp2_with (first
          | (go_at_call 50; first | ((with_reducible refine (K1.out _).mono ?_); rintro e w' ⟨rfl, rfl⟩) | ((with_reducible refine (K2.out _).mono ?_); rintro e w' ⟨rfl, rfl⟩) | ((with_reducible refine (K3.out _).mono ?_); rintro e w' ⟨rfl, rfl⟩))
          | (go_at_call 60; first | ((with_reducible refine (K4.out _).mono ?_); rintro e w' ⟨rfl, rfl⟩) | ((with_reducible refine (K5.out _).mono ?_); rintro e w' ⟨rfl, rfl⟩) | ((with_reducible refine (K6.out _).mono ?_); rintro e w' ⟨rfl, rfl⟩)))
        all_goals (go_ret; exact ⟨ret_bool (by simp_all), HAL.out _⟩)
      · skip
        subst hR
        go_wp2_with (first
          | (go_at_call 50; first | ((with_reducible refine (K1.out _).mono ?_); rintro e w' ⟨rfl, rfl⟩) | ((with_reducible refine (K2.out _).mono ?_); rintro e w' ⟨rfl, rfl⟩) | ((with_reducible refine (K3.out _).mono ?_); rintro e w' ⟨rfl, rfl⟩))
          | (go_at_call 60; first | ((with_reducible refine (K4.out _).mono ?_); rintro e w' ⟨rfl, rfl⟩) | ((with_reducible refine (K5.out _).mono ?_); rintro e w' ⟨rfl, rfl⟩) | ((with_reducible refine (K6.out _).mono ?_); rintro e w' ⟨rfl, rfl⟩)))
        all_goals (go_ret; exact ⟨ret_bool (by simp_all), HAL.out _⟩)
  by_cases h4 : sup = 4
  · subst h4
    simp [-List.isEmpty_iff] at hR
    cases S
    · skip
      cases b6
      · skip
        subst hR
        go_wp2_with (first
          | (go_at_call 50; first | ((with_reducible refine (K1.out _).mono ?_); rintro e w' ⟨rfl, rfl⟩) | ((with_reducible refine (K2.out _).mono ?_); rintro e w' ⟨rfl, rfl⟩) | ((with_reducible refine (K3.out _).mono ?_); rintro e w' ⟨rfl, rfl⟩))
          | (go_at_call 60; first | ((with_reducible refine (K4.out _).mono ?_); rintro e w' ⟨rfl, rfl⟩) | ((with_reducible refine (K5.out _).mono ?_); rintro e w' ⟨rfl, rfl⟩) | ((with_reducible refine (K6.out _).mono ?_); rintro e w' ⟨rfl, rfl⟩)))
        all_goals (go_ret; exact ⟨ret_bool (by simp_all), HAL.out _⟩)
      · skip
        subst hR
        go_wp2_with (first
          | (go_at_call 50; first | ((with_reducible refine (K1.out _).mono ?_); rintro e w' ⟨rfl, rfl⟩) | ((with_reducible refine (K2.out _).mono ?_); rintro e w' ⟨rfl, rfl⟩) | ((with_reducible refine (K3.out _).mono ?_); rintro e w' ⟨rfl, rfl⟩))
          | (go_at_call 60; first | ((with_reducible refine (K4.out _).mono ?_); rintro e w' ⟨rfl, rfl⟩) | ((with_reducible refine (K5.out _).mono ?_); rintro e w' ⟨rfl, rfl⟩) | ((with_reducible refine (K6.out _).mono ?_); rintro e w' ⟨rfl, rfl⟩)))
        all_goals (go_ret; exact ⟨ret_bool (by simp_all), HAL.out _⟩)
    · skip
      cases b6
      · skip
        subst hR
        go_wp2_with (first
          | (go_at_call 50; first | ((with_reducible refine (K1.out _).mono ?_); rintro e w' ⟨rfl, rfl⟩) | ((with_reducible refine (K2.out _).mono ?_); rintro e w' ⟨rfl, rfl⟩) | ((with_reducible refine (K3.out _).mono ?_); rintro e w' ⟨rfl, rfl⟩))
          | (go_at_call 60; first | ((with_reducible refine (K4.out _).mono ?_); rintro e w' ⟨rfl, rfl⟩) | ((with_reducible refine (K5.out _).mono ?_); rintro e w' ⟨rfl, rfl⟩) | ((with_reducible refine (K6.out _).mono ?_); rintro e w' ⟨rfl, rfl⟩)))
        all_goals (go_ret; exact ⟨ret_bool (by simp_all), HAL.out _⟩)
      · skip
        subst hR
        go_wp2_with (first
          | (go_at_call 50; first | ((with_reducible refine (K1.out _).mono ?_); rintro e w' ⟨rfl, rfl⟩) | ((with_reducible refine (K2.out _).mono ?_); rintro e w' ⟨rfl, rfl⟩) | ((with_reducible refine (K3.out _).mono ?_); rintro e w' ⟨rfl, rfl⟩))
          | (go_at_call 60; first | ((with_reducible refine (K4.out _).mono ?_); rintro e w' ⟨rfl, rfl⟩) | ((with_reducible refine (K5.out _).mono ?_); rintro e w' ⟨rfl, rfl⟩) | ((with_reducible refine (K6.out _).mono ?_); rintro e w' ⟨rfl, rfl⟩)))
        all_goals (go_ret; exact ⟨ret_bool (by simp_all), HAL.out _⟩)
  by_cases h5 : sup = 5
  · subst h5
    simp [-List.isEmpty_iff] at hR
    cases S
    · skip
      cases b6
      · skip
        subst hR
        go_wp2_with (first
          | (go_at_call 50; first | ((with_reducible refine (K1.out _).mono ?_); rintro e w' ⟨rfl, rfl⟩) | ((with_reducible refine (K2.out _).mono ?_); rintro e w' ⟨rfl, rfl⟩) | ((with_reducible refine (K3.out _).mono ?_); rintro e w' ⟨rfl, rfl⟩))
          | (go_at_call 60; first | ((with_reducible refine (K4.out _).mono ?_); rintro e w' ⟨rfl, rfl⟩) | ((with_reducible refine (K5.out _).mono ?_); rintro e w' ⟨rfl, rfl⟩) | ((with_reducible refine (K6.out _).mono ?_); rintro e w' ⟨rfl, rfl⟩)))
        all_goals (go_ret; exact ⟨ret_bool (by simp_all), HAL.out _⟩)
      · skip
        subst hR
        go_wp2_with (first
          | (go_at_call 50; first | ((with_reducible refine (K1.out _).mono ?_); rintro e w' ⟨rfl, rfl⟩) | ((with_reducible refine (K2.out _).mono ?_); rintro e w' ⟨rfl, rfl⟩) | ((with_reducible refine (K3.out _).mono ?_); rintro e w' ⟨rfl, rfl⟩))
          | (go_at_call 60; first | ((with_reducible refine (K4.out _).mono ?_); rintro e w' ⟨rfl, rfl⟩) | ((with_reducible refine (K5.out _).mono ?_); rintro e w' ⟨rfl, rfl⟩) | ((with_reducible refine (K6.out _).mono ?_); rintro e w' ⟨rfl, rfl⟩)))
        all_goals (go_ret; exact ⟨ret_bool (by simp_all), HAL.out _⟩)
    · skip
      cases b6
      · skip
        subst hR
        go_wp2_with (first
          | (go_at_call 50; first | ((with_reducible refine (K1.out _).mono ?_); rintro e w' ⟨rfl, rfl⟩) | ((with_reducible refine (K2.out _).mono ?_); rintro e w' ⟨rfl, rfl⟩) | ((with_reducible refine (K3.out _).mono ?_); rintro e w' ⟨rfl, rfl⟩))
          | (go_at_call 60; first | ((with_reducible refine (K4.out _).mono ?_); rintro e w' ⟨rfl, rfl⟩) | ((with_reducible refine (K5.out _).mono ?_); rintro e w' ⟨rfl, rfl⟩) | ((with_reducible refine (K6.out _).mono ?_); rintro e w' ⟨rfl, rfl⟩)))
        all_goals (go_ret; exact ⟨ret_bool (by simp_all), HAL.out _⟩)
      · skip
        subst hR
        go_wp2_with (first
          | (go_at_call 50; first | ((with_reducible refine (K1.out _).mono ?_); rintro e w' ⟨rfl, rfl⟩) | ((with_reducible refine (K2.out _).mono ?_); rintro e w' ⟨rfl, rfl⟩) | ((with_reducible refine (K3.out _).mono ?_); rintro e w' ⟨rfl, rfl⟩))
          | (go_at_call 60; first | ((with_reducible refine (K4.out _).mono ?_); rintro e w' ⟨rfl, rfl⟩) | ((with_reducible refine (K5.out _).mono ?_); rintro e w' ⟨rfl, rfl⟩) | ((with_reducible refine (K6.out _).mono ?_); rintro e w' ⟨rfl, rfl⟩)))
        all_goals (go_ret; exact ⟨ret_bool (by simp_all), HAL.out _⟩)
  by_cases h2 : sup = 2
  · subst h2
    simp [-List.isEmpty_iff] at hR
    cases S
    · skip
      subst hR
      go_wp2_with (first
        | (go_at_call 50; first | ((with_reducible refine (K1.out _).mono ?_); rintro e w' ⟨rfl, rfl⟩) | ((with_reducible refine (K2.out _).mono ?_); rintro e w' ⟨rfl, rfl⟩) | ((with_reducible refine (K3.out _).mono ?_); rintro e w' ⟨rfl, rfl⟩))
        | (go_at_call 60; first | ((with_reducible refine (K4.out _).mono ?_); rintro e w' ⟨rfl, rfl⟩) | ((with_reducible refine (K5.out _).mono ?_); rintro e w' ⟨rfl, rfl⟩) | ((with_reducible refine (K6.out _).mono ?_); rintro e w' ⟨rfl, rfl⟩)))
      all_goals (go_ret; exact ⟨ret_bool (by simp_all), HAL.out _⟩)
    · skip
      subst hR
      go_wp2_with (first
        | (go_at_call 50; first | ((with_reducible refine (K1.out _).mono ?_); rintro e w' ⟨rfl, rfl⟩) | ((with_reducible refine (K2.out _).mono ?_); rintro e w' ⟨rfl, rfl⟩) | ((with_reducible refine (K3.out _).mono ?_); rintro e w' ⟨rfl, rfl⟩))
        | (go_at_call 60; first | ((with_reducible refine (K4.out _).mono ?_); rintro e w' ⟨rfl, rfl⟩) | ((with_reducible refine (K5.out _).mono ?_); rintro e w' ⟨rfl, rfl⟩) | ((with_reducible refine (K6.out _).mono ?_); rintro e w' ⟨rfl, rfl⟩)))
      all_goals (go_ret; exact ⟨ret_bool (by simp_all), HAL.out _⟩)
  by_cases h6 : sup = 6
  · subst h6
    simp [-List.isEmpty_iff] at hR
    cases S
    · skip
      subst hR
      go_wp2_with (first
        | (go_at_call 50; first | ((with_reducible refine (K1.out _).mono ?_); rintro e w' ⟨rfl, rfl⟩) | ((with_reducible refine (K2.out _).mono ?_); rintro e w' ⟨rfl, rfl⟩) | ((with_reducible refine (K3.out _).mono ?_); rintro e w' ⟨rfl, rfl⟩))
        | (go_at_call 60; first | ((with_reducible refine (K4.out _).mono ?_); rintro e w' ⟨rfl, rfl⟩) | ((with_reducible refine (K5.out _).mono ?_); rintro e w' ⟨rfl, rfl⟩) | ((with_reducible refine (K6.out _).mono ?_); rintro e w' ⟨rfl, rfl⟩)))
      all_goals (go_ret; exact ⟨ret_bool (by simp_all), HAL.out _⟩)
    · skip
      subst hR
      go_wp2_with (first
        | (go_at_call 50; first | ((with_reducible refine (K1.out _).mono ?_); rintro e w' ⟨rfl, rfl⟩) | ((with_reducible refine (K2.out _).mono ?_); rintro e w' ⟨rfl, rfl⟩) | ((with_reducible refine (K3.out _).mono ?_); rintro e w' ⟨rfl, rfl⟩))
        | (go_at_call 60; first | ((with_reducible refine (K4.out _).mono ?_); rintro e w' ⟨rfl, rfl⟩) | ((with_reducible refine (K5.out _).mono ?_); rintro e w' ⟨rfl, rfl⟩) | ((with_reducible refine (K6.out _).mono ?_); rintro e w' ⟨rfl, rfl⟩)))
      all_goals (go_ret; exact ⟨ret_bool (by simp_all), HAL.out _⟩)
  rw [if_neg h7, if_neg h1, if_neg (by omega), if_neg (by omega)] at hR
  have f7 : (sup == 7) = false := by rw [beq_eq_false_iff_ne]; exact h7
  have f1 : (sup == 1) = false := by rw [beq_eq_false_iff_ne]; exact h1
  have f3 : (sup == 3) = false := by rw [beq_eq_false_iff_ne]; exact h3
  have f4 : (sup == 4) = false := by rw [beq_eq_false_iff_ne]; exact h4
  have f5 : (sup == 5) = false := by rw [beq_eq_false_iff_ne]; exact h5
  have f2 : (sup == 2) = false := by rw [beq_eq_false_iff_ne]; exact h2
  have f6 : (sup == 6) = false := by rw [beq_eq_false_iff_ne]; exact h6
  clear h7 h1 h3 h4 h5 h2 h6
  subst hR
  go_wp2_with (first
    | (go_at_call 50; first | ((with_reducible refine (K1.out _).mono ?_); rintro e w' ⟨rfl, rfl⟩) | ((with_reducible refine (K2.out _).mono ?_); rintro e w' ⟨rfl, rfl⟩) | ((with_reducible refine (K3.out _).mono ?_); rintro e w' ⟨rfl, rfl⟩))
    | (go_at_call 60; first | ((with_reducible refine (K4.out _).mono ?_); rintro e w' ⟨rfl, rfl⟩) | ((with_reducible refine (K5.out _).mono ?_); rintro e w' ⟨rfl, rfl⟩) | ((with_reducible refine (K6.out _).mono ?_); rintro e w' ⟨rfl, rfl⟩)))
  all_goals (go_ret; exact ⟨ret_bool (by simp_all), HAL.out _⟩)
set_option maxRecDepth 100000 in
set_option maxHeartbeats 4000000 in
theorem rgoodline_any (o : Ln) (sale : Bool) (w : World) : Calls Try.prog 30 #[.agg o.vs, .bool sale] w fun e w' => e = .returned (.bool (goodLineB o sale)) ∧ Below w.heap.size w w' := by
  obtain ⟨sup, cat, fr, tw, pl, am, gr, co, mx⟩ := o
  have HAL := Lib.hid (fun o => (Below.refl w.heap.size w).alloc (Nat.le_refl _) o)
  unfold goodLineB
  simp only [Ln.vs]
  have k1 := fun W => rin_any cat 1 5 W
  have k2 := fun W => rin_any am 0 1099511627776 W
  have k3 := fun W => rin_any co 0 1099511627776 W
  have k4 := fun W => rcountry_any fr W
  have k5 := fun W => rcountry_any tw W
  have k6 := fun W => rcountry_any pl W
  have k7 := fun W => rin_any sup 1 7 W
  generalize inB cat 1 5 = b1 at *
  generalize inB am 0 1099511627776 = b2 at *
  generalize inB co 0 1099511627776 = b3 at *
  generalize countryL fr.data.toList = b4 at *
  generalize countryL tw.data.toList = b5 at *
  generalize countryL pl.data.toList = b6 at *
  generalize hR : (if sup = 7 then b4 && b5 && pl.toList.isEmpty && gr else if sup = 1 then b4 && b5 && pl.toList.isEmpty && (co == 0) else if sup = 3 ∨ sup = 4 ∨ sup = 5 then fr.toList.isEmpty && tw.toList.isEmpty && (co == 0) && b6 else if sup = 2 ∨ sup = 6 then fr.toList.isEmpty && tw.toList.isEmpty && (co == 0) && pl.toList.isEmpty else false) = R at *
  have hsup : inB sup 1 7 = false → R = false := by
    intro h
    rw [← hR]
    simp only [inB, Bool.and_eq_false_iff, decide_eq_false_iff_not] at h
    rw [if_neg (by omega), if_neg (by omega), if_neg (by omega), if_neg (by omega)]
  have hsup2 : inB sup 1 7 = true → 1 ≤ sup ∧ sup ≤ 7 := fun h => (inB_iff _ _ _).1 h
  generalize inB sup 1 7 = b7 at *
  have HS := Lib.hid hsup
  have HS2 := Lib.hid hsup2
  clear hsup hsup2
  generalize hG : ((b1 && b2 && b3 && !(sale && mx)) && R) = G at *
  have HG := Lib.hid hG
  have HR := Lib.hid hR
  have K1 := Lib.hid k1
  have K2 := Lib.hid k2
  have K3 := Lib.hid k3
  have K4 := Lib.hid k4
  have K5 := Lib.hid k5
  have K6 := Lib.hid k6
  have K7 := Lib.hid k7
  clear hG hR k1 k2 k3 k4 k5 k6 k7
  go_enter Try.func30, Try.ntmps30
  go_upto_region 1 with fail
  cases b7
  · skip
    have hG := HG.out
    rw [HS.out rfl, Bool.and_false] at hG
    subst hG
    go_wp2_with (first
      | (go_at_call 40; first | ((with_reducible refine (K7.out _).mono ?_); rintro e w' ⟨rfl, rfl⟩) | ((with_reducible refine (K1.out _).mono ?_); rintro e w' ⟨rfl, rfl⟩) | ((with_reducible refine (K2.out _).mono ?_); rintro e w' ⟨rfl, rfl⟩) | ((with_reducible refine (K3.out _).mono ?_); rintro e w' ⟨rfl, rfl⟩))
      | (go_at_call 41; first | ((with_reducible refine (K4.out _).mono ?_); rintro e w' ⟨rfl, rfl⟩) | ((with_reducible refine (K5.out _).mono ?_); rintro e w' ⟨rfl, rfl⟩) | ((with_reducible refine (K6.out _).mono ?_); rintro e w' ⟨rfl, rfl⟩)))
    go_ret
    exact ⟨rfl, HAL.out _⟩
  cases b1
  · skip
    have hG := HG.out
    simp only [Bool.false_and] at hG
    subst hG
    go_wp2_with (first
      | (go_at_call 40; first | ((with_reducible refine (K7.out _).mono ?_); rintro e w' ⟨rfl, rfl⟩) | ((with_reducible refine (K1.out _).mono ?_); rintro e w' ⟨rfl, rfl⟩) | ((with_reducible refine (K2.out _).mono ?_); rintro e w' ⟨rfl, rfl⟩) | ((with_reducible refine (K3.out _).mono ?_); rintro e w' ⟨rfl, rfl⟩))
      | (go_at_call 41; first | ((with_reducible refine (K4.out _).mono ?_); rintro e w' ⟨rfl, rfl⟩) | ((with_reducible refine (K5.out _).mono ?_); rintro e w' ⟨rfl, rfl⟩) | ((with_reducible refine (K6.out _).mono ?_); rintro e w' ⟨rfl, rfl⟩)))
    go_ret
    exact ⟨rfl, HAL.out _⟩
  cases b2
  · skip
    have hG := HG.out
    simp only [Bool.false_and, Bool.and_false] at hG
    subst hG
    go_wp2_with (first
      | (go_at_call 40; first | ((with_reducible refine (K7.out _).mono ?_); rintro e w' ⟨rfl, rfl⟩) | ((with_reducible refine (K1.out _).mono ?_); rintro e w' ⟨rfl, rfl⟩) | ((with_reducible refine (K2.out _).mono ?_); rintro e w' ⟨rfl, rfl⟩) | ((with_reducible refine (K3.out _).mono ?_); rintro e w' ⟨rfl, rfl⟩))
      | (go_at_call 41; first | ((with_reducible refine (K4.out _).mono ?_); rintro e w' ⟨rfl, rfl⟩) | ((with_reducible refine (K5.out _).mono ?_); rintro e w' ⟨rfl, rfl⟩) | ((with_reducible refine (K6.out _).mono ?_); rintro e w' ⟨rfl, rfl⟩)))
    go_ret
    exact ⟨rfl, HAL.out _⟩
  cases b3
  · skip
    have hG := HG.out
    simp only [Bool.false_and, Bool.and_false] at hG
    subst hG
    go_wp2_with (first
      | (go_at_call 40; first | ((with_reducible refine (K7.out _).mono ?_); rintro e w' ⟨rfl, rfl⟩) | ((with_reducible refine (K1.out _).mono ?_); rintro e w' ⟨rfl, rfl⟩) | ((with_reducible refine (K2.out _).mono ?_); rintro e w' ⟨rfl, rfl⟩) | ((with_reducible refine (K3.out _).mono ?_); rintro e w' ⟨rfl, rfl⟩))
      | (go_at_call 41; first | ((with_reducible refine (K4.out _).mono ?_); rintro e w' ⟨rfl, rfl⟩) | ((with_reducible refine (K5.out _).mono ?_); rintro e w' ⟨rfl, rfl⟩) | ((with_reducible refine (K6.out _).mono ?_); rintro e w' ⟨rfl, rfl⟩)))
    go_ret
    exact ⟨rfl, HAL.out _⟩
  by_cases hsm : sale = true ∧ mx = true
  · obtain ⟨rfl, rfl⟩ := hsm
    have hG := HG.out
    simp only [Bool.and_self, Bool.not_true, Bool.and_false, Bool.false_and] at hG
    subst hG
    go_wp2_with (first
      | (go_at_call 40; first | ((with_reducible refine (K7.out _).mono ?_); rintro e w' ⟨rfl, rfl⟩) | ((with_reducible refine (K1.out _).mono ?_); rintro e w' ⟨rfl, rfl⟩) | ((with_reducible refine (K2.out _).mono ?_); rintro e w' ⟨rfl, rfl⟩) | ((with_reducible refine (K3.out _).mono ?_); rintro e w' ⟨rfl, rfl⟩))
      | (go_at_call 41; first | ((with_reducible refine (K4.out _).mono ?_); rintro e w' ⟨rfl, rfl⟩) | ((with_reducible refine (K5.out _).mono ?_); rintro e w' ⟨rfl, rfl⟩) | ((with_reducible refine (K6.out _).mono ?_); rintro e w' ⟨rfl, rfl⟩)))
    go_ret
    exact ⟨rfl, HAL.out _⟩
  have hsm2 : (sale && mx) = false := by
    cases sale
    · rfl
    · cases mx
      · rfl
      · exact absurd ⟨rfl, rfl⟩ hsm
  have HSM := Lib.hid hsm2
  have hG := HG.out
  rw [hsm2, Bool.not_false, Bool.and_true, Bool.and_self, Bool.and_self, Bool.true_and] at hG
  subst hG
  clear hsm hsm2 HG
  go_cut [33] from 5 (fun xs wx => xs = .bool false ∧ wx = w.alloc (.cells #[.int .i64 sup, .int .i64 cat, .string fr, .string tw, .string pl, .int .i64 am, .bool gr, .int .i64 co, .bool mx] 55))
  case first =>
    have hsm := HSM.out
    cases sale
    · skip
      clear hsm
      go_wp2_with (first
        | (go_at_call 40; first | ((with_reducible refine (K7.out _).mono ?_); rintro e w' ⟨rfl, rfl⟩) | ((with_reducible refine (K1.out _).mono ?_); rintro e w' ⟨rfl, rfl⟩) | ((with_reducible refine (K2.out _).mono ?_); rintro e w' ⟨rfl, rfl⟩) | ((with_reducible refine (K3.out _).mono ?_); rintro e w' ⟨rfl, rfl⟩))
        | (go_at_call 41; first | ((with_reducible refine (K4.out _).mono ?_); rintro e w' ⟨rfl, rfl⟩) | ((with_reducible refine (K5.out _).mono ?_); rintro e w' ⟨rfl, rfl⟩) | ((with_reducible refine (K6.out _).mono ?_); rintro e w' ⟨rfl, rfl⟩)))
      go_meet
      exact ⟨rfl, rfl⟩
    · obtain rfl : mx = false := by simpa using hsm
      clear hsm
      go_wp2_with (first
        | (go_at_call 40; first | ((with_reducible refine (K7.out _).mono ?_); rintro e w' ⟨rfl, rfl⟩) | ((with_reducible refine (K1.out _).mono ?_); rintro e w' ⟨rfl, rfl⟩) | ((with_reducible refine (K2.out _).mono ?_); rintro e w' ⟨rfl, rfl⟩) | ((with_reducible refine (K3.out _).mono ?_); rintro e w' ⟨rfl, rfl⟩))
        | (go_at_call 41; first | ((with_reducible refine (K4.out _).mono ?_); rintro e w' ⟨rfl, rfl⟩) | ((with_reducible refine (K5.out _).mono ?_); rintro e w' ⟨rfl, rfl⟩) | ((with_reducible refine (K6.out _).mono ?_); rintro e w' ⟨rfl, rfl⟩)))
      go_meet
      exact ⟨rfl, rfl⟩
  case rest =>
  obtain ⟨rfl, rfl⟩ := hcut
  have hR := HR.out
  have hsr := HS2.out rfl
  have HSR := Lib.hid hsr
  clear HR HS HS2 hsr HSM
  go_upto_region 3 with fail
  by_cases h7 : sup = 7
  · subst h7
    clear HSR
    simp [-List.isEmpty_iff] at hR
    cases b4
    · skip
      cases b5
      · skip
        subst hR
        go_wp2_with (first
          | (go_at_call 40; first | ((with_reducible refine (K7.out _).mono ?_); rintro e w' ⟨rfl, rfl⟩) | ((with_reducible refine (K1.out _).mono ?_); rintro e w' ⟨rfl, rfl⟩) | ((with_reducible refine (K2.out _).mono ?_); rintro e w' ⟨rfl, rfl⟩) | ((with_reducible refine (K3.out _).mono ?_); rintro e w' ⟨rfl, rfl⟩))
          | (go_at_call 41; first | ((with_reducible refine (K4.out _).mono ?_); rintro e w' ⟨rfl, rfl⟩) | ((with_reducible refine (K5.out _).mono ?_); rintro e w' ⟨rfl, rfl⟩) | ((with_reducible refine (K6.out _).mono ?_); rintro e w' ⟨rfl, rfl⟩)))
        all_goals (go_ret; exact ⟨ret_bool (by simp_all), HAL.out _⟩)
      · skip
        subst hR
        go_wp2_with (first
          | (go_at_call 40; first | ((with_reducible refine (K7.out _).mono ?_); rintro e w' ⟨rfl, rfl⟩) | ((with_reducible refine (K1.out _).mono ?_); rintro e w' ⟨rfl, rfl⟩) | ((with_reducible refine (K2.out _).mono ?_); rintro e w' ⟨rfl, rfl⟩) | ((with_reducible refine (K3.out _).mono ?_); rintro e w' ⟨rfl, rfl⟩))
          | (go_at_call 41; first | ((with_reducible refine (K4.out _).mono ?_); rintro e w' ⟨rfl, rfl⟩) | ((with_reducible refine (K5.out _).mono ?_); rintro e w' ⟨rfl, rfl⟩) | ((with_reducible refine (K6.out _).mono ?_); rintro e w' ⟨rfl, rfl⟩)))
        all_goals (go_ret; exact ⟨ret_bool (by simp_all), HAL.out _⟩)
    · skip
      cases b5
      · skip
        subst hR
        go_wp2_with (first
          | (go_at_call 40; first | ((with_reducible refine (K7.out _).mono ?_); rintro e w' ⟨rfl, rfl⟩) | ((with_reducible refine (K1.out _).mono ?_); rintro e w' ⟨rfl, rfl⟩) | ((with_reducible refine (K2.out _).mono ?_); rintro e w' ⟨rfl, rfl⟩) | ((with_reducible refine (K3.out _).mono ?_); rintro e w' ⟨rfl, rfl⟩))
          | (go_at_call 41; first | ((with_reducible refine (K4.out _).mono ?_); rintro e w' ⟨rfl, rfl⟩) | ((with_reducible refine (K5.out _).mono ?_); rintro e w' ⟨rfl, rfl⟩) | ((with_reducible refine (K6.out _).mono ?_); rintro e w' ⟨rfl, rfl⟩)))
        all_goals (go_ret; exact ⟨ret_bool (by simp_all), HAL.out _⟩)
      · skip
        subst hR
        go_wp2_with (first
          | (go_at_call 40; first | ((with_reducible refine (K7.out _).mono ?_); rintro e w' ⟨rfl, rfl⟩) | ((with_reducible refine (K1.out _).mono ?_); rintro e w' ⟨rfl, rfl⟩) | ((with_reducible refine (K2.out _).mono ?_); rintro e w' ⟨rfl, rfl⟩) | ((with_reducible refine (K3.out _).mono ?_); rintro e w' ⟨rfl, rfl⟩))
          | (go_at_call 41; first | ((with_reducible refine (K4.out _).mono ?_); rintro e w' ⟨rfl, rfl⟩) | ((with_reducible refine (K5.out _).mono ?_); rintro e w' ⟨rfl, rfl⟩) | ((with_reducible refine (K6.out _).mono ?_); rintro e w' ⟨rfl, rfl⟩)))
        all_goals (go_ret; exact ⟨ret_bool (by simp_all), HAL.out _⟩)
  by_cases h1 : sup = 1
  · subst h1
    clear HSR
    simp [-List.isEmpty_iff] at hR
    cases b4
    · skip
      cases b5
      · skip
        subst hR
        go_wp2_with (first
          | (go_at_call 40; first | ((with_reducible refine (K7.out _).mono ?_); rintro e w' ⟨rfl, rfl⟩) | ((with_reducible refine (K1.out _).mono ?_); rintro e w' ⟨rfl, rfl⟩) | ((with_reducible refine (K2.out _).mono ?_); rintro e w' ⟨rfl, rfl⟩) | ((with_reducible refine (K3.out _).mono ?_); rintro e w' ⟨rfl, rfl⟩))
          | (go_at_call 41; first | ((with_reducible refine (K4.out _).mono ?_); rintro e w' ⟨rfl, rfl⟩) | ((with_reducible refine (K5.out _).mono ?_); rintro e w' ⟨rfl, rfl⟩) | ((with_reducible refine (K6.out _).mono ?_); rintro e w' ⟨rfl, rfl⟩)))
        all_goals (go_ret; exact ⟨ret_bool (by simp_all), HAL.out _⟩)
      · skip
        subst hR
        go_wp2_with (first
          | (go_at_call 40; first | ((with_reducible refine (K7.out _).mono ?_); rintro e w' ⟨rfl, rfl⟩) | ((with_reducible refine (K1.out _).mono ?_); rintro e w' ⟨rfl, rfl⟩) | ((with_reducible refine (K2.out _).mono ?_); rintro e w' ⟨rfl, rfl⟩) | ((with_reducible refine (K3.out _).mono ?_); rintro e w' ⟨rfl, rfl⟩))
          | (go_at_call 41; first | ((with_reducible refine (K4.out _).mono ?_); rintro e w' ⟨rfl, rfl⟩) | ((with_reducible refine (K5.out _).mono ?_); rintro e w' ⟨rfl, rfl⟩) | ((with_reducible refine (K6.out _).mono ?_); rintro e w' ⟨rfl, rfl⟩)))
        all_goals (go_ret; exact ⟨ret_bool (by simp_all), HAL.out _⟩)
    · skip
      cases b5
      · skip
        subst hR
        go_wp2_with (first
          | (go_at_call 40; first | ((with_reducible refine (K7.out _).mono ?_); rintro e w' ⟨rfl, rfl⟩) | ((with_reducible refine (K1.out _).mono ?_); rintro e w' ⟨rfl, rfl⟩) | ((with_reducible refine (K2.out _).mono ?_); rintro e w' ⟨rfl, rfl⟩) | ((with_reducible refine (K3.out _).mono ?_); rintro e w' ⟨rfl, rfl⟩))
          | (go_at_call 41; first | ((with_reducible refine (K4.out _).mono ?_); rintro e w' ⟨rfl, rfl⟩) | ((with_reducible refine (K5.out _).mono ?_); rintro e w' ⟨rfl, rfl⟩) | ((with_reducible refine (K6.out _).mono ?_); rintro e w' ⟨rfl, rfl⟩)))
        all_goals (go_ret; exact ⟨ret_bool (by simp_all), HAL.out _⟩)
      · skip
        subst hR
        go_wp2_with (first
          | (go_at_call 40; first | ((with_reducible refine (K7.out _).mono ?_); rintro e w' ⟨rfl, rfl⟩) | ((with_reducible refine (K1.out _).mono ?_); rintro e w' ⟨rfl, rfl⟩) | ((with_reducible refine (K2.out _).mono ?_); rintro e w' ⟨rfl, rfl⟩) | ((with_reducible refine (K3.out _).mono ?_); rintro e w' ⟨rfl, rfl⟩))
          | (go_at_call 41; first | ((with_reducible refine (K4.out _).mono ?_); rintro e w' ⟨rfl, rfl⟩) | ((with_reducible refine (K5.out _).mono ?_); rintro e w' ⟨rfl, rfl⟩) | ((with_reducible refine (K6.out _).mono ?_); rintro e w' ⟨rfl, rfl⟩)))
        all_goals (go_ret; exact ⟨ret_bool (by simp_all), HAL.out _⟩)
  by_cases h3 : sup = 3
  · subst h3
    clear HSR
    simp [-List.isEmpty_iff] at hR
    cases b6
    · skip
      subst hR
      go_wp2_with (first
        | (go_at_call 40; first | ((with_reducible refine (K7.out _).mono ?_); rintro e w' ⟨rfl, rfl⟩) | ((with_reducible refine (K1.out _).mono ?_); rintro e w' ⟨rfl, rfl⟩) | ((with_reducible refine (K2.out _).mono ?_); rintro e w' ⟨rfl, rfl⟩) | ((with_reducible refine (K3.out _).mono ?_); rintro e w' ⟨rfl, rfl⟩))
        | (go_at_call 41; first | ((with_reducible refine (K4.out _).mono ?_); rintro e w' ⟨rfl, rfl⟩) | ((with_reducible refine (K5.out _).mono ?_); rintro e w' ⟨rfl, rfl⟩) | ((with_reducible refine (K6.out _).mono ?_); rintro e w' ⟨rfl, rfl⟩)))
      all_goals (go_ret; exact ⟨ret_bool (by simp_all), HAL.out _⟩)
    · skip
      subst hR
      go_wp2_with (first
        | (go_at_call 40; first | ((with_reducible refine (K7.out _).mono ?_); rintro e w' ⟨rfl, rfl⟩) | ((with_reducible refine (K1.out _).mono ?_); rintro e w' ⟨rfl, rfl⟩) | ((with_reducible refine (K2.out _).mono ?_); rintro e w' ⟨rfl, rfl⟩) | ((with_reducible refine (K3.out _).mono ?_); rintro e w' ⟨rfl, rfl⟩))
        | (go_at_call 41; first | ((with_reducible refine (K4.out _).mono ?_); rintro e w' ⟨rfl, rfl⟩) | ((with_reducible refine (K5.out _).mono ?_); rintro e w' ⟨rfl, rfl⟩) | ((with_reducible refine (K6.out _).mono ?_); rintro e w' ⟨rfl, rfl⟩)))
      all_goals (go_ret; exact ⟨ret_bool (by simp_all), HAL.out _⟩)
  by_cases h4 : sup = 4
  · subst h4
    clear HSR
    simp [-List.isEmpty_iff] at hR
    cases b6
    · skip
      subst hR
      go_wp2_with (first
        | (go_at_call 40; first | ((with_reducible refine (K7.out _).mono ?_); rintro e w' ⟨rfl, rfl⟩) | ((with_reducible refine (K1.out _).mono ?_); rintro e w' ⟨rfl, rfl⟩) | ((with_reducible refine (K2.out _).mono ?_); rintro e w' ⟨rfl, rfl⟩) | ((with_reducible refine (K3.out _).mono ?_); rintro e w' ⟨rfl, rfl⟩))
        | (go_at_call 41; first | ((with_reducible refine (K4.out _).mono ?_); rintro e w' ⟨rfl, rfl⟩) | ((with_reducible refine (K5.out _).mono ?_); rintro e w' ⟨rfl, rfl⟩) | ((with_reducible refine (K6.out _).mono ?_); rintro e w' ⟨rfl, rfl⟩)))
      all_goals (go_ret; exact ⟨ret_bool (by simp_all), HAL.out _⟩)
    · skip
      subst hR
      go_wp2_with (first
        | (go_at_call 40; first | ((with_reducible refine (K7.out _).mono ?_); rintro e w' ⟨rfl, rfl⟩) | ((with_reducible refine (K1.out _).mono ?_); rintro e w' ⟨rfl, rfl⟩) | ((with_reducible refine (K2.out _).mono ?_); rintro e w' ⟨rfl, rfl⟩) | ((with_reducible refine (K3.out _).mono ?_); rintro e w' ⟨rfl, rfl⟩))
        | (go_at_call 41; first | ((with_reducible refine (K4.out _).mono ?_); rintro e w' ⟨rfl, rfl⟩) | ((with_reducible refine (K5.out _).mono ?_); rintro e w' ⟨rfl, rfl⟩) | ((with_reducible refine (K6.out _).mono ?_); rintro e w' ⟨rfl, rfl⟩)))
      all_goals (go_ret; exact ⟨ret_bool (by simp_all), HAL.out _⟩)
  by_cases h5 : sup = 5
  · subst h5
    clear HSR
    simp [-List.isEmpty_iff] at hR
    cases b6
    · skip
      subst hR
      go_wp2_with (first
        | (go_at_call 40; first | ((with_reducible refine (K7.out _).mono ?_); rintro e w' ⟨rfl, rfl⟩) | ((with_reducible refine (K1.out _).mono ?_); rintro e w' ⟨rfl, rfl⟩) | ((with_reducible refine (K2.out _).mono ?_); rintro e w' ⟨rfl, rfl⟩) | ((with_reducible refine (K3.out _).mono ?_); rintro e w' ⟨rfl, rfl⟩))
        | (go_at_call 41; first | ((with_reducible refine (K4.out _).mono ?_); rintro e w' ⟨rfl, rfl⟩) | ((with_reducible refine (K5.out _).mono ?_); rintro e w' ⟨rfl, rfl⟩) | ((with_reducible refine (K6.out _).mono ?_); rintro e w' ⟨rfl, rfl⟩)))
      all_goals (go_ret; exact ⟨ret_bool (by simp_all), HAL.out _⟩)
    · skip
      subst hR
      go_wp2_with (first
        | (go_at_call 40; first | ((with_reducible refine (K7.out _).mono ?_); rintro e w' ⟨rfl, rfl⟩) | ((with_reducible refine (K1.out _).mono ?_); rintro e w' ⟨rfl, rfl⟩) | ((with_reducible refine (K2.out _).mono ?_); rintro e w' ⟨rfl, rfl⟩) | ((with_reducible refine (K3.out _).mono ?_); rintro e w' ⟨rfl, rfl⟩))
        | (go_at_call 41; first | ((with_reducible refine (K4.out _).mono ?_); rintro e w' ⟨rfl, rfl⟩) | ((with_reducible refine (K5.out _).mono ?_); rintro e w' ⟨rfl, rfl⟩) | ((with_reducible refine (K6.out _).mono ?_); rintro e w' ⟨rfl, rfl⟩)))
      all_goals (go_ret; exact ⟨ret_bool (by simp_all), HAL.out _⟩)
  by_cases h2 : sup = 2
  · subst h2
    clear HSR
    simp [-List.isEmpty_iff] at hR
    subst hR
    go_wp2_with (first
      | (go_at_call 40; first | ((with_reducible refine (K7.out _).mono ?_); rintro e w' ⟨rfl, rfl⟩) | ((with_reducible refine (K1.out _).mono ?_); rintro e w' ⟨rfl, rfl⟩) | ((with_reducible refine (K2.out _).mono ?_); rintro e w' ⟨rfl, rfl⟩) | ((with_reducible refine (K3.out _).mono ?_); rintro e w' ⟨rfl, rfl⟩))
      | (go_at_call 41; first | ((with_reducible refine (K4.out _).mono ?_); rintro e w' ⟨rfl, rfl⟩) | ((with_reducible refine (K5.out _).mono ?_); rintro e w' ⟨rfl, rfl⟩) | ((with_reducible refine (K6.out _).mono ?_); rintro e w' ⟨rfl, rfl⟩)))
    all_goals (go_ret; exact ⟨ret_bool (by simp_all), HAL.out _⟩)
  by_cases h6 : sup = 6
  · subst h6
    clear HSR
    simp [-List.isEmpty_iff] at hR
    subst hR
    go_wp2_with (first
      | (go_at_call 40; first | ((with_reducible refine (K7.out _).mono ?_); rintro e w' ⟨rfl, rfl⟩) | ((with_reducible refine (K1.out _).mono ?_); rintro e w' ⟨rfl, rfl⟩) | ((with_reducible refine (K2.out _).mono ?_); rintro e w' ⟨rfl, rfl⟩) | ((with_reducible refine (K3.out _).mono ?_); rintro e w' ⟨rfl, rfl⟩))
      | (go_at_call 41; first | ((with_reducible refine (K4.out _).mono ?_); rintro e w' ⟨rfl, rfl⟩) | ((with_reducible refine (K5.out _).mono ?_); rintro e w' ⟨rfl, rfl⟩) | ((with_reducible refine (K6.out _).mono ?_); rintro e w' ⟨rfl, rfl⟩)))
    all_goals (go_ret; exact ⟨ret_bool (by simp_all), HAL.out _⟩)
  exfalso
  have := HSR.out
  omega
end Go.Proofs.Ytnfpmobmfcgfnaa
