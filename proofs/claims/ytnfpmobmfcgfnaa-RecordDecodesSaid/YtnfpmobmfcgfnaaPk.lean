/- THE WALKS OF record's within, day, currency AND octroiref08's in, Currency. -/
import Derived.Test.YtnfpmobmfcgfnaaPa
import Derived.Test.YtnfpmobmfcgfnaaPj
import Derived.Deep.DeepCutAuto
namespace Go.Proofs.Ytnfpmobmfcgfnaa
open Go.RowKit
def inB (n lo hi : Int) : Bool := decide (lo ≤ n) && decide (n ≤ hi)
theorem inB_iff (n lo hi : Int) : inB n lo hi = true ↔ lo ≤ n ∧ n ≤ hi := by simp [inB]
set_option maxRecDepth 100000 in
theorem within_any (n lo hi : Int) (w : World) : Calls Try.prog 50 #[.int .i64 n, .int .i64 lo, .int .i64 hi] w fun e w' => e = .returned (.bool (inB n lo hi)) ∧ w = w' := by
 unfold inB
 by_cases h : lo ≤ n
 ·rw [decide_eq_true h, Bool.true_and]
  go_enter Try.func50, Try.ntmps50
  go_wp2
  go_ret
  exact ⟨rfl, rfl⟩
 ·rw [decide_eq_false h, Bool.false_and]
  go_enter Try.func50, Try.ntmps50
  go_wp2
  go_ret
  exact ⟨rfl, rfl⟩
set_option maxRecDepth 100000 in
theorem rin_any (n lo hi : Int) (w : World) : Calls Try.prog 40 #[.int .i64 n, .int .i64 lo, .int .i64 hi] w fun e w' => e = .returned (.bool (inB n lo hi)) ∧ w = w' := by
 unfold inB
 by_cases h : lo ≤ n
 ·rw [decide_eq_true h, Bool.true_and]
  go_enter Try.func40, Try.ntmps40
  go_wp2
  go_ret
  exact ⟨rfl, rfl⟩
 ·rw [decide_eq_false h, Bool.false_and]
  go_enter Try.func40, Try.ntmps40
  go_wp2
  go_ret
  exact ⟨rfl, rfl⟩
set_option maxRecDepth 100000 in
theorem day_any (n : Int) (w : World) : Calls Try.prog 51 #[.int .i64 n] w fun e w' => e = .returned (.bool (inB n 0 2932896)) ∧ w = w' := by
 have h := within_any n 0 2932896 w
 go_enter Try.func51, Try.ntmps51
 go_wp2_with (go_at_call 50; (with_reducible refine h.mono ?_); rintro e w' ⟨rfl, rfl⟩)
 go_ret
 exact ⟨rfl, rfl⟩
/-- a currency: three letters -/
def curL (c : List UInt8) : Bool := decide (c.length = 3) && letB (c.getD 0 0) && letB (c.getD 1 0) && letB (c.getD 2 0)
set_option maxRecDepth 100000 in
theorem rcur_any (c : ByteArray) (w : World) : Calls Try.prog 43 #[.string c] w fun e w' => e = .returned (.bool (curL c.data.toList)) ∧ w = w' := by
 have e : c.data.toList.length = c.size := Array.length_toList
 by_cases h : c.size = 3
 ·have i0 : 0 < c.size := by omega
  have i1 : 1 < c.size := by omega
  have i2 : 2 < c.size := by omega
  have a0 := byte_at c 0 i0
  have a1 := byte_at c 1 i1
  have a2 := byte_at c 2 i2
  have hc : curL c.data.toList = (letB (c[0]'i0) && letB (c[1]'i1) && letB (c[2]'i2)) := by simp only [curL, e, h, a0, a1, a2, decide_true, Bool.true_and]
  have hz : ((c.size : Int) == 3) = true := by rw [beq_iff_eq]; omega
  rw [hc]
  clear e a0 a1 a2 hc h
  have g0 := rletter_any (c[0]'i0) w
  have g1 := rletter_any (c[1]'i1) w
  have g2 := rletter_any (c[2]'i2) w
  generalize letB (c[0]'i0) = v0 at *
  generalize letB (c[1]'i1) = v1 at *
  generalize letB (c[2]'i2) = v2 at *
  cases v0
  ·go_enter Try.func43, Try.ntmps43
   go_wp2_with (go_at_call 79; (with_reducible refine g0.mono ?_); rintro e w' ⟨rfl, rfl⟩)
   go_ret
   exact ⟨rfl, rfl⟩
  ·cases v1
   ·go_enter Try.func43, Try.ntmps43
    go_wp2_with (go_at_call 79; first | ((with_reducible refine g0.mono ?_); rintro e w' ⟨rfl, rfl⟩) | ((with_reducible refine g1.mono ?_); rintro e w' ⟨rfl, rfl⟩))
    go_ret
    exact ⟨rfl, rfl⟩
   ·go_enter Try.func43, Try.ntmps43
    go_wp2_with (go_at_call 79; first | ((with_reducible refine g0.mono ?_); rintro e w' ⟨rfl, rfl⟩) | ((with_reducible refine g1.mono ?_); rintro e w' ⟨rfl, rfl⟩) | ((with_reducible refine g2.mono ?_); rintro e w' ⟨rfl, rfl⟩))
    go_ret
    exact ⟨rfl, rfl⟩
 ·have hc : curL c.data.toList = false := by simp [curL, h]
  have hz : ((c.size : Int) == 3) = false := by rw [beq_eq_false_iff_ne]; omega
  rw [hc]
  clear e hc h
  go_enter Try.func43, Try.ntmps43
  go_wp2
  go_ret
  exact ⟨rfl, rfl⟩
theorem curL_split (c : ByteArray) (h : c.size = 3) : curL c.data.toList = (countryL (c.extract 0 2).data.toList && countryL (c.extract 1 c.size).data.toList) := by
 have e : c.data.toList.length = 3 := by rw [← h]; exact Array.length_toList
 have e1 : (c.extract 0 2).data.toList = c.data.toList.take 2 := by simp [ByteArray.data_extract, List.extract]
 have e2 : (c.extract 1 c.size).data.toList = c.data.toList.drop 1 := by
  simp only [ByteArray.data_extract, Array.toList_extract, List.extract]
  rw [List.take_of_length_le (by rw [List.length_drop, e, h]; omega)]
 rw [e1, e2]
 rcases hl : c.data.toList with _ | ⟨x, _ | ⟨y, _ | ⟨z, _ | ⟨u, r⟩⟩⟩⟩ <;> rw [hl] at e <;> simp at e
 simp [curL, countryL]
 cases letB x <;> cases letB y <;> cases letB z <;> rfl
set_option maxRecDepth 100000 in
theorem cur_any (c : ByteArray) (w : World) : Calls Try.prog 54 #[.string c] w fun e w' => e = .returned (.bool (curL c.data.toList)) ∧ w = w' := by
 have e : c.data.toList.length = c.size := Array.length_toList
 by_cases h : c.size = 3
 ·have hz : ((c.size : Int) == 3) = true := by rw [beq_iff_eq]; omega
  have j1 : (2 : Int) ≤ (c.size : Int) := by omega
  have j2 : (1 : Int) ≤ (c.size : Int) := by omega
  rw [curL_split c h]
  clear h e
  have g0 := country_any (c.extract 0 2) w
  have g1 := country_any (c.extract 1 c.size) w
  generalize countryL (c.extract 0 2).data.toList = v0 at *
  generalize countryL (c.extract 1 c.size).data.toList = v1 at *
  cases v0
  ·go_enter Try.func54, Try.ntmps54
   go_wp2_with (go_at_call 60; (with_reducible refine g0.mono ?_); rintro e w' ⟨rfl, rfl⟩)
   go_ret
   exact ⟨rfl, rfl⟩
  ·go_enter Try.func54, Try.ntmps54
   go_wp2_with (go_at_call 60; first | ((with_reducible refine g0.mono ?_); rintro e w' ⟨rfl, rfl⟩) | ((with_reducible refine g1.mono ?_); rintro e w' ⟨rfl, rfl⟩))
   go_ret
   exact ⟨rfl, rfl⟩
 ·have hc : curL c.data.toList = false := by simp [curL, h]
  have hz : ((c.size : Int) == 3) = false := by rw [beq_eq_false_iff_ne]; omega
  rw [hc]
  clear e hc h
  go_enter Try.func54, Try.ntmps54
  go_wp2
  go_ret
  exact ⟨rfl, rfl⟩
end Go.Proofs.Ytnfpmobmfcgfnaa

/- THE WALKS OF record.GoodLine AND octroiref08.GoodLine (printed by gen/genglb.py). -/
namespace Go.Proofs.Ytnfpmobmfcgfnaa
open Go.RowKit
def goodLineB (o : Ln) (sale : Bool) : Bool :=
  (inB o.cat 1 5 && inB o.am 0 1099511627776 && inB o.co 0 1099511627776 && !(sale && o.mx)) &&
  (if o.sup = 7 then countryL o.fr.data.toList && countryL o.tw.data.toList && o.pl.toList.isEmpty && o.gr
   else if o.sup = 1 then countryL o.fr.data.toList && countryL o.tw.data.toList && o.pl.toList.isEmpty && (o.co == 0)
   else if o.sup = 3 ∨ o.sup = 4 ∨ o.sup = 5 then o.fr.toList.isEmpty && o.tw.toList.isEmpty && (o.co == 0) && countryL o.pl.data.toList
   else if o.sup = 2 ∨ o.sup = 6 then o.fr.toList.isEmpty && o.tw.toList.isEmpty && (o.co == 0) && o.pl.toList.isEmpty
   else false)
set_option maxRecDepth 100000 in
set_option maxHeartbeats 4000000 in
theorem goodline_any (o : Ln) (sale : Bool) (w : World) : Calls Try.prog 29 #[.agg o.vs, .bool sale] w fun e w' => e = .returned (.bool (goodLineB o sale)) ∧ Below w.heap.size w w' := by
 obtain ⟨sup, cat, fr, tw, pl, am, gr, co, mx⟩ := o
 have HAL := Lib.hid (fun o => (Below.refl w.heap.size w).alloc (Nat.le_refl _) o)
 unfold goodLineB
 simp only [Ln.vs]
 have k1 := fun W => within_any cat 1 5 W
 have k2 := fun W => within_any am 0 1099511627776 W
 have k3 := fun W => within_any co 0 1099511627776 W
 have k4 := fun W => country_any fr W
 have k5 := fun W => country_any tw W
 have k6 := fun W => country_any pl W
 generalize inB cat 1 5 = b1 at *
 generalize inB am 0 1099511627776 = b2 at *
 generalize inB co 0 1099511627776 = b3 at *
 generalize countryL fr.data.toList = b4 at *
 generalize countryL tw.data.toList = b5 at *
 generalize countryL pl.data.toList = b6 at *
 generalize hR : (if sup = 7 then b4 && b5 && pl.toList.isEmpty && gr else if sup = 1 then b4 && b5 && pl.toList.isEmpty && (co == 0) else if sup = 3 ∨ sup = 4 ∨ sup = 5 then fr.toList.isEmpty && tw.toList.isEmpty && (co == 0) && b6 else if sup = 2 ∨ sup = 6 then fr.toList.isEmpty && tw.toList.isEmpty && (co == 0) && pl.toList.isEmpty else false) = R at *
 generalize hG : ((b1 && b2 && b3 && !(sale && mx)) && R) = G at *
 have HG := Lib.hid hG
 have HR := Lib.hid hR
 have K1 := Lib.hid k1
 have K2 := Lib.hid k2
 have K3 := Lib.hid k3
 have K4 := Lib.hid k4
 have K5 := Lib.hid k5
 have K6 := Lib.hid k6
 clear hG hR k1 k2 k3 k4 k5 k6
 go_enter Try.func29, Try.ntmps29
 go_upto_region 1 with fail
 cases b1
 ·skip
  have hG := HG.out
  simp only [Bool.false_and] at hG
  subst hG
  go_wp2_with (first
   | (go_at_call 50; first | ((with_reducible refine (K1.out _).mono ?_); rintro e w' ⟨rfl, rfl⟩) | ((with_reducible refine (K2.out _).mono ?_); rintro e w' ⟨rfl, rfl⟩) | ((with_reducible refine (K3.out _).mono ?_); rintro e w' ⟨rfl, rfl⟩))
   | (go_at_call 60; first | ((with_reducible refine (K4.out _).mono ?_); rintro e w' ⟨rfl, rfl⟩) | ((with_reducible refine (K5.out _).mono ?_); rintro e w' ⟨rfl, rfl⟩) | ((with_reducible refine (K6.out _).mono ?_); rintro e w' ⟨rfl, rfl⟩)))
  go_ret
  exact ⟨rfl, HAL.out _⟩
 cases b2
 ·skip
  have hG := HG.out
  simp only [Bool.false_and, Bool.and_false] at hG
  subst hG
  go_wp2_with (first
   | (go_at_call 50; first | ((with_reducible refine (K1.out _).mono ?_); rintro e w' ⟨rfl, rfl⟩) | ((with_reducible refine (K2.out _).mono ?_); rintro e w' ⟨rfl, rfl⟩) | ((with_reducible refine (K3.out _).mono ?_); rintro e w' ⟨rfl, rfl⟩))
   | (go_at_call 60; first | ((with_reducible refine (K4.out _).mono ?_); rintro e w' ⟨rfl, rfl⟩) | ((with_reducible refine (K5.out _).mono ?_); rintro e w' ⟨rfl, rfl⟩) | ((with_reducible refine (K6.out _).mono ?_); rintro e w' ⟨rfl, rfl⟩)))
  go_ret
  exact ⟨rfl, HAL.out _⟩
 cases b3
 ·skip
  have hG := HG.out
  simp only [Bool.false_and, Bool.and_false] at hG
  subst hG
  go_wp2_with (first
   | (go_at_call 50; first | ((with_reducible refine (K1.out _).mono ?_); rintro e w' ⟨rfl, rfl⟩) | ((with_reducible refine (K2.out _).mono ?_); rintro e w' ⟨rfl, rfl⟩) | ((with_reducible refine (K3.out _).mono ?_); rintro e w' ⟨rfl, rfl⟩))
   | (go_at_call 60; first | ((with_reducible refine (K4.out _).mono ?_); rintro e w' ⟨rfl, rfl⟩) | ((with_reducible refine (K5.out _).mono ?_); rintro e w' ⟨rfl, rfl⟩) | ((with_reducible refine (K6.out _).mono ?_); rintro e w' ⟨rfl, rfl⟩)))
  go_ret
  exact ⟨rfl, HAL.out _⟩
 by_cases hsm : sale = true ∧ mx = true
 ·obtain ⟨rfl, rfl⟩ := hsm
  have hG := HG.out
  simp only [Bool.and_self, Bool.not_true, Bool.and_false, Bool.false_and] at hG
  subst hG
  go_wp2_with (first
   | (go_at_call 50; first | ((with_reducible refine (K1.out _).mono ?_); rintro e w' ⟨rfl, rfl⟩) | ((with_reducible refine (K2.out _).mono ?_); rintro e w' ⟨rfl, rfl⟩) | ((with_reducible refine (K3.out _).mono ?_); rintro e w' ⟨rfl, rfl⟩))
   | (go_at_call 60; first | ((with_reducible refine (K4.out _).mono ?_); rintro e w' ⟨rfl, rfl⟩) | ((with_reducible refine (K5.out _).mono ?_); rintro e w' ⟨rfl, rfl⟩) | ((with_reducible refine (K6.out _).mono ?_); rintro e w' ⟨rfl, rfl⟩)))
  go_ret
  exact ⟨rfl, HAL.out _⟩
 have hsm2 : (sale && mx) = false := by
  cases sale
  ·rfl
  ·cases mx
   ·rfl
   ·exact absurd ⟨rfl, rfl⟩ hsm
 have HSM := Lib.hid hsm2
 have hG := HG.out
 rw [hsm2, Bool.not_false, Bool.and_true, Bool.and_self, Bool.and_self, Bool.true_and] at hG
 subst hG
 clear hsm hsm2 HG
 go_cut [29] from 5 (fun xs wx => xs = .bool false ∧ wx = w.alloc (.cells #[.int .i64 sup, .int .i64 cat, .string fr, .string tw, .string pl, .int .i64 am, .bool gr, .int .i64 co, .bool mx] 55))
 case first =>
  have hsm := HSM.out
  cases sale
  ·skip
   clear hsm
   go_wp2_with (first
    | (go_at_call 50; first | ((with_reducible refine (K1.out _).mono ?_); rintro e w' ⟨rfl, rfl⟩) | ((with_reducible refine (K2.out _).mono ?_); rintro e w' ⟨rfl, rfl⟩) | ((with_reducible refine (K3.out _).mono ?_); rintro e w' ⟨rfl, rfl⟩))
    | (go_at_call 60; first | ((with_reducible refine (K4.out _).mono ?_); rintro e w' ⟨rfl, rfl⟩) | ((with_reducible refine (K5.out _).mono ?_); rintro e w' ⟨rfl, rfl⟩) | ((with_reducible refine (K6.out _).mono ?_); rintro e w' ⟨rfl, rfl⟩)))
   go_meet
   exact ⟨rfl, rfl⟩
  ·obtain rfl : mx = false := by simpa using hsm
   clear hsm
   go_wp2_with (first
    | (go_at_call 50; first | ((with_reducible refine (K1.out _).mono ?_); rintro e w' ⟨rfl, rfl⟩) | ((with_reducible refine (K2.out _).mono ?_); rintro e w' ⟨rfl, rfl⟩) | ((with_reducible refine (K3.out _).mono ?_); rintro e w' ⟨rfl, rfl⟩))
    | (go_at_call 60; first | ((with_reducible refine (K4.out _).mono ?_); rintro e w' ⟨rfl, rfl⟩) | ((with_reducible refine (K5.out _).mono ?_); rintro e w' ⟨rfl, rfl⟩) | ((with_reducible refine (K6.out _).mono ?_); rintro e w' ⟨rfl, rfl⟩)))
   go_meet
   exact ⟨rfl, rfl⟩
 case rest =>
 obtain ⟨rfl, rfl⟩ := hcut
 go_upto_region 3 with fail
 go_cut [5] from 30 (fun x5 wx => x5 = .bool (b4 && b5 && pl.toList.isEmpty) ∧ wx = w.alloc (.cells #[.int .i64 sup, .int .i64 cat, .string fr, .string tw, .string pl, .int .i64 am, .bool gr, .int .i64 co, .bool mx] 55))
 case first =>
  cases b4
  ·skip
   go_wp2_with (first
    | (go_at_call 50; first | ((with_reducible refine (K1.out _).mono ?_); rintro e w' ⟨rfl, rfl⟩) | ((with_reducible refine (K2.out _).mono ?_); rintro e w' ⟨rfl, rfl⟩) | ((with_reducible refine (K3.out _).mono ?_); rintro e w' ⟨rfl, rfl⟩))
    | (go_at_call 60; first | ((with_reducible refine (K4.out _).mono ?_); rintro e w' ⟨rfl, rfl⟩) | ((with_reducible refine (K5.out _).mono ?_); rintro e w' ⟨rfl, rfl⟩) | ((with_reducible refine (K6.out _).mono ?_); rintro e w' ⟨rfl, rfl⟩)))
   all_goals (go_meet; exact ⟨congrArg Value.bool (by simp [*]), rfl⟩)
  cases b5
  ·skip
   go_wp2_with (first
    | (go_at_call 50; first | ((with_reducible refine (K1.out _).mono ?_); rintro e w' ⟨rfl, rfl⟩) | ((with_reducible refine (K2.out _).mono ?_); rintro e w' ⟨rfl, rfl⟩) | ((with_reducible refine (K3.out _).mono ?_); rintro e w' ⟨rfl, rfl⟩))
    | (go_at_call 60; first | ((with_reducible refine (K4.out _).mono ?_); rintro e w' ⟨rfl, rfl⟩) | ((with_reducible refine (K5.out _).mono ?_); rintro e w' ⟨rfl, rfl⟩) | ((with_reducible refine (K6.out _).mono ?_); rintro e w' ⟨rfl, rfl⟩)))
   all_goals (go_meet; exact ⟨congrArg Value.bool (by simp [*]), rfl⟩)
  go_wp2_with (first
   | (go_at_call 50; first | ((with_reducible refine (K1.out _).mono ?_); rintro e w' ⟨rfl, rfl⟩) | ((with_reducible refine (K2.out _).mono ?_); rintro e w' ⟨rfl, rfl⟩) | ((with_reducible refine (K3.out _).mono ?_); rintro e w' ⟨rfl, rfl⟩))
   | (go_at_call 60; first | ((with_reducible refine (K4.out _).mono ?_); rintro e w' ⟨rfl, rfl⟩) | ((with_reducible refine (K5.out _).mono ?_); rintro e w' ⟨rfl, rfl⟩) | ((with_reducible refine (K6.out _).mono ?_); rintro e w' ⟨rfl, rfl⟩)))
  all_goals (go_meet; exact ⟨congrArg Value.bool (by simp [*]), rfl⟩)
 case rest =>
 obtain ⟨rfl, rfl⟩ := hcut
 generalize hm : (b4 && b5 && pl.toList.isEmpty) = M at *
 clear hm
 go_upto_region 4 with fail
 go_cut [6] from 43 (fun x6 wx => x6 = .bool (fr.toList.isEmpty && tw.toList.isEmpty && (co == 0)) ∧ wx = w.alloc (.cells #[.int .i64 sup, .int .i64 cat, .string fr, .string tw, .string pl, .int .i64 am, .bool gr, .int .i64 co, .bool mx] 55))
 case first =>
  go_wp2_with (first
   | (go_at_call 50; first | ((with_reducible refine (K1.out _).mono ?_); rintro e w' ⟨rfl, rfl⟩) | ((with_reducible refine (K2.out _).mono ?_); rintro e w' ⟨rfl, rfl⟩) | ((with_reducible refine (K3.out _).mono ?_); rintro e w' ⟨rfl, rfl⟩))
   | (go_at_call 60; first | ((with_reducible refine (K4.out _).mono ?_); rintro e w' ⟨rfl, rfl⟩) | ((with_reducible refine (K5.out _).mono ?_); rintro e w' ⟨rfl, rfl⟩) | ((with_reducible refine (K6.out _).mono ?_); rintro e w' ⟨rfl, rfl⟩)))
  all_goals (go_meet; exact ⟨congrArg Value.bool (by simp [*]), rfl⟩)
 case rest =>
 obtain ⟨rfl, rfl⟩ := hcut
 have hR := HR.out
 clear HR
 generalize hs : (fr.toList.isEmpty && tw.toList.isEmpty && (co == 0)) = S at *
 clear hs
 by_cases h7 : sup = 7
 ·subst h7
  simp [-List.isEmpty_iff] at hR
  cases M
  ·skip
   subst hR
   go_wp2_with (first
    | (go_at_call 50; first | ((with_reducible refine (K1.out _).mono ?_); rintro e w' ⟨rfl, rfl⟩) | ((with_reducible refine (K2.out _).mono ?_); rintro e w' ⟨rfl, rfl⟩) | ((with_reducible refine (K3.out _).mono ?_); rintro e w' ⟨rfl, rfl⟩))
    | (go_at_call 60; first | ((with_reducible refine (K4.out _).mono ?_); rintro e w' ⟨rfl, rfl⟩) | ((with_reducible refine (K5.out _).mono ?_); rintro e w' ⟨rfl, rfl⟩) | ((with_reducible refine (K6.out _).mono ?_); rintro e w' ⟨rfl, rfl⟩)))
   all_goals (go_ret; exact ⟨ret_bool (by simp_all), HAL.out _⟩)
  ·skip
   subst hR
   go_wp2_with (first
    | (go_at_call 50; first | ((with_reducible refine (K1.out _).mono ?_); rintro e w' ⟨rfl, rfl⟩) | ((with_reducible refine (K2.out _).mono ?_); rintro e w' ⟨rfl, rfl⟩) | ((with_reducible refine (K3.out _).mono ?_); rintro e w' ⟨rfl, rfl⟩))
    | (go_at_call 60; first | ((with_reducible refine (K4.out _).mono ?_); rintro e w' ⟨rfl, rfl⟩) | ((with_reducible refine (K5.out _).mono ?_); rintro e w' ⟨rfl, rfl⟩) | ((with_reducible refine (K6.out _).mono ?_); rintro e w' ⟨rfl, rfl⟩)))
   all_goals (go_ret; exact ⟨ret_bool (by simp_all), HAL.out _⟩)
 by_cases h1 : sup = 1
 ·subst h1
  simp [-List.isEmpty_iff] at hR
  cases M
  ·skip
   subst hR
   go_wp2_with (first
    | (go_at_call 50; first | ((with_reducible refine (K1.out _).mono ?_); rintro e w' ⟨rfl, rfl⟩) | ((with_reducible refine (K2.out _).mono ?_); rintro e w' ⟨rfl, rfl⟩) | ((with_reducible refine (K3.out _).mono ?_); rintro e w' ⟨rfl, rfl⟩))
    | (go_at_call 60; first | ((with_reducible refine (K4.out _).mono ?_); rintro e w' ⟨rfl, rfl⟩) | ((with_reducible refine (K5.out _).mono ?_); rintro e w' ⟨rfl, rfl⟩) | ((with_reducible refine (K6.out _).mono ?_); rintro e w' ⟨rfl, rfl⟩)))
   all_goals (go_ret; exact ⟨ret_bool (by simp_all), HAL.out _⟩)
  ·skip
   subst hR
   go_wp2_with (first
    | (go_at_call 50; first | ((with_reducible refine (K1.out _).mono ?_); rintro e w' ⟨rfl, rfl⟩) | ((with_reducible refine (K2.out _).mono ?_); rintro e w' ⟨rfl, rfl⟩) | ((with_reducible refine (K3.out _).mono ?_); rintro e w' ⟨rfl, rfl⟩))
    | (go_at_call 60; first | ((with_reducible refine (K4.out _).mono ?_); rintro e w' ⟨rfl, rfl⟩) | ((with_reducible refine (K5.out _).mono ?_); rintro e w' ⟨rfl, rfl⟩) | ((with_reducible refine (K6.out _).mono ?_); rintro e w' ⟨rfl, rfl⟩)))
   all_goals (go_ret; exact ⟨ret_bool (by simp_all), HAL.out _⟩)
 by_cases h3 : sup = 3
 ·subst h3
  simp [-List.isEmpty_iff] at hR
  cases S
  ·skip
   cases b6
   ·skip
    subst hR
    go_wp2_with (first
     | (go_at_call 50; first | ((with_reducible refine (K1.out _).mono ?_); rintro e w' ⟨rfl, rfl⟩) | ((with_reducible refine (K2.out _).mono ?_); rintro e w' ⟨rfl, rfl⟩) | ((with_reducible refine (K3.out _).mono ?_); rintro e w' ⟨rfl, rfl⟩))
     | (go_at_call 60; first | ((with_reducible refine (K4.out _).mono ?_); rintro e w' ⟨rfl, rfl⟩) | ((with_reducible refine (K5.out _).mono ?_); rintro e w' ⟨rfl, rfl⟩) | ((with_reducible refine (K6.out _).mono ?_); rintro e w' ⟨rfl, rfl⟩)))
    all_goals (go_ret; exact ⟨ret_bool (by simp_all), HAL.out _⟩)
   ·skip
    subst hR
    go_wp2_with (first
     | (go_at_call 50; first | ((with_reducible refine (K1.out _).mono ?_); rintro e w' ⟨rfl, rfl⟩) | ((with_reducible refine (K2.out _).mono ?_); rintro e w' ⟨rfl, rfl⟩) | ((with_reducible refine (K3.out _).mono ?_); rintro e w' ⟨rfl, rfl⟩))
     | (go_at_call 60; first | ((with_reducible refine (K4.out _).mono ?_); rintro e w' ⟨rfl, rfl⟩) | ((with_reducible refine (K5.out _).mono ?_); rintro e w' ⟨rfl, rfl⟩) | ((with_reducible refine (K6.out _).mono ?_); rintro e w' ⟨rfl, rfl⟩)))
    all_goals (go_ret; exact ⟨ret_bool (by simp_all), HAL.out _⟩)
  ·skip
   cases b6
   ·skip
    subst hR
    go_wp2_with (first
     | (go_at_call 50; first | ((with_reducible refine (K1.out _).mono ?_); rintro e w' ⟨rfl, rfl⟩) | ((with_reducible refine (K2.out _).mono ?_); rintro e w' ⟨rfl, rfl⟩) | ((with_reducible refine (K3.out _).mono ?_); rintro e w' ⟨rfl, rfl⟩))
     | (go_at_call 60; first | ((with_reducible refine (K4.out _).mono ?_); rintro e w' ⟨rfl, rfl⟩) | ((with_reducible refine (K5.out _).mono ?_); rintro e w' ⟨rfl, rfl⟩) | ((with_reducible refine (K6.out _).mono ?_); rintro e w' ⟨rfl, rfl⟩)))
    all_goals (go_ret; exact ⟨ret_bool (by simp_all), HAL.out _⟩)
   ·skip
    subst hR
    go_wp2_with (first
     | (go_at_call 50; first | ((with_reducible refine (K1.out _).mono ?_); rintro e w' ⟨rfl, rfl⟩) | ((with_reducible refine (K2.out _).mono ?_); rintro e w' ⟨rfl, rfl⟩) | ((with_reducible refine (K3.out _).mono ?_); rintro e w' ⟨rfl, rfl⟩))
     | (go_at_call 60; first | ((with_reducible refine (K4.out _).mono ?_); rintro e w' ⟨rfl, rfl⟩) | ((with_reducible refine (K5.out _).mono ?_); rintro e w' ⟨rfl, rfl⟩) | ((with_reducible refine (K6.out _).mono ?_); rintro e w' ⟨rfl, rfl⟩)))
    all_goals (go_ret; exact ⟨ret_bool (by simp_all), HAL.out _⟩)
 by_cases h4 : sup = 4
 ·subst h4
  simp [-List.isEmpty_iff] at hR
  cases S
  ·skip
   cases b6
   ·skip
    subst hR
    go_wp2_with (first
     | (go_at_call 50; first | ((with_reducible refine (K1.out _).mono ?_); rintro e w' ⟨rfl, rfl⟩) | ((with_reducible refine (K2.out _).mono ?_); rintro e w' ⟨rfl, rfl⟩) | ((with_reducible refine (K3.out _).mono ?_); rintro e w' ⟨rfl, rfl⟩))
     | (go_at_call 60; first | ((with_reducible refine (K4.out _).mono ?_); rintro e w' ⟨rfl, rfl⟩) | ((with_reducible refine (K5.out _).mono ?_); rintro e w' ⟨rfl, rfl⟩) | ((with_reducible refine (K6.out _).mono ?_); rintro e w' ⟨rfl, rfl⟩)))
    all_goals (go_ret; exact ⟨ret_bool (by simp_all), HAL.out _⟩)
   ·skip
    subst hR
    go_wp2_with (first
     | (go_at_call 50; first | ((with_reducible refine (K1.out _).mono ?_); rintro e w' ⟨rfl, rfl⟩) | ((with_reducible refine (K2.out _).mono ?_); rintro e w' ⟨rfl, rfl⟩) | ((with_reducible refine (K3.out _).mono ?_); rintro e w' ⟨rfl, rfl⟩))
     | (go_at_call 60; first | ((with_reducible refine (K4.out _).mono ?_); rintro e w' ⟨rfl, rfl⟩) | ((with_reducible refine (K5.out _).mono ?_); rintro e w' ⟨rfl, rfl⟩) | ((with_reducible refine (K6.out _).mono ?_); rintro e w' ⟨rfl, rfl⟩)))
    all_goals (go_ret; exact ⟨ret_bool (by simp_all), HAL.out _⟩)
  ·skip
   cases b6
   ·skip
    subst hR
    go_wp2_with (first
     | (go_at_call 50; first | ((with_reducible refine (K1.out _).mono ?_); rintro e w' ⟨rfl, rfl⟩) | ((with_reducible refine (K2.out _).mono ?_); rintro e w' ⟨rfl, rfl⟩) | ((with_reducible refine (K3.out _).mono ?_); rintro e w' ⟨rfl, rfl⟩))
     | (go_at_call 60; first | ((with_reducible refine (K4.out _).mono ?_); rintro e w' ⟨rfl, rfl⟩) | ((with_reducible refine (K5.out _).mono ?_); rintro e w' ⟨rfl, rfl⟩) | ((with_reducible refine (K6.out _).mono ?_); rintro e w' ⟨rfl, rfl⟩)))
    all_goals (go_ret; exact ⟨ret_bool (by simp_all), HAL.out _⟩)
   ·skip
    subst hR
    go_wp2_with (first
     | (go_at_call 50; first | ((with_reducible refine (K1.out _).mono ?_); rintro e w' ⟨rfl, rfl⟩) | ((with_reducible refine (K2.out _).mono ?_); rintro e w' ⟨rfl, rfl⟩) | ((with_reducible refine (K3.out _).mono ?_); rintro e w' ⟨rfl, rfl⟩))
     | (go_at_call 60; first | ((with_reducible refine (K4.out _).mono ?_); rintro e w' ⟨rfl, rfl⟩) | ((with_reducible refine (K5.out _).mono ?_); rintro e w' ⟨rfl, rfl⟩) | ((with_reducible refine (K6.out _).mono ?_); rintro e w' ⟨rfl, rfl⟩)))
    all_goals (go_ret; exact ⟨ret_bool (by simp_all), HAL.out _⟩)
 by_cases h5 : sup = 5
 ·subst h5
  simp [-List.isEmpty_iff] at hR
  cases S
  ·skip
   cases b6
   ·skip
    subst hR
    go_wp2_with (first
     | (go_at_call 50; first | ((with_reducible refine (K1.out _).mono ?_); rintro e w' ⟨rfl, rfl⟩) | ((with_reducible refine (K2.out _).mono ?_); rintro e w' ⟨rfl, rfl⟩) | ((with_reducible refine (K3.out _).mono ?_); rintro e w' ⟨rfl, rfl⟩))
     | (go_at_call 60; first | ((with_reducible refine (K4.out _).mono ?_); rintro e w' ⟨rfl, rfl⟩) | ((with_reducible refine (K5.out _).mono ?_); rintro e w' ⟨rfl, rfl⟩) | ((with_reducible refine (K6.out _).mono ?_); rintro e w' ⟨rfl, rfl⟩)))
    all_goals (go_ret; exact ⟨ret_bool (by simp_all), HAL.out _⟩)
   ·skip
    subst hR
    go_wp2_with (first
     | (go_at_call 50; first | ((with_reducible refine (K1.out _).mono ?_); rintro e w' ⟨rfl, rfl⟩) | ((with_reducible refine (K2.out _).mono ?_); rintro e w' ⟨rfl, rfl⟩) | ((with_reducible refine (K3.out _).mono ?_); rintro e w' ⟨rfl, rfl⟩))
     | (go_at_call 60; first | ((with_reducible refine (K4.out _).mono ?_); rintro e w' ⟨rfl, rfl⟩) | ((with_reducible refine (K5.out _).mono ?_); rintro e w' ⟨rfl, rfl⟩) | ((with_reducible refine (K6.out _).mono ?_); rintro e w' ⟨rfl, rfl⟩)))
    all_goals (go_ret; exact ⟨ret_bool (by simp_all), HAL.out _⟩)
  ·skip
   cases b6
   ·skip
    subst hR
    go_wp2_with (first
     | (go_at_call 50; first | ((with_reducible refine (K1.out _).mono ?_); rintro e w' ⟨rfl, rfl⟩) | ((with_reducible refine (K2.out _).mono ?_); rintro e w' ⟨rfl, rfl⟩) | ((with_reducible refine (K3.out _).mono ?_); rintro e w' ⟨rfl, rfl⟩))
     | (go_at_call 60; first | ((with_reducible refine (K4.out _).mono ?_); rintro e w' ⟨rfl, rfl⟩) | ((with_reducible refine (K5.out _).mono ?_); rintro e w' ⟨rfl, rfl⟩) | ((with_reducible refine (K6.out _).mono ?_); rintro e w' ⟨rfl, rfl⟩)))
    all_goals (go_ret; exact ⟨ret_bool (by simp_all), HAL.out _⟩)
   ·skip
    subst hR
    go_wp2_with (first
     | (go_at_call 50; first | ((with_reducible refine (K1.out _).mono ?_); rintro e w' ⟨rfl, rfl⟩) | ((with_reducible refine (K2.out _).mono ?_); rintro e w' ⟨rfl, rfl⟩) | ((with_reducible refine (K3.out _).mono ?_); rintro e w' ⟨rfl, rfl⟩))
     | (go_at_call 60; first | ((with_reducible refine (K4.out _).mono ?_); rintro e w' ⟨rfl, rfl⟩) | ((with_reducible refine (K5.out _).mono ?_); rintro e w' ⟨rfl, rfl⟩) | ((with_reducible refine (K6.out _).mono ?_); rintro e w' ⟨rfl, rfl⟩)))
    all_goals (go_ret; exact ⟨ret_bool (by simp_all), HAL.out _⟩)
 by_cases h2 : sup = 2
 ·subst h2
  simp [-List.isEmpty_iff] at hR
  cases S
  ·skip
   subst hR
   go_wp2_with (first
    | (go_at_call 50; first | ((with_reducible refine (K1.out _).mono ?_); rintro e w' ⟨rfl, rfl⟩) | ((with_reducible refine (K2.out _).mono ?_); rintro e w' ⟨rfl, rfl⟩) | ((with_reducible refine (K3.out _).mono ?_); rintro e w' ⟨rfl, rfl⟩))
    | (go_at_call 60; first | ((with_reducible refine (K4.out _).mono ?_); rintro e w' ⟨rfl, rfl⟩) | ((with_reducible refine (K5.out _).mono ?_); rintro e w' ⟨rfl, rfl⟩) | ((with_reducible refine (K6.out _).mono ?_); rintro e w' ⟨rfl, rfl⟩)))
   all_goals (go_ret; exact ⟨ret_bool (by simp_all), HAL.out _⟩)
  ·skip
   subst hR
   go_wp2_with (first
    | (go_at_call 50; first | ((with_reducible refine (K1.out _).mono ?_); rintro e w' ⟨rfl, rfl⟩) | ((with_reducible refine (K2.out _).mono ?_); rintro e w' ⟨rfl, rfl⟩) | ((with_reducible refine (K3.out _).mono ?_); rintro e w' ⟨rfl, rfl⟩))
    | (go_at_call 60; first | ((with_reducible refine (K4.out _).mono ?_); rintro e w' ⟨rfl, rfl⟩) | ((with_reducible refine (K5.out _).mono ?_); rintro e w' ⟨rfl, rfl⟩) | ((with_reducible refine (K6.out _).mono ?_); rintro e w' ⟨rfl, rfl⟩)))
   all_goals (go_ret; exact ⟨ret_bool (by simp_all), HAL.out _⟩)
 by_cases h6 : sup = 6
 ·subst h6
  simp [-List.isEmpty_iff] at hR
  cases S
  ·skip
   subst hR
   go_wp2_with (first
    | (go_at_call 50; first | ((with_reducible refine (K1.out _).mono ?_); rintro e w' ⟨rfl, rfl⟩) | ((with_reducible refine (K2.out _).mono ?_); rintro e w' ⟨rfl, rfl⟩) | ((with_reducible refine (K3.out _).mono ?_); rintro e w' ⟨rfl, rfl⟩))
    | (go_at_call 60; first | ((with_reducible refine (K4.out _).mono ?_); rintro e w' ⟨rfl, rfl⟩) | ((with_reducible refine (K5.out _).mono ?_); rintro e w' ⟨rfl, rfl⟩) | ((with_reducible refine (K6.out _).mono ?_); rintro e w' ⟨rfl, rfl⟩)))
   all_goals (go_ret; exact ⟨ret_bool (by simp_all), HAL.out _⟩)
  ·skip
   subst hR
   go_wp2_with (first
    | (go_at_call 50; first | ((with_reducible refine (K1.out _).mono ?_); rintro e w' ⟨rfl, rfl⟩) | ((with_reducible refine (K2.out _).mono ?_); rintro e w' ⟨rfl, rfl⟩) | ((with_reducible refine (K3.out _).mono ?_); rintro e w' ⟨rfl, rfl⟩))
    | (go_at_call 60; first | ((with_reducible refine (K4.out _).mono ?_); rintro e w' ⟨rfl, rfl⟩) | ((with_reducible refine (K5.out _).mono ?_); rintro e w' ⟨rfl, rfl⟩) | ((with_reducible refine (K6.out _).mono ?_); rintro e w' ⟨rfl, rfl⟩)))
   all_goals (go_ret; exact ⟨ret_bool (by simp_all), HAL.out _⟩)
 rw [if_neg h7, if_neg h1, if_neg (by omega), if_neg (by omega)] at hR
 have f7 : (sup == 7) = false := by rw [beq_eq_false_iff_ne]; exact h7
 have f1 : (sup == 1) = false := by rw [beq_eq_false_iff_ne]; exact h1
 have f3 : (sup == 3) = false := by rw [beq_eq_false_iff_ne]; exact h3
 have f4 : (sup == 4) = false := by rw [beq_eq_false_iff_ne]; exact h4
 have f5 : (sup == 5) = false := by rw [beq_eq_false_iff_ne]; exact h5
 have f2 : (sup == 2) = false := by rw [beq_eq_false_iff_ne]; exact h2
 have f6 : (sup == 6) = false := by rw [beq_eq_false_iff_ne]; exact h6
 clear h7 h1 h3 h4 h5 h2 h6
 subst hR
 go_wp2_with (first
  | (go_at_call 50; first | ((with_reducible refine (K1.out _).mono ?_); rintro e w' ⟨rfl, rfl⟩) | ((with_reducible refine (K2.out _).mono ?_); rintro e w' ⟨rfl, rfl⟩) | ((with_reducible refine (K3.out _).mono ?_); rintro e w' ⟨rfl, rfl⟩))
  | (go_at_call 60; first | ((with_reducible refine (K4.out _).mono ?_); rintro e w' ⟨rfl, rfl⟩) | ((with_reducible refine (K5.out _).mono ?_); rintro e w' ⟨rfl, rfl⟩) | ((with_reducible refine (K6.out _).mono ?_); rintro e w' ⟨rfl, rfl⟩)))
 all_goals (go_ret; exact ⟨ret_bool (by simp_all), HAL.out _⟩)
set_option maxRecDepth 100000 in
set_option maxHeartbeats 4000000 in
theorem rgoodline_any (o : Ln) (sale : Bool) (w : World) : Calls Try.prog 30 #[.agg o.vs, .bool sale] w fun e w' => e = .returned (.bool (goodLineB o sale)) ∧ Below w.heap.size w w' := by
 obtain ⟨sup, cat, fr, tw, pl, am, gr, co, mx⟩ := o
 have HAL := Lib.hid (fun o => (Below.refl w.heap.size w).alloc (Nat.le_refl _) o)
 unfold goodLineB
 simp only [Ln.vs]
 have k1 := fun W => rin_any cat 1 5 W
 have k2 := fun W => rin_any am 0 1099511627776 W
 have k3 := fun W => rin_any co 0 1099511627776 W
 have k4 := fun W => rcountry_any fr W
 have k5 := fun W => rcountry_any tw W
 have k6 := fun W => rcountry_any pl W
 have k7 := fun W => rin_any sup 1 7 W
 generalize inB cat 1 5 = b1 at *
 generalize inB am 0 1099511627776 = b2 at *
 generalize inB co 0 1099511627776 = b3 at *
 generalize countryL fr.data.toList = b4 at *
 generalize countryL tw.data.toList = b5 at *
 generalize countryL pl.data.toList = b6 at *
 generalize hR : (if sup = 7 then b4 && b5 && pl.toList.isEmpty && gr else if sup = 1 then b4 && b5 && pl.toList.isEmpty && (co == 0) else if sup = 3 ∨ sup = 4 ∨ sup = 5 then fr.toList.isEmpty && tw.toList.isEmpty && (co == 0) && b6 else if sup = 2 ∨ sup = 6 then fr.toList.isEmpty && tw.toList.isEmpty && (co == 0) && pl.toList.isEmpty else false) = R at *
 have hsup : inB sup 1 7 = false → R = false := by
  intro h
  rw [← hR]
  simp only [inB, Bool.and_eq_false_iff, decide_eq_false_iff_not] at h
  rw [if_neg (by omega), if_neg (by omega), if_neg (by omega), if_neg (by omega)]
 have hsup2 : inB sup 1 7 = true → 1 ≤ sup ∧ sup ≤ 7 := fun h => (inB_iff _ _ _).1 h
 generalize inB sup 1 7 = b7 at *
 have HS := Lib.hid hsup
 have HS2 := Lib.hid hsup2
 clear hsup hsup2
 generalize hG : ((b1 && b2 && b3 && !(sale && mx)) && R) = G at *
 have HG := Lib.hid hG
 have HR := Lib.hid hR
 have K1 := Lib.hid k1
 have K2 := Lib.hid k2
 have K3 := Lib.hid k3
 have K4 := Lib.hid k4
 have K5 := Lib.hid k5
 have K6 := Lib.hid k6
 have K7 := Lib.hid k7
 clear hG hR k1 k2 k3 k4 k5 k6 k7
 go_enter Try.func30, Try.ntmps30
 go_upto_region 1 with fail
 cases b7
 ·skip
  have hG := HG.out
  rw [HS.out rfl, Bool.and_false] at hG
  subst hG
  go_wp2_with (first
   | (go_at_call 40; first | ((with_reducible refine (K7.out _).mono ?_); rintro e w' ⟨rfl, rfl⟩) | ((with_reducible refine (K1.out _).mono ?_); rintro e w' ⟨rfl, rfl⟩) | ((with_reducible refine (K2.out _).mono ?_); rintro e w' ⟨rfl, rfl⟩) | ((with_reducible refine (K3.out _).mono ?_); rintro e w' ⟨rfl, rfl⟩))
   | (go_at_call 41; first | ((with_reducible refine (K4.out _).mono ?_); rintro e w' ⟨rfl, rfl⟩) | ((with_reducible refine (K5.out _).mono ?_); rintro e w' ⟨rfl, rfl⟩) | ((with_reducible refine (K6.out _).mono ?_); rintro e w' ⟨rfl, rfl⟩)))
  go_ret
  exact ⟨rfl, HAL.out _⟩
 cases b1
 ·skip
  have hG := HG.out
  simp only [Bool.false_and] at hG
  subst hG
  go_wp2_with (first
   | (go_at_call 40; first | ((with_reducible refine (K7.out _).mono ?_); rintro e w' ⟨rfl, rfl⟩) | ((with_reducible refine (K1.out _).mono ?_); rintro e w' ⟨rfl, rfl⟩) | ((with_reducible refine (K2.out _).mono ?_); rintro e w' ⟨rfl, rfl⟩) | ((with_reducible refine (K3.out _).mono ?_); rintro e w' ⟨rfl, rfl⟩))
   | (go_at_call 41; first | ((with_reducible refine (K4.out _).mono ?_); rintro e w' ⟨rfl, rfl⟩) | ((with_reducible refine (K5.out _).mono ?_); rintro e w' ⟨rfl, rfl⟩) | ((with_reducible refine (K6.out _).mono ?_); rintro e w' ⟨rfl, rfl⟩)))
  go_ret
  exact ⟨rfl, HAL.out _⟩
 cases b2
 ·skip
  have hG := HG.out
  simp only [Bool.false_and, Bool.and_false] at hG
  subst hG
  go_wp2_with (first
   | (go_at_call 40; first | ((with_reducible refine (K7.out _).mono ?_); rintro e w' ⟨rfl, rfl⟩) | ((with_reducible refine (K1.out _).mono ?_); rintro e w' ⟨rfl, rfl⟩) | ((with_reducible refine (K2.out _).mono ?_); rintro e w' ⟨rfl, rfl⟩) | ((with_reducible refine (K3.out _).mono ?_); rintro e w' ⟨rfl, rfl⟩))
   | (go_at_call 41; first | ((with_reducible refine (K4.out _).mono ?_); rintro e w' ⟨rfl, rfl⟩) | ((with_reducible refine (K5.out _).mono ?_); rintro e w' ⟨rfl, rfl⟩) | ((with_reducible refine (K6.out _).mono ?_); rintro e w' ⟨rfl, rfl⟩)))
  go_ret
  exact ⟨rfl, HAL.out _⟩
 cases b3
 ·skip
  have hG := HG.out
  simp only [Bool.false_and, Bool.and_false] at hG
  subst hG
  go_wp2_with (first
   | (go_at_call 40; first | ((with_reducible refine (K7.out _).mono ?_); rintro e w' ⟨rfl, rfl⟩) | ((with_reducible refine (K1.out _).mono ?_); rintro e w' ⟨rfl, rfl⟩) | ((with_reducible refine (K2.out _).mono ?_); rintro e w' ⟨rfl, rfl⟩) | ((with_reducible refine (K3.out _).mono ?_); rintro e w' ⟨rfl, rfl⟩))
   | (go_at_call 41; first | ((with_reducible refine (K4.out _).mono ?_); rintro e w' ⟨rfl, rfl⟩) | ((with_reducible refine (K5.out _).mono ?_); rintro e w' ⟨rfl, rfl⟩) | ((with_reducible refine (K6.out _).mono ?_); rintro e w' ⟨rfl, rfl⟩)))
  go_ret
  exact ⟨rfl, HAL.out _⟩
 by_cases hsm : sale = true ∧ mx = true
 ·obtain ⟨rfl, rfl⟩ := hsm
  have hG := HG.out
  simp only [Bool.and_self, Bool.not_true, Bool.and_false, Bool.false_and] at hG
  subst hG
  go_wp2_with (first
   | (go_at_call 40; first | ((with_reducible refine (K7.out _).mono ?_); rintro e w' ⟨rfl, rfl⟩) | ((with_reducible refine (K1.out _).mono ?_); rintro e w' ⟨rfl, rfl⟩) | ((with_reducible refine (K2.out _).mono ?_); rintro e w' ⟨rfl, rfl⟩) | ((with_reducible refine (K3.out _).mono ?_); rintro e w' ⟨rfl, rfl⟩))
   | (go_at_call 41; first | ((with_reducible refine (K4.out _).mono ?_); rintro e w' ⟨rfl, rfl⟩) | ((with_reducible refine (K5.out _).mono ?_); rintro e w' ⟨rfl, rfl⟩) | ((with_reducible refine (K6.out _).mono ?_); rintro e w' ⟨rfl, rfl⟩)))
  go_ret
  exact ⟨rfl, HAL.out _⟩
 have hsm2 : (sale && mx) = false := by
  cases sale
  ·rfl
  ·cases mx
   ·rfl
   ·exact absurd ⟨rfl, rfl⟩ hsm
 have HSM := Lib.hid hsm2
 have hG := HG.out
 rw [hsm2, Bool.not_false, Bool.and_true, Bool.and_self, Bool.and_self, Bool.true_and] at hG
 subst hG
 clear hsm hsm2 HG
 go_cut [33] from 5 (fun xs wx => xs = .bool false ∧ wx = w.alloc (.cells #[.int .i64 sup, .int .i64 cat, .string fr, .string tw, .string pl, .int .i64 am, .bool gr, .int .i64 co, .bool mx] 55))
 case first =>
  have hsm := HSM.out
  cases sale
  ·skip
   clear hsm
   go_wp2_with (first
    | (go_at_call 40; first | ((with_reducible refine (K7.out _).mono ?_); rintro e w' ⟨rfl, rfl⟩) | ((with_reducible refine (K1.out _).mono ?_); rintro e w' ⟨rfl, rfl⟩) | ((with_reducible refine (K2.out _).mono ?_); rintro e w' ⟨rfl, rfl⟩) | ((with_reducible refine (K3.out _).mono ?_); rintro e w' ⟨rfl, rfl⟩))
    | (go_at_call 41; first | ((with_reducible refine (K4.out _).mono ?_); rintro e w' ⟨rfl, rfl⟩) | ((with_reducible refine (K5.out _).mono ?_); rintro e w' ⟨rfl, rfl⟩) | ((with_reducible refine (K6.out _).mono ?_); rintro e w' ⟨rfl, rfl⟩)))
   go_meet
   exact ⟨rfl, rfl⟩
  ·obtain rfl : mx = false := by simpa using hsm
   clear hsm
   go_wp2_with (first
    | (go_at_call 40; first | ((with_reducible refine (K7.out _).mono ?_); rintro e w' ⟨rfl, rfl⟩) | ((with_reducible refine (K1.out _).mono ?_); rintro e w' ⟨rfl, rfl⟩) | ((with_reducible refine (K2.out _).mono ?_); rintro e w' ⟨rfl, rfl⟩) | ((with_reducible refine (K3.out _).mono ?_); rintro e w' ⟨rfl, rfl⟩))
    | (go_at_call 41; first | ((with_reducible refine (K4.out _).mono ?_); rintro e w' ⟨rfl, rfl⟩) | ((with_reducible refine (K5.out _).mono ?_); rintro e w' ⟨rfl, rfl⟩) | ((with_reducible refine (K6.out _).mono ?_); rintro e w' ⟨rfl, rfl⟩)))
   go_meet
   exact ⟨rfl, rfl⟩
 case rest =>
 obtain ⟨rfl, rfl⟩ := hcut
 have hR := HR.out
 have hsr := HS2.out rfl
 have HSR := Lib.hid hsr
 clear HR HS HS2 hsr HSM
 go_upto_region 3 with fail
 by_cases h7 : sup = 7
 ·subst h7
  clear HSR
  simp [-List.isEmpty_iff] at hR
  cases b4
  ·skip
   cases b5
   ·skip
    subst hR
    go_wp2_with (first
     | (go_at_call 40; first | ((with_reducible refine (K7.out _).mono ?_); rintro e w' ⟨rfl, rfl⟩) | ((with_reducible refine (K1.out _).mono ?_); rintro e w' ⟨rfl, rfl⟩) | ((with_reducible refine (K2.out _).mono ?_); rintro e w' ⟨rfl, rfl⟩) | ((with_reducible refine (K3.out _).mono ?_); rintro e w' ⟨rfl, rfl⟩))
     | (go_at_call 41; first | ((with_reducible refine (K4.out _).mono ?_); rintro e w' ⟨rfl, rfl⟩) | ((with_reducible refine (K5.out _).mono ?_); rintro e w' ⟨rfl, rfl⟩) | ((with_reducible refine (K6.out _).mono ?_); rintro e w' ⟨rfl, rfl⟩)))
    all_goals (go_ret; exact ⟨ret_bool (by simp_all), HAL.out _⟩)
   ·skip
    subst hR
    go_wp2_with (first
     | (go_at_call 40; first | ((with_reducible refine (K7.out _).mono ?_); rintro e w' ⟨rfl, rfl⟩) | ((with_reducible refine (K1.out _).mono ?_); rintro e w' ⟨rfl, rfl⟩) | ((with_reducible refine (K2.out _).mono ?_); rintro e w' ⟨rfl, rfl⟩) | ((with_reducible refine (K3.out _).mono ?_); rintro e w' ⟨rfl, rfl⟩))
     | (go_at_call 41; first | ((with_reducible refine (K4.out _).mono ?_); rintro e w' ⟨rfl, rfl⟩) | ((with_reducible refine (K5.out _).mono ?_); rintro e w' ⟨rfl, rfl⟩) | ((with_reducible refine (K6.out _).mono ?_); rintro e w' ⟨rfl, rfl⟩)))
    all_goals (go_ret; exact ⟨ret_bool (by simp_all), HAL.out _⟩)
  ·skip
   cases b5
   ·skip
    subst hR
    go_wp2_with (first
     | (go_at_call 40; first | ((with_reducible refine (K7.out _).mono ?_); rintro e w' ⟨rfl, rfl⟩) | ((with_reducible refine (K1.out _).mono ?_); rintro e w' ⟨rfl, rfl⟩) | ((with_reducible refine (K2.out _).mono ?_); rintro e w' ⟨rfl, rfl⟩) | ((with_reducible refine (K3.out _).mono ?_); rintro e w' ⟨rfl, rfl⟩))
     | (go_at_call 41; first | ((with_reducible refine (K4.out _).mono ?_); rintro e w' ⟨rfl, rfl⟩) | ((with_reducible refine (K5.out _).mono ?_); rintro e w' ⟨rfl, rfl⟩) | ((with_reducible refine (K6.out _).mono ?_); rintro e w' ⟨rfl, rfl⟩)))
    all_goals (go_ret; exact ⟨ret_bool (by simp_all), HAL.out _⟩)
   ·skip
    subst hR
    go_wp2_with (first
     | (go_at_call 40; first | ((with_reducible refine (K7.out _).mono ?_); rintro e w' ⟨rfl, rfl⟩) | ((with_reducible refine (K1.out _).mono ?_); rintro e w' ⟨rfl, rfl⟩) | ((with_reducible refine (K2.out _).mono ?_); rintro e w' ⟨rfl, rfl⟩) | ((with_reducible refine (K3.out _).mono ?_); rintro e w' ⟨rfl, rfl⟩))
     | (go_at_call 41; first | ((with_reducible refine (K4.out _).mono ?_); rintro e w' ⟨rfl, rfl⟩) | ((with_reducible refine (K5.out _).mono ?_); rintro e w' ⟨rfl, rfl⟩) | ((with_reducible refine (K6.out _).mono ?_); rintro e w' ⟨rfl, rfl⟩)))
    all_goals (go_ret; exact ⟨ret_bool (by simp_all), HAL.out _⟩)
 by_cases h1 : sup = 1
 ·subst h1
  clear HSR
  simp [-List.isEmpty_iff] at hR
  cases b4
  ·skip
   cases b5
   ·skip
    subst hR
    go_wp2_with (first
     | (go_at_call 40; first | ((with_reducible refine (K7.out _).mono ?_); rintro e w' ⟨rfl, rfl⟩) | ((with_reducible refine (K1.out _).mono ?_); rintro e w' ⟨rfl, rfl⟩) | ((with_reducible refine (K2.out _).mono ?_); rintro e w' ⟨rfl, rfl⟩) | ((with_reducible refine (K3.out _).mono ?_); rintro e w' ⟨rfl, rfl⟩))
     | (go_at_call 41; first | ((with_reducible refine (K4.out _).mono ?_); rintro e w' ⟨rfl, rfl⟩) | ((with_reducible refine (K5.out _).mono ?_); rintro e w' ⟨rfl, rfl⟩) | ((with_reducible refine (K6.out _).mono ?_); rintro e w' ⟨rfl, rfl⟩)))
    all_goals (go_ret; exact ⟨ret_bool (by simp_all), HAL.out _⟩)
   ·skip
    subst hR
    go_wp2_with (first
     | (go_at_call 40; first | ((with_reducible refine (K7.out _).mono ?_); rintro e w' ⟨rfl, rfl⟩) | ((with_reducible refine (K1.out _).mono ?_); rintro e w' ⟨rfl, rfl⟩) | ((with_reducible refine (K2.out _).mono ?_); rintro e w' ⟨rfl, rfl⟩) | ((with_reducible refine (K3.out _).mono ?_); rintro e w' ⟨rfl, rfl⟩))
     | (go_at_call 41; first | ((with_reducible refine (K4.out _).mono ?_); rintro e w' ⟨rfl, rfl⟩) | ((with_reducible refine (K5.out _).mono ?_); rintro e w' ⟨rfl, rfl⟩) | ((with_reducible refine (K6.out _).mono ?_); rintro e w' ⟨rfl, rfl⟩)))
    all_goals (go_ret; exact ⟨ret_bool (by simp_all), HAL.out _⟩)
  ·skip
   cases b5
   ·skip
    subst hR
    go_wp2_with (first
     | (go_at_call 40; first | ((with_reducible refine (K7.out _).mono ?_); rintro e w' ⟨rfl, rfl⟩) | ((with_reducible refine (K1.out _).mono ?_); rintro e w' ⟨rfl, rfl⟩) | ((with_reducible refine (K2.out _).mono ?_); rintro e w' ⟨rfl, rfl⟩) | ((with_reducible refine (K3.out _).mono ?_); rintro e w' ⟨rfl, rfl⟩))
     | (go_at_call 41; first | ((with_reducible refine (K4.out _).mono ?_); rintro e w' ⟨rfl, rfl⟩) | ((with_reducible refine (K5.out _).mono ?_); rintro e w' ⟨rfl, rfl⟩) | ((with_reducible refine (K6.out _).mono ?_); rintro e w' ⟨rfl, rfl⟩)))
    all_goals (go_ret; exact ⟨ret_bool (by simp_all), HAL.out _⟩)
   ·skip
    subst hR
    go_wp2_with (first
     | (go_at_call 40; first | ((with_reducible refine (K7.out _).mono ?_); rintro e w' ⟨rfl, rfl⟩) | ((with_reducible refine (K1.out _).mono ?_); rintro e w' ⟨rfl, rfl⟩) | ((with_reducible refine (K2.out _).mono ?_); rintro e w' ⟨rfl, rfl⟩) | ((with_reducible refine (K3.out _).mono ?_); rintro e w' ⟨rfl, rfl⟩))
     | (go_at_call 41; first | ((with_reducible refine (K4.out _).mono ?_); rintro e w' ⟨rfl, rfl⟩) | ((with_reducible refine (K5.out _).mono ?_); rintro e w' ⟨rfl, rfl⟩) | ((with_reducible refine (K6.out _).mono ?_); rintro e w' ⟨rfl, rfl⟩)))
    all_goals (go_ret; exact ⟨ret_bool (by simp_all), HAL.out _⟩)
 by_cases h3 : sup = 3
 ·subst h3
  clear HSR
  simp [-List.isEmpty_iff] at hR
  cases b6
  ·skip
   subst hR
   go_wp2_with (first
    | (go_at_call 40; first | ((with_reducible refine (K7.out _).mono ?_); rintro e w' ⟨rfl, rfl⟩) | ((with_reducible refine (K1.out _).mono ?_); rintro e w' ⟨rfl, rfl⟩) | ((with_reducible refine (K2.out _).mono ?_); rintro e w' ⟨rfl, rfl⟩) | ((with_reducible refine (K3.out _).mono ?_); rintro e w' ⟨rfl, rfl⟩))
    | (go_at_call 41; first | ((with_reducible refine (K4.out _).mono ?_); rintro e w' ⟨rfl, rfl⟩) | ((with_reducible refine (K5.out _).mono ?_); rintro e w' ⟨rfl, rfl⟩) | ((with_reducible refine (K6.out _).mono ?_); rintro e w' ⟨rfl, rfl⟩)))
   all_goals (go_ret; exact ⟨ret_bool (by simp_all), HAL.out _⟩)
  ·skip
   subst hR
   go_wp2_with (first
    | (go_at_call 40; first | ((with_reducible refine (K7.out _).mono ?_); rintro e w' ⟨rfl, rfl⟩) | ((with_reducible refine (K1.out _).mono ?_); rintro e w' ⟨rfl, rfl⟩) | ((with_reducible refine (K2.out _).mono ?_); rintro e w' ⟨rfl, rfl⟩) | ((with_reducible refine (K3.out _).mono ?_); rintro e w' ⟨rfl, rfl⟩))
    | (go_at_call 41; first | ((with_reducible refine (K4.out _).mono ?_); rintro e w' ⟨rfl, rfl⟩) | ((with_reducible refine (K5.out _).mono ?_); rintro e w' ⟨rfl, rfl⟩) | ((with_reducible refine (K6.out _).mono ?_); rintro e w' ⟨rfl, rfl⟩)))
   all_goals (go_ret; exact ⟨ret_bool (by simp_all), HAL.out _⟩)
 by_cases h4 : sup = 4
 ·subst h4
  clear HSR
  simp [-List.isEmpty_iff] at hR
  cases b6
  ·skip
   subst hR
   go_wp2_with (first
    | (go_at_call 40; first | ((with_reducible refine (K7.out _).mono ?_); rintro e w' ⟨rfl, rfl⟩) | ((with_reducible refine (K1.out _).mono ?_); rintro e w' ⟨rfl, rfl⟩) | ((with_reducible refine (K2.out _).mono ?_); rintro e w' ⟨rfl, rfl⟩) | ((with_reducible refine (K3.out _).mono ?_); rintro e w' ⟨rfl, rfl⟩))
    | (go_at_call 41; first | ((with_reducible refine (K4.out _).mono ?_); rintro e w' ⟨rfl, rfl⟩) | ((with_reducible refine (K5.out _).mono ?_); rintro e w' ⟨rfl, rfl⟩) | ((with_reducible refine (K6.out _).mono ?_); rintro e w' ⟨rfl, rfl⟩)))
   all_goals (go_ret; exact ⟨ret_bool (by simp_all), HAL.out _⟩)
  ·skip
   subst hR
   go_wp2_with (first
    | (go_at_call 40; first | ((with_reducible refine (K7.out _).mono ?_); rintro e w' ⟨rfl, rfl⟩) | ((with_reducible refine (K1.out _).mono ?_); rintro e w' ⟨rfl, rfl⟩) | ((with_reducible refine (K2.out _).mono ?_); rintro e w' ⟨rfl, rfl⟩) | ((with_reducible refine (K3.out _).mono ?_); rintro e w' ⟨rfl, rfl⟩))
    | (go_at_call 41; first | ((with_reducible refine (K4.out _).mono ?_); rintro e w' ⟨rfl, rfl⟩) | ((with_reducible refine (K5.out _).mono ?_); rintro e w' ⟨rfl, rfl⟩) | ((with_reducible refine (K6.out _).mono ?_); rintro e w' ⟨rfl, rfl⟩)))
   all_goals (go_ret; exact ⟨ret_bool (by simp_all), HAL.out _⟩)
 by_cases h5 : sup = 5
 ·subst h5
  clear HSR
  simp [-List.isEmpty_iff] at hR
  cases b6
  ·skip
   subst hR
   go_wp2_with (first
    | (go_at_call 40; first | ((with_reducible refine (K7.out _).mono ?_); rintro e w' ⟨rfl, rfl⟩) | ((with_reducible refine (K1.out _).mono ?_); rintro e w' ⟨rfl, rfl⟩) | ((with_reducible refine (K2.out _).mono ?_); rintro e w' ⟨rfl, rfl⟩) | ((with_reducible refine (K3.out _).mono ?_); rintro e w' ⟨rfl, rfl⟩))
    | (go_at_call 41; first | ((with_reducible refine (K4.out _).mono ?_); rintro e w' ⟨rfl, rfl⟩) | ((with_reducible refine (K5.out _).mono ?_); rintro e w' ⟨rfl, rfl⟩) | ((with_reducible refine (K6.out _).mono ?_); rintro e w' ⟨rfl, rfl⟩)))
   all_goals (go_ret; exact ⟨ret_bool (by simp_all), HAL.out _⟩)
  ·skip
   subst hR
   go_wp2_with (first
    | (go_at_call 40; first | ((with_reducible refine (K7.out _).mono ?_); rintro e w' ⟨rfl, rfl⟩) | ((with_reducible refine (K1.out _).mono ?_); rintro e w' ⟨rfl, rfl⟩) | ((with_reducible refine (K2.out _).mono ?_); rintro e w' ⟨rfl, rfl⟩) | ((with_reducible refine (K3.out _).mono ?_); rintro e w' ⟨rfl, rfl⟩))
    | (go_at_call 41; first | ((with_reducible refine (K4.out _).mono ?_); rintro e w' ⟨rfl, rfl⟩) | ((with_reducible refine (K5.out _).mono ?_); rintro e w' ⟨rfl, rfl⟩) | ((with_reducible refine (K6.out _).mono ?_); rintro e w' ⟨rfl, rfl⟩)))
   all_goals (go_ret; exact ⟨ret_bool (by simp_all), HAL.out _⟩)
 by_cases h2 : sup = 2
 ·subst h2
  clear HSR
  simp [-List.isEmpty_iff] at hR
  subst hR
  go_wp2_with (first
   | (go_at_call 40; first | ((with_reducible refine (K7.out _).mono ?_); rintro e w' ⟨rfl, rfl⟩) | ((with_reducible refine (K1.out _).mono ?_); rintro e w' ⟨rfl, rfl⟩) | ((with_reducible refine (K2.out _).mono ?_); rintro e w' ⟨rfl, rfl⟩) | ((with_reducible refine (K3.out _).mono ?_); rintro e w' ⟨rfl, rfl⟩))
   | (go_at_call 41; first | ((with_reducible refine (K4.out _).mono ?_); rintro e w' ⟨rfl, rfl⟩) | ((with_reducible refine (K5.out _).mono ?_); rintro e w' ⟨rfl, rfl⟩) | ((with_reducible refine (K6.out _).mono ?_); rintro e w' ⟨rfl, rfl⟩)))
  all_goals (go_ret; exact ⟨ret_bool (by simp_all), HAL.out _⟩)
 by_cases h6 : sup = 6
 ·subst h6
  clear HSR
  simp [-List.isEmpty_iff] at hR
  subst hR
  go_wp2_with (first
   | (go_at_call 40; first | ((with_reducible refine (K7.out _).mono ?_); rintro e w' ⟨rfl, rfl⟩) | ((with_reducible refine (K1.out _).mono ?_); rintro e w' ⟨rfl, rfl⟩) | ((with_reducible refine (K2.out _).mono ?_); rintro e w' ⟨rfl, rfl⟩) | ((with_reducible refine (K3.out _).mono ?_); rintro e w' ⟨rfl, rfl⟩))
   | (go_at_call 41; first | ((with_reducible refine (K4.out _).mono ?_); rintro e w' ⟨rfl, rfl⟩) | ((with_reducible refine (K5.out _).mono ?_); rintro e w' ⟨rfl, rfl⟩) | ((with_reducible refine (K6.out _).mono ?_); rintro e w' ⟨rfl, rfl⟩)))
  all_goals (go_ret; exact ⟨ret_bool (by simp_all), HAL.out _⟩)
 exfalso
 have := HSR.out
 omega
end Go.Proofs.Ytnfpmobmfcgfnaa

