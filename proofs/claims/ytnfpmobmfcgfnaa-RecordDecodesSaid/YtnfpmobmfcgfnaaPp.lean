/- PERIODS: THE WALKS OF civil.Good, octroiref04.Good, record.year, record.stretch (printed by gen/genper.py). -/
import Derived.Test.YtnfpmobmfcgfnaaPo
import Derived.Test.YtnfpmobmfcgfnaaPg
import Derived.Test.YtnfpmobmfcgfnaaPa
import Derived.Test.YtnfpmobmfcgfnaaPl
import Derived.Deep.QuietTactic
import Derived.BigQuiet
import Derived.OrdersIn
import Derived.TacticsIn
import Derived.RangeFuncNested
namespace Go.Proofs.Ytnfpmobmfcgfnaa
open Go.RowKit
def manyK (k : Int) : Int := if k = 1 then 12 else if k = 2 then 4 else if k = 3 then 1 else 0
def perB (k y x : Int) : Bool := ((inB y 1970 9999 && decide (1 ≤ x)) && decide (x ≤ manyK k))
theorem inyears_any (n : Int) (w : World) : Calls Try.prog 88 #[.int .i64 n] w fun e w' => e = .returned (.bool (inB n 1970 9999)) ∧ w = w' := by
 unfold inB
 by_cases h : 1970 ≤ n
 ·have e1 : decide ((1970 : Int) ≤ n) = true := decide_eq_true h
  simp only [e1, Bool.true_and]
  go_enter Try.func88, Try.ntmps88
  go_wp2
  go_ret
  exact ⟨rfl, rfl⟩
 ·have e1 : decide ((1970 : Int) ≤ n) = false := decide_eq_false h
  simp only [e1, Bool.false_and]
  go_enter Try.func88, Try.ntmps88
  go_wp2
  go_ret
  exact ⟨rfl, rfl⟩
theorem many_any (n : Int) (w : World) : Calls Try.prog 89 #[.int .i64 n] w fun e w' => e = .returned (.int .i64 (manyK n)) ∧ w = w' := by
 unfold manyK
 by_cases h1 : n = 1
 ·subst h1
  go_enter Try.func89, Try.ntmps89
  go_wp2
  go_ret
  exact ⟨rfl, rfl⟩
 by_cases h2 : n = 2
 ·subst h2
  go_enter Try.func89, Try.ntmps89
  go_wp2
  go_ret
  exact ⟨rfl, rfl⟩
 by_cases h3 : n = 3
 ·subst h3
  go_enter Try.func89, Try.ntmps89
  go_wp2
  go_ret
  exact ⟨rfl, rfl⟩
 have e1 : (n == 1) = false := by rw [beq_eq_false_iff_ne]; exact h1
 have e2 : (n == 2) = false := by rw [beq_eq_false_iff_ne]; exact h2
 have e3 : (n == 3) = false := by rw [beq_eq_false_iff_ne]; exact h3
 rw [if_neg h1, if_neg h2, if_neg h3]
 clear h1 h2 h3
 go_enter Try.func89, Try.ntmps89
 go_wp2
 go_ret
 exact ⟨rfl, rfl⟩
theorem rmany_any (n : Int) (w : World) : Calls Try.prog 90 #[.int .i64 n] w fun e w' => e = .returned (.int .i64 (manyK n)) ∧ w = w' := by
 unfold manyK
 by_cases h1 : n = 1
 ·subst h1
  go_enter Try.func90, Try.ntmps90
  go_wp2
  go_ret
  exact ⟨rfl, rfl⟩
 by_cases h2 : n = 2
 ·subst h2
  go_enter Try.func90, Try.ntmps90
  go_wp2
  go_ret
  exact ⟨rfl, rfl⟩
 by_cases h3 : n = 3
 ·subst h3
  go_enter Try.func90, Try.ntmps90
  go_wp2
  go_ret
  exact ⟨rfl, rfl⟩
 have e1 : (n == 1) = false := by rw [beq_eq_false_iff_ne]; exact h1
 have e2 : (n == 2) = false := by rw [beq_eq_false_iff_ne]; exact h2
 have e3 : (n == 3) = false := by rw [beq_eq_false_iff_ne]; exact h3
 rw [if_neg h1, if_neg h2, if_neg h3]
 clear h1 h2 h3
 go_enter Try.func90, Try.ntmps90
 go_wp2
 go_ret
 exact ⟨rfl, rfl⟩
structure PBox (w : World) (b : Nat) (k y x : Int) : Prop where
 hp : w.heap[b]? = some (.cells #[.int .i64 k, .int .i64 y, .int .i64 x] 51 (0, 0))
theorem PBox.below {w w' : World} {b : Nat} {k y x : Int} (h : PBox w b k y x) (hb : Below w.heap.size w w') : PBox w' b k y x := ⟨(hb.block b (lt_of_blk h.hp)).trans h.hp⟩
theorem PBox.cs {w : World} {b : Nat} {k y x : Int} (h : PBox w b k y x) : w.cell? ⟨b, 0, none⟩ = some (.int .i64 k) ∧ w.cell? ⟨b, 1, none⟩ = some (.int .i64 y) ∧ w.cell? ⟨b, 2, none⟩ = some (.int .i64 x) := ⟨cells_of h.hp 0 _ rfl, cells_of h.hp 1 _ rfl, cells_of h.hp 2 _ rfl⟩
set_option maxRecDepth 100000 in
set_option maxHeartbeats 8000000 in
theorem pergood_any (k y x : Int) (w : World) : Calls Try.prog 55 #[.agg #[.int .i64 k, .int .i64 y, .int .i64 x]] w fun e w' => e = .returned (.bool (perB k y x)) ∧ Below w.heap.size w w' := by
 have hal := (Below.refl w.heap.size w).alloc (Nat.le_refl _) (.cells #[.int .i64 k, .int .i64 y, .int .i64 x] 51)
 have hb1 : PBox (w.alloc (.cells #[.int .i64 k, .int .i64 y, .int .i64 x] 51)) w.heap.size k y x := ⟨heap_alloc_new w (.cells #[.int .i64 k, .int .i64 y, .int .i64 x] 51 (0, 0))⟩
 unfold perB
 generalize hM : manyK k = M
 have hny := fun W => inyears_any y W
 generalize inB y 1970 9999 = G0 at *
 generalize hX : decide (1 ≤ x) = X
 generalize hZ : decide (x ≤ M) = Z
 generalize h1 : (G0 && X) = G1
 generalize h2 : (G1 && Z) = G2
 have HNY := Lib.hid hny
 clear hny
 have hmk := fun W => many_any k W
 rw [hM] at hmk
 have HM := Lib.hid hmk
 have HX := Lib.hid hX
 have HZ := Lib.hid hZ
 have HG1 := Lib.hid h1
 have HG2 := Lib.hid h2
 clear hM hmk hX hZ h1 h2
 have HB1 := Lib.hid hb1
 have HAL := Lib.hid hal
 clear hb1 hal
 go_enter Try.func55, Try.ntmps55
 go_upto_region 1 with fail
 generalize World.alloc w _ = w1 at *
 refine wp_region_sp (by kernel_rfl) [isS (.pointer (some ⟨w.heap.size, 1, none⟩)), isS (.int .i64 y), isS (.bool G0), isS (.bool G0), isS (bif G0 then .pointer (some ⟨w.heap.size, 2, none⟩) else undef), isS (bif G0 then .int .i64 x else undef), isS (bif G0 then .bool X else undef), isS (.bool G1), isS (.bool G1), isS (bif G1 then .pointer (some ⟨w.heap.size, 2, none⟩) else undef), isS (bif G1 then .int .i64 x else undef), isS (bif G1 then .pointer (some ⟨w.heap.size, 0, none⟩) else undef), isS (bif G1 then .int .i64 k else undef), isS (bif G1 then .int .i64 M else undef), isS (bif G1 then .bool Z else undef), isS (.bool G2), isS (.bool G2)] (by kernel_rfl) (by kernel_rfl) (fun q hq => ?_) (fun a' w3 hc hs => ?_)
 ·match q, hq with
  | 0, _ =>
   intro a W hc hd
   have z1 := hc.same 1 (by kernel_rfl)
   simp only [List.getElem?_toArray, List.getElem?_cons_succ, List.getElem?_cons_zero, Option.getD_some] at z1
   refine obl_val rfl (wanted_none rfl) ?_ rfl
   go_simp
  | 1, _ =>
   intro a W hc hd
   have s0 : a.tmps[3]?.getD undef = (.pointer (some ⟨w.heap.size, 1, none⟩)) := hd 0 (by kernel_rfl)
   obtain ⟨q0, q1, q2⟩ := (HB1.out.below ((Below.refl w1.heap.size w1).drew.trans hc.below)).cs
   refine obl_val rfl (wanted_none rfl) ?_ rfl
   go_simp
  | 2, _ =>
   intro a W hc hd
   have s1 : a.tmps[4]?.getD undef = (.int .i64 y) := hd 1 (by kernel_rfl)
   refine obl_call rfl (wanted_none rfl) (by go_simp) (HNY.out W) ?_
   rintro e w8 ⟨rfl, rfl⟩
   exact ⟨_, rfl, rfl, Below.refl _ _⟩
  | 3, _ =>
   intro a W hc hd
   have s2 : a.tmps[5]?.getD undef = (.bool G0) := hd 2 (by kernel_rfl)
   refine obl_val rfl (wanted_none rfl) ?_ rfl
   go_simp
  | 4, _ =>
   intro a W hc hd
   have z1 := hc.same 1 (by kernel_rfl)
   have s3 : a.tmps[6]?.getD undef = (.bool G0) := hd 3 (by kernel_rfl)
   simp only [List.getElem?_toArray, List.getElem?_cons_succ, List.getElem?_cons_zero, Option.getD_some] at z1
   cases G0
   ·exact obl_skip rfl (wanted_not rfl rfl s3) rfl
   ·skip
    refine obl_val rfl (wanted_some rfl rfl s3) ?_ rfl
    go_simp
  | 5, _ =>
   intro a W hc hd
   have s4 : a.tmps[7]?.getD undef = (bif G0 then .pointer (some ⟨w.heap.size, 2, none⟩) else undef) := hd 4 (by kernel_rfl)
   have s3 : a.tmps[6]?.getD undef = (.bool G0) := hd 3 (by kernel_rfl)
   cases G0
   ·exact obl_skip rfl (wanted_not rfl rfl s3) rfl
   ·skip
    simp only [cond_true] at s4
    obtain ⟨q0, q1, q2⟩ := (HB1.out.below ((Below.refl w1.heap.size w1).drew.trans hc.below)).cs
    refine obl_val rfl (wanted_some rfl rfl s3) ?_ rfl
    go_simp
  | 6, _ =>
   intro a W hc hd
   have s5 : a.tmps[8]?.getD undef = (bif G0 then .int .i64 x else undef) := hd 5 (by kernel_rfl)
   have s3 : a.tmps[6]?.getD undef = (.bool G0) := hd 3 (by kernel_rfl)
   cases G0
   ·exact obl_skip rfl (wanted_not rfl rfl s3) rfl
   ·skip
    simp only [cond_true] at s5
    refine obl_val rfl (wanted_some rfl rfl s3) ?_ rfl
    go_simp
    exact HX.out
  | 7, _ =>
   intro a W hc hd
   have s3 : a.tmps[6]?.getD undef = (.bool G0) := hd 3 (by kernel_rfl)
   have s6 : a.tmps[9]?.getD undef = (bif G0 then .bool X else undef) := hd 6 (by kernel_rfl)
   have e := HG1.out
   cases G0
   ·rw [Bool.false_and] at e
    subst e
    refine obl_val rfl (wanted_none rfl) ?_ rfl
    go_simp
   ·rw [Bool.true_and] at e
    subst e
    simp only [cond_true] at s6
    refine obl_val rfl (wanted_none rfl) ?_ rfl
    go_simp
  | 8, _ =>
   intro a W hc hd
   have s7 : a.tmps[10]?.getD undef = (.bool G1) := hd 7 (by kernel_rfl)
   refine obl_val rfl (wanted_none rfl) ?_ rfl
   go_simp
  | 9, _ =>
   intro a W hc hd
   have z1 := hc.same 1 (by kernel_rfl)
   have s8 : a.tmps[11]?.getD undef = (.bool G1) := hd 8 (by kernel_rfl)
   simp only [List.getElem?_toArray, List.getElem?_cons_succ, List.getElem?_cons_zero, Option.getD_some] at z1
   cases G1
   ·exact obl_skip rfl (wanted_not rfl rfl s8) rfl
   ·skip
    refine obl_val rfl (wanted_some rfl rfl s8) ?_ rfl
    go_simp
  | 10, _ =>
   intro a W hc hd
   have s9 : a.tmps[12]?.getD undef = (bif G1 then .pointer (some ⟨w.heap.size, 2, none⟩) else undef) := hd 9 (by kernel_rfl)
   have s8 : a.tmps[11]?.getD undef = (.bool G1) := hd 8 (by kernel_rfl)
   cases G1
   ·exact obl_skip rfl (wanted_not rfl rfl s8) rfl
   ·skip
    simp only [cond_true] at s9
    obtain ⟨q0, q1, q2⟩ := (HB1.out.below ((Below.refl w1.heap.size w1).drew.trans hc.below)).cs
    refine obl_val rfl (wanted_some rfl rfl s8) ?_ rfl
    go_simp
  | 11, _ =>
   intro a W hc hd
   have z1 := hc.same 1 (by kernel_rfl)
   have s8 : a.tmps[11]?.getD undef = (.bool G1) := hd 8 (by kernel_rfl)
   simp only [List.getElem?_toArray, List.getElem?_cons_succ, List.getElem?_cons_zero, Option.getD_some] at z1
   cases G1
   ·exact obl_skip rfl (wanted_not rfl rfl s8) rfl
   ·skip
    refine obl_val rfl (wanted_some rfl rfl s8) ?_ rfl
    go_simp
  | 12, _ =>
   intro a W hc hd
   have s11 : a.tmps[14]?.getD undef = (bif G1 then .pointer (some ⟨w.heap.size, 0, none⟩) else undef) := hd 11 (by kernel_rfl)
   have s8 : a.tmps[11]?.getD undef = (.bool G1) := hd 8 (by kernel_rfl)
   cases G1
   ·exact obl_skip rfl (wanted_not rfl rfl s8) rfl
   ·skip
    simp only [cond_true] at s11
    obtain ⟨q0, q1, q2⟩ := (HB1.out.below ((Below.refl w1.heap.size w1).drew.trans hc.below)).cs
    refine obl_val rfl (wanted_some rfl rfl s8) ?_ rfl
    go_simp
  | 13, _ =>
   intro a W hc hd
   have s12 : a.tmps[15]?.getD undef = (bif G1 then .int .i64 k else undef) := hd 12 (by kernel_rfl)
   have s8 : a.tmps[11]?.getD undef = (.bool G1) := hd 8 (by kernel_rfl)
   cases G1
   ·exact obl_skip rfl (wanted_not rfl rfl s8) rfl
   ·skip
    simp only [cond_true] at s12
    refine obl_call rfl (wanted_some rfl rfl s8) (by go_simp) (HM.out W) ?_
    rintro e w8 ⟨rfl, rfl⟩
    exact ⟨_, rfl, rfl, Below.refl _ _⟩
  | 14, _ =>
   intro a W hc hd
   have s10 : a.tmps[13]?.getD undef = (bif G1 then .int .i64 x else undef) := hd 10 (by kernel_rfl)
   have s13 : a.tmps[16]?.getD undef = (bif G1 then .int .i64 M else undef) := hd 13 (by kernel_rfl)
   have s8 : a.tmps[11]?.getD undef = (.bool G1) := hd 8 (by kernel_rfl)
   cases G1
   ·exact obl_skip rfl (wanted_not rfl rfl s8) rfl
   ·skip
    simp only [cond_true] at s10 s13
    refine obl_val rfl (wanted_some rfl rfl s8) ?_ rfl
    go_simp
    exact HZ.out
  | 15, _ =>
   intro a W hc hd
   have s8 : a.tmps[11]?.getD undef = (.bool G1) := hd 8 (by kernel_rfl)
   have s14 : a.tmps[17]?.getD undef = (bif G1 then .bool Z else undef) := hd 14 (by kernel_rfl)
   have e := HG2.out
   cases G1
   ·rw [Bool.false_and] at e
    subst e
    refine obl_val rfl (wanted_none rfl) ?_ rfl
    go_simp
   ·rw [Bool.true_and] at e
    subst e
    simp only [cond_true] at s14
    refine obl_val rfl (wanted_none rfl) ?_ rfl
    go_simp
  | 16, _ =>
   intro a W hc hd
   have s15 : a.tmps[18]?.getD undef = (.bool G2) := hd 15 (by kernel_rfl)
   refine obl_val rfl (wanted_none rfl) ?_ rfl
   go_simp
  | n + 17, h => exact absurd h (by simp)
 ·skip
  have hfr := grow_frame hc [(3, (.pointer (some ⟨w.heap.size, 1, none⟩))), (4, (.int .i64 y)), (5, (.bool G0)), (6, (.bool G0)), (7, (bif G0 then .pointer (some ⟨w.heap.size, 2, none⟩) else undef)), (8, (bif G0 then .int .i64 x else undef)), (9, (bif G0 then .bool X else undef)), (10, (.bool G1)), (11, (.bool G1)), (12, (bif G1 then .pointer (some ⟨w.heap.size, 2, none⟩) else undef)), (13, (bif G1 then .int .i64 x else undef)), (14, (bif G1 then .pointer (some ⟨w.heap.size, 0, none⟩) else undef)), (15, (bif G1 then .int .i64 k else undef)), (16, (bif G1 then .int .i64 M else undef)), (17, (bif G1 then .bool Z else undef)), (18, (.bool G2)), (2, (.bool G2))] (by kernel_rfl) (fun p hp => by
    simp only [List.mem_cons, List.not_mem_nil, or_false] at hp
    rcases hp with rfl | rfl | rfl | rfl | rfl | rfl | rfl | rfl | rfl | rfl | rfl | rfl | rfl | rfl | rfl | rfl | rfl
    ·exact hs 0 3 (by decide) (by kernel_rfl)
    ·exact hs 1 4 (by decide) (by kernel_rfl)
    ·exact hs 2 5 (by decide) (by kernel_rfl)
    ·exact hs 3 6 (by decide) (by kernel_rfl)
    ·exact hs 4 7 (by decide) (by kernel_rfl)
    ·exact hs 5 8 (by decide) (by kernel_rfl)
    ·exact hs 6 9 (by decide) (by kernel_rfl)
    ·exact hs 7 10 (by decide) (by kernel_rfl)
    ·exact hs 8 11 (by decide) (by kernel_rfl)
    ·exact hs 9 12 (by decide) (by kernel_rfl)
    ·exact hs 10 13 (by decide) (by kernel_rfl)
    ·exact hs 11 14 (by decide) (by kernel_rfl)
    ·exact hs 12 15 (by decide) (by kernel_rfl)
    ·exact hs 13 16 (by decide) (by kernel_rfl)
    ·exact hs 14 17 (by decide) (by kernel_rfl)
    ·exact hs 15 18 (by decide) (by kernel_rfl)
    ·exact hs 16 2 (by decide) (by kernel_rfl)
    )
  simp only [List.range, List.range.loop, List.size_toArray, List.length_cons, List.length_nil, List.map_cons, List.map_nil, List.lookup_cons, List.lookup_nil, Nat.reduceAdd, Nat.reduceBEq, Option.getD_some, Option.getD_none, List.getElem?_toArray, List.getElem?_cons_succ, List.getElem?_cons_zero] at hfr
  subst hfr
  have hb3 := HAL.out.trans (((Below.refl w1.heap.size w1).drew.trans hc.below).mono HAL.out.size)
  clear hc hs
  go_wp2
  go_ret
  exact ⟨rfl, hb3⟩
set_option maxRecDepth 100000 in
set_option maxHeartbeats 8000000 in
theorem rpergood_any (k y x : Int) (w : World) : Calls Try.prog 58 #[.agg #[.int .i64 k, .int .i64 y, .int .i64 x]] w fun e w' => e = .returned (.bool (perB k y x)) ∧ Below w.heap.size w w' := by
 have hal := (Below.refl w.heap.size w).alloc (Nat.le_refl _) (.cells #[.int .i64 k, .int .i64 y, .int .i64 x] 51)
 have hb1 : PBox (w.alloc (.cells #[.int .i64 k, .int .i64 y, .int .i64 x] 51)) w.heap.size k y x := ⟨heap_alloc_new w (.cells #[.int .i64 k, .int .i64 y, .int .i64 x] 51 (0, 0))⟩
 unfold perB
 generalize hM : manyK k = M
 unfold inB
 generalize hA : decide (1970 ≤ y) = A0
 generalize hB : decide (y ≤ 9999) = B0
 generalize hX : decide (1 ≤ x) = X
 generalize hZ : decide (x ≤ M) = Z
 generalize h0 : (A0 && B0) = G0
 generalize h1 : (G0 && X) = G1
 generalize h2 : (G1 && Z) = G2
 have hmk := fun W => rmany_any k W
 rw [hM] at hmk
 have HM := Lib.hid hmk
 have HA := Lib.hid hA
 have HB := Lib.hid hB
 have HX := Lib.hid hX
 have HZ := Lib.hid hZ
 have HG0 := Lib.hid h0
 have HG1 := Lib.hid h1
 have HG2 := Lib.hid h2
 clear hM hmk hA hB hX hZ h0 h1 h2
 have HB1 := Lib.hid hb1
 have HAL := Lib.hid hal
 clear hb1 hal
 go_enter Try.func58, Try.ntmps58
 go_upto_region 1 with fail
 generalize World.alloc w _ = w1 at *
 refine wp_region_sp (by kernel_rfl) [isS (.pointer (some ⟨w.heap.size, 1, none⟩)), isS (.int .i64 y), isS (.bool A0), isS (.bool A0), isS (bif A0 then .pointer (some ⟨w.heap.size, 1, none⟩) else undef), isS (bif A0 then .int .i64 y else undef), isS (bif A0 then .bool B0 else undef), isS (.bool G0), isS (.bool G0), isS (bif G0 then .pointer (some ⟨w.heap.size, 2, none⟩) else undef), isS (bif G0 then .int .i64 x else undef), isS (bif G0 then .bool X else undef), isS (.bool G1), isS (.bool G1), isS (bif G1 then .pointer (some ⟨w.heap.size, 2, none⟩) else undef), isS (bif G1 then .int .i64 x else undef), isS (bif G1 then .pointer (some ⟨w.heap.size, 0, none⟩) else undef), isS (bif G1 then .int .i64 k else undef), isS (bif G1 then .int .i64 M else undef), isS (bif G1 then .bool Z else undef), isS (.bool G2), isS (.bool G2)] (by kernel_rfl) (by kernel_rfl) (fun q hq => ?_) (fun a' w3 hc hs => ?_)
 ·match q, hq with
  | 0, _ =>
   intro a W hc hd
   have z1 := hc.same 1 (by kernel_rfl)
   simp only [List.getElem?_toArray, List.getElem?_cons_succ, List.getElem?_cons_zero, Option.getD_some] at z1
   refine obl_val rfl (wanted_none rfl) ?_ rfl
   go_simp
  | 1, _ =>
   intro a W hc hd
   have s0 : a.tmps[3]?.getD undef = (.pointer (some ⟨w.heap.size, 1, none⟩)) := hd 0 (by kernel_rfl)
   obtain ⟨q0, q1, q2⟩ := (HB1.out.below ((Below.refl w1.heap.size w1).drew.trans hc.below)).cs
   refine obl_val rfl (wanted_none rfl) ?_ rfl
   go_simp
  | 2, _ =>
   intro a W hc hd
   have s1 : a.tmps[4]?.getD undef = (.int .i64 y) := hd 1 (by kernel_rfl)
   refine obl_val rfl (wanted_none rfl) ?_ rfl
   go_simp
   exact HA.out
  | 3, _ =>
   intro a W hc hd
   have s2 : a.tmps[5]?.getD undef = (.bool A0) := hd 2 (by kernel_rfl)
   refine obl_val rfl (wanted_none rfl) ?_ rfl
   go_simp
  | 4, _ =>
   intro a W hc hd
   have z1 := hc.same 1 (by kernel_rfl)
   have s3 : a.tmps[6]?.getD undef = (.bool A0) := hd 3 (by kernel_rfl)
   simp only [List.getElem?_toArray, List.getElem?_cons_succ, List.getElem?_cons_zero, Option.getD_some] at z1
   cases A0
   ·exact obl_skip rfl (wanted_not rfl rfl s3) rfl
   ·skip
    refine obl_val rfl (wanted_some rfl rfl s3) ?_ rfl
    go_simp
  | 5, _ =>
   intro a W hc hd
   have s4 : a.tmps[7]?.getD undef = (bif A0 then .pointer (some ⟨w.heap.size, 1, none⟩) else undef) := hd 4 (by kernel_rfl)
   have s3 : a.tmps[6]?.getD undef = (.bool A0) := hd 3 (by kernel_rfl)
   cases A0
   ·exact obl_skip rfl (wanted_not rfl rfl s3) rfl
   ·skip
    simp only [cond_true] at s4
    obtain ⟨q0, q1, q2⟩ := (HB1.out.below ((Below.refl w1.heap.size w1).drew.trans hc.below)).cs
    refine obl_val rfl (wanted_some rfl rfl s3) ?_ rfl
    go_simp
  | 6, _ =>
   intro a W hc hd
   have s5 : a.tmps[8]?.getD undef = (bif A0 then .int .i64 y else undef) := hd 5 (by kernel_rfl)
   have s3 : a.tmps[6]?.getD undef = (.bool A0) := hd 3 (by kernel_rfl)
   cases A0
   ·exact obl_skip rfl (wanted_not rfl rfl s3) rfl
   ·skip
    simp only [cond_true] at s5
    refine obl_val rfl (wanted_some rfl rfl s3) ?_ rfl
    go_simp
    exact HB.out
  | 7, _ =>
   intro a W hc hd
   have s3 : a.tmps[6]?.getD undef = (.bool A0) := hd 3 (by kernel_rfl)
   have s6 : a.tmps[9]?.getD undef = (bif A0 then .bool B0 else undef) := hd 6 (by kernel_rfl)
   have e := HG0.out
   cases A0
   ·rw [Bool.false_and] at e
    subst e
    refine obl_val rfl (wanted_none rfl) ?_ rfl
    go_simp
   ·rw [Bool.true_and] at e
    subst e
    simp only [cond_true] at s6
    refine obl_val rfl (wanted_none rfl) ?_ rfl
    go_simp
  | 8, _ =>
   intro a W hc hd
   have s7 : a.tmps[10]?.getD undef = (.bool G0) := hd 7 (by kernel_rfl)
   refine obl_val rfl (wanted_none rfl) ?_ rfl
   go_simp
  | 9, _ =>
   intro a W hc hd
   have z1 := hc.same 1 (by kernel_rfl)
   have s8 : a.tmps[11]?.getD undef = (.bool G0) := hd 8 (by kernel_rfl)
   simp only [List.getElem?_toArray, List.getElem?_cons_succ, List.getElem?_cons_zero, Option.getD_some] at z1
   cases G0
   ·exact obl_skip rfl (wanted_not rfl rfl s8) rfl
   ·skip
    refine obl_val rfl (wanted_some rfl rfl s8) ?_ rfl
    go_simp
  | 10, _ =>
   intro a W hc hd
   have s9 : a.tmps[12]?.getD undef = (bif G0 then .pointer (some ⟨w.heap.size, 2, none⟩) else undef) := hd 9 (by kernel_rfl)
   have s8 : a.tmps[11]?.getD undef = (.bool G0) := hd 8 (by kernel_rfl)
   cases G0
   ·exact obl_skip rfl (wanted_not rfl rfl s8) rfl
   ·skip
    simp only [cond_true] at s9
    obtain ⟨q0, q1, q2⟩ := (HB1.out.below ((Below.refl w1.heap.size w1).drew.trans hc.below)).cs
    refine obl_val rfl (wanted_some rfl rfl s8) ?_ rfl
    go_simp
  | 11, _ =>
   intro a W hc hd
   have s10 : a.tmps[13]?.getD undef = (bif G0 then .int .i64 x else undef) := hd 10 (by kernel_rfl)
   have s8 : a.tmps[11]?.getD undef = (.bool G0) := hd 8 (by kernel_rfl)
   cases G0
   ·exact obl_skip rfl (wanted_not rfl rfl s8) rfl
   ·skip
    simp only [cond_true] at s10
    refine obl_val rfl (wanted_some rfl rfl s8) ?_ rfl
    go_simp
    exact HX.out
  | 12, _ =>
   intro a W hc hd
   have s8 : a.tmps[11]?.getD undef = (.bool G0) := hd 8 (by kernel_rfl)
   have s11 : a.tmps[14]?.getD undef = (bif G0 then .bool X else undef) := hd 11 (by kernel_rfl)
   have e := HG1.out
   cases G0
   ·rw [Bool.false_and] at e
    subst e
    refine obl_val rfl (wanted_none rfl) ?_ rfl
    go_simp
   ·rw [Bool.true_and] at e
    subst e
    simp only [cond_true] at s11
    refine obl_val rfl (wanted_none rfl) ?_ rfl
    go_simp
  | 13, _ =>
   intro a W hc hd
   have s12 : a.tmps[15]?.getD undef = (.bool G1) := hd 12 (by kernel_rfl)
   refine obl_val rfl (wanted_none rfl) ?_ rfl
   go_simp
  | 14, _ =>
   intro a W hc hd
   have z1 := hc.same 1 (by kernel_rfl)
   have s13 : a.tmps[16]?.getD undef = (.bool G1) := hd 13 (by kernel_rfl)
   simp only [List.getElem?_toArray, List.getElem?_cons_succ, List.getElem?_cons_zero, Option.getD_some] at z1
   cases G1
   ·exact obl_skip rfl (wanted_not rfl rfl s13) rfl
   ·skip
    refine obl_val rfl (wanted_some rfl rfl s13) ?_ rfl
    go_simp
  | 15, _ =>
   intro a W hc hd
   have s14 : a.tmps[17]?.getD undef = (bif G1 then .pointer (some ⟨w.heap.size, 2, none⟩) else undef) := hd 14 (by kernel_rfl)
   have s13 : a.tmps[16]?.getD undef = (.bool G1) := hd 13 (by kernel_rfl)
   cases G1
   ·exact obl_skip rfl (wanted_not rfl rfl s13) rfl
   ·skip
    simp only [cond_true] at s14
    obtain ⟨q0, q1, q2⟩ := (HB1.out.below ((Below.refl w1.heap.size w1).drew.trans hc.below)).cs
    refine obl_val rfl (wanted_some rfl rfl s13) ?_ rfl
    go_simp
  | 16, _ =>
   intro a W hc hd
   have z1 := hc.same 1 (by kernel_rfl)
   have s13 : a.tmps[16]?.getD undef = (.bool G1) := hd 13 (by kernel_rfl)
   simp only [List.getElem?_toArray, List.getElem?_cons_succ, List.getElem?_cons_zero, Option.getD_some] at z1
   cases G1
   ·exact obl_skip rfl (wanted_not rfl rfl s13) rfl
   ·skip
    refine obl_val rfl (wanted_some rfl rfl s13) ?_ rfl
    go_simp
  | 17, _ =>
   intro a W hc hd
   have s16 : a.tmps[19]?.getD undef = (bif G1 then .pointer (some ⟨w.heap.size, 0, none⟩) else undef) := hd 16 (by kernel_rfl)
   have s13 : a.tmps[16]?.getD undef = (.bool G1) := hd 13 (by kernel_rfl)
   cases G1
   ·exact obl_skip rfl (wanted_not rfl rfl s13) rfl
   ·skip
    simp only [cond_true] at s16
    obtain ⟨q0, q1, q2⟩ := (HB1.out.below ((Below.refl w1.heap.size w1).drew.trans hc.below)).cs
    refine obl_val rfl (wanted_some rfl rfl s13) ?_ rfl
    go_simp
  | 18, _ =>
   intro a W hc hd
   have s17 : a.tmps[20]?.getD undef = (bif G1 then .int .i64 k else undef) := hd 17 (by kernel_rfl)
   have s13 : a.tmps[16]?.getD undef = (.bool G1) := hd 13 (by kernel_rfl)
   cases G1
   ·exact obl_skip rfl (wanted_not rfl rfl s13) rfl
   ·skip
    simp only [cond_true] at s17
    refine obl_call rfl (wanted_some rfl rfl s13) (by go_simp) (HM.out W) ?_
    rintro e w8 ⟨rfl, rfl⟩
    exact ⟨_, rfl, rfl, Below.refl _ _⟩
  | 19, _ =>
   intro a W hc hd
   have s15 : a.tmps[18]?.getD undef = (bif G1 then .int .i64 x else undef) := hd 15 (by kernel_rfl)
   have s18 : a.tmps[21]?.getD undef = (bif G1 then .int .i64 M else undef) := hd 18 (by kernel_rfl)
   have s13 : a.tmps[16]?.getD undef = (.bool G1) := hd 13 (by kernel_rfl)
   cases G1
   ·exact obl_skip rfl (wanted_not rfl rfl s13) rfl
   ·skip
    simp only [cond_true] at s15 s18
    refine obl_val rfl (wanted_some rfl rfl s13) ?_ rfl
    go_simp
    exact HZ.out
  | 20, _ =>
   intro a W hc hd
   have s13 : a.tmps[16]?.getD undef = (.bool G1) := hd 13 (by kernel_rfl)
   have s19 : a.tmps[22]?.getD undef = (bif G1 then .bool Z else undef) := hd 19 (by kernel_rfl)
   have e := HG2.out
   cases G1
   ·rw [Bool.false_and] at e
    subst e
    refine obl_val rfl (wanted_none rfl) ?_ rfl
    go_simp
   ·rw [Bool.true_and] at e
    subst e
    simp only [cond_true] at s19
    refine obl_val rfl (wanted_none rfl) ?_ rfl
    go_simp
  | 21, _ =>
   intro a W hc hd
   have s20 : a.tmps[23]?.getD undef = (.bool G2) := hd 20 (by kernel_rfl)
   refine obl_val rfl (wanted_none rfl) ?_ rfl
   go_simp
  | n + 22, h => exact absurd h (by simp)
 ·skip
  have hfr := grow_frame hc [(3, (.pointer (some ⟨w.heap.size, 1, none⟩))), (4, (.int .i64 y)), (5, (.bool A0)), (6, (.bool A0)), (7, (bif A0 then .pointer (some ⟨w.heap.size, 1, none⟩) else undef)), (8, (bif A0 then .int .i64 y else undef)), (9, (bif A0 then .bool B0 else undef)), (10, (.bool G0)), (11, (.bool G0)), (12, (bif G0 then .pointer (some ⟨w.heap.size, 2, none⟩) else undef)), (13, (bif G0 then .int .i64 x else undef)), (14, (bif G0 then .bool X else undef)), (15, (.bool G1)), (16, (.bool G1)), (17, (bif G1 then .pointer (some ⟨w.heap.size, 2, none⟩) else undef)), (18, (bif G1 then .int .i64 x else undef)), (19, (bif G1 then .pointer (some ⟨w.heap.size, 0, none⟩) else undef)), (20, (bif G1 then .int .i64 k else undef)), (21, (bif G1 then .int .i64 M else undef)), (22, (bif G1 then .bool Z else undef)), (23, (.bool G2)), (2, (.bool G2))] (by kernel_rfl) (fun p hp => by
    simp only [List.mem_cons, List.not_mem_nil, or_false] at hp
    rcases hp with rfl | rfl | rfl | rfl | rfl | rfl | rfl | rfl | rfl | rfl | rfl | rfl | rfl | rfl | rfl | rfl | rfl | rfl | rfl | rfl | rfl | rfl
    ·exact hs 0 3 (by decide) (by kernel_rfl)
    ·exact hs 1 4 (by decide) (by kernel_rfl)
    ·exact hs 2 5 (by decide) (by kernel_rfl)
    ·exact hs 3 6 (by decide) (by kernel_rfl)
    ·exact hs 4 7 (by decide) (by kernel_rfl)
    ·exact hs 5 8 (by decide) (by kernel_rfl)
    ·exact hs 6 9 (by decide) (by kernel_rfl)
    ·exact hs 7 10 (by decide) (by kernel_rfl)
    ·exact hs 8 11 (by decide) (by kernel_rfl)
    ·exact hs 9 12 (by decide) (by kernel_rfl)
    ·exact hs 10 13 (by decide) (by kernel_rfl)
    ·exact hs 11 14 (by decide) (by kernel_rfl)
    ·exact hs 12 15 (by decide) (by kernel_rfl)
    ·exact hs 13 16 (by decide) (by kernel_rfl)
    ·exact hs 14 17 (by decide) (by kernel_rfl)
    ·exact hs 15 18 (by decide) (by kernel_rfl)
    ·exact hs 16 19 (by decide) (by kernel_rfl)
    ·exact hs 17 20 (by decide) (by kernel_rfl)
    ·exact hs 18 21 (by decide) (by kernel_rfl)
    ·exact hs 19 22 (by decide) (by kernel_rfl)
    ·exact hs 20 23 (by decide) (by kernel_rfl)
    ·exact hs 21 2 (by decide) (by kernel_rfl)
    )
  simp only [List.range, List.range.loop, List.size_toArray, List.length_cons, List.length_nil, List.map_cons, List.map_nil, List.lookup_cons, List.lookup_nil, Nat.reduceAdd, Nat.reduceBEq, Option.getD_some, Option.getD_none, List.getElem?_toArray, List.getElem?_cons_succ, List.getElem?_cons_zero] at hfr
  subst hfr
  have hb3 := HAL.out.trans (((Below.refl w1.heap.size w1).drew.trans hc.below).mono HAL.out.size)
  clear hc hs
  go_wp2
  go_ret
  exact ⟨rfl, hb3⟩
set_option maxRecDepth 100000 in
theorem year_any (k y x : Int) (w : World) : Calls Try.prog 56 #[.agg #[.int .i64 k, .int .i64 y, .int .i64 x]] w fun e w' => e = .returned (.bool (perB k y x && (k == 3))) ∧ Below w.heap.size w w' := by
 have hal := (Below.refl w.heap.size w).alloc (Nat.le_refl _) (.cells #[.int .i64 k, .int .i64 y, .int .i64 x] 51)
 have hb1 : PBox (w.alloc (.cells #[.int .i64 k, .int .i64 y, .int .i64 x] 51)) w.heap.size k y x := ⟨heap_alloc_new w (.cells #[.int .i64 k, .int .i64 y, .int .i64 x] 51 (0, 0))⟩
 have hpg := fun W => pergood_any k y x W
 generalize perB k y x = G at *
 have HB1 := Lib.hid hb1
 have HAL := Lib.hid hal
 clear hb1 hal
 go_enter Try.func56, Try.ntmps56
 go_upto_region 1 with fail
 generalize World.alloc w _ = w1 at *
 obtain ⟨q0, q1, q2⟩ := HB1.out.cs
 have hpg := hpg w1
 cases G
 ·go_wp2_with (go_at_call 55; (with_reducible refine hpg.mono ?_); rintro e w2 ⟨rfl, hb2⟩)
  go_ret
  exact ⟨rfl, HAL.out.trans (hb2.mono HAL.out.size)⟩
 ·go_wp2_with (go_at_call 55; (with_reducible refine hpg.mono ?_); rintro e w2 ⟨rfl, hb2⟩; clear q0 q1 q2 hpg; have hq := (HB1.out.below hb2).cs; obtain ⟨q0, q1, q2⟩ := hq)
  go_ret
  exact ⟨rfl, HAL.out.trans (hb2.mono HAL.out.size)⟩
def strB (d u : Int) : Bool := (inB d 0 2932896 && inB u 0 2932896) && decide (d ≤ u)
set_option maxRecDepth 100000 in
theorem stretch_any (o : Cm) (lv : Value) (w : World) : Calls Try.prog 52 #[.agg (o.vs lv)] w fun e w' => e = .returned (.bool (strB o.day o.til)) ∧ Below w.heap.size w w' := by
 have hal := (Below.refl w.heap.size w).alloc (Nat.le_refl _) (.cells (o.vs lv) 53)
 obtain ⟨c0, c1, c2, c3, c4, c5, c6, c7, c8, c9, c10, c11, c12, c13, c14, c15, c16, c17, c18, c19, c20, c21⟩ := (CBlk.made w o lv).box
 unfold strB
 have h1 := fun W => day_any o.day W
 have h2 := fun W => day_any o.til W
 generalize inB o.day 0 2932896 = G1 at *
 generalize inB o.til 0 2932896 = G2 at *
 generalize o.vs lv = V at *
 have HAL := Lib.hid hal
 clear hal c0 c1 c2 c3 c4 c7 c8 c9 c10 c11 c12 c13 c14 c15 c16 c17 c18 c19 c20 c21
 cases G1
 ·go_enter Try.func52, Try.ntmps52
  go_wp2_with (go_at_call 51; (with_reducible refine (h1 _).mono ?_); rintro e w2 ⟨rfl, rfl⟩)
  go_ret
  exact ⟨rfl, HAL.out⟩
 cases G2
 ·go_enter Try.func52, Try.ntmps52
  go_wp2_with (first | (go_at_call 51; (with_reducible refine (h1 _).mono ?_); rintro e w2 ⟨rfl, rfl⟩; clear h1) | (go_at_call 51; (with_reducible refine (h2 _).mono ?_); rintro e w2 ⟨rfl, rfl⟩))
  go_ret
  exact ⟨rfl, HAL.out⟩
 ·simp only [Bool.true_and]
  go_enter Try.func52, Try.ntmps52
  go_wp2_with (first | (go_at_call 51; (with_reducible refine (h1 _).mono ?_); rintro e w2 ⟨rfl, rfl⟩; clear h1) | (go_at_call 51; (with_reducible refine (h2 _).mono ?_); rintro e w2 ⟨rfl, rfl⟩))
  go_ret
  exact ⟨rfl, HAL.out⟩
end Go.Proofs.Ytnfpmobmfcgfnaa

/- COMMANDS PLAINLY: what a kind has, what may be, what a command's bytes are. -/
namespace Go.Proofs.Ytnfpmobmfcgfnaa
open Go.RowKit
abbrev eB : ByteArray := ⟨#[]⟩
/-- the command without the fields that its kind has -/
def plainC (c : Cm) : Cm :=
 if c.kind = 2 then { c with kind := 0, cat := 0, bp := 0, til := 0, cty := eB, day := 0 }
 else if c.kind = 1 then { c with kind := 0, ix := 0, cty := eB, day := 0 }
 else if c.kind = 4 then { c with kind := 0, cty := eB, txt := eB, day := 0, til := 0 }
 else if c.kind = 3 then { c with kind := 0, day := 0, til := 0 }
 else if c.kind = 5 then { c with kind := 0, dn := 0, txt := eB, nm := 0, pk := 0, py := 0, px := 0 }
 else if c.kind = 7 then { c with kind := 0, nm := 0, pk := 0, py := 0, px := 0 }
 else if c.kind = 9 ∨ c.kind = 10 ∨ c.kind = 11 then { c with kind := 0, pk := 0, py := 0, px := 0 }
 else if c.kind = 6 then { c with kind := 0, txt := eB }
 else if c.kind = 8 then { c with kind := 0, doc := Dm.zero }
 else { c with kind := 0 }
/-- the fields that a kind has -/
def bareC (c : Cm) : Cm :=
 if c.kind = 1 then { Cm.zero with kind := c.kind, cty := c.cty, ix := c.ix, day := c.day }
 else if c.kind = 2 then { Cm.zero with kind := c.kind, cty := c.cty, cat := c.cat, day := c.day, til := c.til, bp := c.bp }
 else if c.kind = 3 then { Cm.zero with kind := c.kind, day := c.day, til := c.til }
 else if c.kind = 4 then { Cm.zero with kind := c.kind, cty := c.cty, txt := c.txt, day := c.day, til := c.til }
 else if c.kind = 5 then { Cm.zero with kind := c.kind, txt := c.txt, pk := c.pk, py := c.py, px := c.px, nm := c.nm, dn := c.dn }
 else if c.kind = 6 then { Cm.zero with kind := c.kind, txt := c.txt }
 else if c.kind = 7 then { Cm.zero with kind := c.kind, pk := c.pk, py := c.py, px := c.px, nm := c.nm }
 else if c.kind = 8 then { Cm.zero with kind := c.kind, doc := c.doc }
 else if c.kind = 9 ∨ c.kind = 10 ∨ c.kind = 11 then { Cm.zero with kind := c.kind, pk := c.pk, py := c.py, px := c.px }
 else { Cm.zero with kind := c.kind }
/-- may a kind's fields be? -/
def kindB (c : Cm) : Bool :=
 if c.kind = 1 then (memB c.cty.data.toList && inB c.ix 1 2) && inB c.day 0 2932896
 else if c.kind = 2 then ((memB c.cty.data.toList && inB c.cat 1 3) && strB c.day c.til) && inB c.bp 0 10000
 else if c.kind = 3 then strB c.day c.til
 else if c.kind = 4 then rightL c.cty.data.toList c.txt.data.toList && strB c.day c.til
 else if c.kind = 5 then (((curL c.txt.data.toList && perB c.pk c.py c.px) && (c.pk == 2)) && inB c.nm 1 1099511627776) && inB c.dn 1 1099511627776
 else if c.kind = 6 then decide (c.txt.size ≤ 65536)
 else if c.kind = 7 then (perB c.pk c.py c.px && (c.pk == 3)) && inB c.nm 0 100
 else if c.kind = 8 then goodDocB c.doc
 else if c.kind = 9 ∨ c.kind = 10 then perB c.pk c.py c.px && !(c.pk == 3)
 else if c.kind = 11 then perB c.pk c.py c.px && (c.pk == 3)
 else false
def goodCB (c : Cm) : Bool := decide (c = bareC c) && kindB c
end Go.Proofs.Ytnfpmobmfcgfnaa

