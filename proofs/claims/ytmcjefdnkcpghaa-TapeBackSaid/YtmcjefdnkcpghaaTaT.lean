/- THE WALK OF TapeBack. -/
import Derived.Test.YtmcjefdnkcpghaaTbD
namespace Go.Proofs.Ytmcjefdnkcpghaa
open Go.RowKit
/-- what TapeBack needs of a batch's sectors -/
structure BatchB (P C : List (List UInt8)) (s : Nat) (l : List UInt8) (sum k : Nat) (F L : List UInt8) : Prop where
  hlen : P.length = k + 1
  lo : 2 ≤ k
  hi : k ≤ 1000
  hsum : sum < 4294967296
  first : P[0]? = some F
  last : P[k]? = some L
  mid : (P.drop 1).take (k - 1) = C
  head : beginB F = true ∧ beginV F = headV s l.length sum
  fin : endB L s sum = true
  notb : blankB F = false
  join : joinB C s l.length sum = true ∧ joinL C s l.length sum = l
theorem back_cases (seq : Int) (l : List UInt8) (hl : l.length ≤ 5000) : (pagesR seq l = ([], 2)) ∨ ∃ (s : Nat) (P C : List (List UInt8)) (sum k : Nat) (F L : List UInt8), seq = (s : Int) ∧ pagesR seq l = (P, 0) ∧ BatchB P C s l sum k F L := by
  unfold pagesR
  by_cases h : rightB seq l.length = true
  · rw [if_pos h]
    obtain ⟨q1, q2, q3, q4⟩ := rightB_yes h
    have hs : ((seq.toNat : Nat) : Int) = seq := by omega
    have hc := cutsL_len l.length l (Nat.le_refl _)
    have hr : rightB ((seq.toNat : Nat) : Int) l.length = true := by rw [hs]; exact h
    refine .inr ⟨seq.toNat, pagesL seq.toNat l, cutsL l, sumL l, (cutsL l).length + 1, firstL seq.toNat l.length (sumL l), lastL seq.toNat (sumL l), hs.symm, rfl, ?_⟩
    refine ⟨by simp [pagesL], by omega, by omega, sumL_lt l, rfl, by unfold pagesL; simp, ?_, begin_first hr (sumL_lt l), end_last (by omega) (by omega), blank_first _ _ _, join_cuts hr⟩
    unfold pagesL
    simp
  · rw [if_neg h]; exact .inl rfl
set_option maxRecDepth 100000 in
set_option maxHeartbeats 8000000 in
theorem tback_any {w : World} (seq : Int) (_hseq : -9223372036854775808 ≤ seq ∧ seq ≤ 9223372036854775807) (v : Value) (l : List UInt8) (hv : Byt w w.heap.size v l) :
    Calls Try.prog 13 #[.int .i64 seq, v] w fun e w' => e = .returned (.bool true) ∧ Below w.heap.size w w' := by
  obtain ⟨A, c, rfl, hc, hm, hr0⟩ := id hv
  clear hr0
  unfold maxLen at hm
  by_cases h5 : 5000 < l.length
  · have e1 : decide ((5000 : Int) < (l.length : Int)) = true := decide_eq_true (by omega)
    clear hv
    go_enter Try.func13, Try.ntmps13
    go_wp2_with (first
      | (go_at_call 49; refine (lives10_any _).mono ?_; rintro e w9 ⟨rfl, hb9⟩))
    go_ret
    exact ⟨rfl, hb9⟩
  have h5' : l.length ≤ 5000 := by omega
  have e1 : decide ((5000 : Int) < (l.length : Int)) = false := decide_eq_false (by omega)
  have hp := pages_any seq _ l _ hv (by omega)
  unfold PagesPost at hp
  rcases back_cases seq l h5' with hPE | ⟨s, P, C, sum, k, F, L, rfl, hPE, hB⟩
  · rw [hPE] at hp
    simp only at hp
    clear hPE hv h5 h5' _hseq
    go_enter Try.func13, Try.ntmps13
    go_wp2_with fail
    refine hp.mono ?_
    rintro e w1 ⟨v1, rfl, ho1, hb1⟩
    obtain ⟨A1, c1, rfl, hc1, hm1⟩ := ho1.byts.form
    simp only [List.length_nil]
    clear ho1 hp
    go_wp2_with (first
      | (go_at_call 49; refine (lives10_any _).mono ?_; rintro e w9 ⟨rfl, hb9⟩))
    go_ret
    exact ⟨rfl, hb1.trans (hb9.mono hb1.size)⟩
  rw [hPE] at hp
  simp only at hp
  clear hPE h5 h5' _hseq
  have HV := Lib.hid hv
  clear hv
  go_enter Try.func13, Try.ntmps13
  go_wp2_with fail
  refine hp.mono ?_
  rintro e w1 ⟨v1, rfl, ho1, hb1⟩
  have hby := ho1.byts
  obtain ⟨A1, c1, rfl, hc1, hm1⟩ := hby.form
  have hF : P[0]'(by have := hB.hlen; omega) = F := (List.getElem_eq_iff _).2 hB.first
  have hL : P[k]'(by have := hB.hlen; omega) = L := (List.getElem_eq_iff _).2 hB.last
  obtain ⟨ad, u0, rfl, hadb, hc0, hu0⟩ := hby.atv 0 (by have := hB.hlen; omega)
  obtain ⟨ad', uL, e1, _, hcL, huL⟩ := hby.atv k (by have := hB.hlen; omega)
  cases e1
  rw [hF] at hu0
  rw [hL] at huL
  rw [add_zero] at hc0
  rw [hB.hlen] at hc1
  unfold maxLen at hm1
  have hbg := begin_any hu0
  unfold BeginPost at hbg
  rw [hB.head.1, hB.head.2] at hbg
  unfold headV at hbg
  have hmid := fun (W : World) (h : Byts W w1.heap.size (.slice (some ad) P.length c1) P) => Byts.mid 1 k h.heap (by have := hB.lo; omega) (by rw [hB.hlen]; omega)
  have hjo := fun (W : World) (v : Value) (h : Byts W W.heap.size v C) => join_any h s l.length sum hB.hsum
  unfold JoinPost at hjo
  rw [hB.join.1, hB.join.2] at hjo
  have hen := fun (W : World) (h : Byt W w1.heap.size uL L) => end_any h s l.length sum hB.hsum
  rw [hB.fin] at hen
  have hbl := fun (W : World) (h : Byt W w1.heap.size u0 F) => blank_any h
  rw [hB.notb] at hbl
  unfold headV at hen hjo
  rw [hB.mid] at hmid
  rw [hB.hlen] at hby hmid ⊢
  have i1 : decide ((k : Int) + 1 < 3) = false := decide_eq_false (by have := hB.lo; omega)
  have hk := hB.lo
  have hk2 := hB.hi
  have HBY := Lib.hid hby
  have HUL := Lib.hid huL
  have HU0 := Lib.hid hu0
  have HCL := Lib.hid hcL
  have HC0 := Lib.hid hc0
  have HB1 := Lib.hid hb1
  have HMID := Lib.hid hmid
  have HJO := Lib.hid hjo
  have HEN := Lib.hid hen
  have HBL := Lib.hid hbl
  clear hB hp hby ho1 hF hL hu0 huL hb1 hmid hjo hen hbl hcL
  go_wp2_with fail
  refine hbg.mono ?_
  rintro e w2 ⟨rfl, hb2⟩
  clear hbg hc0
  have HB2 := Lib.hid hb2
  clear hb2
  go_wp2_with fail
  have hbx := fun (W : World) (hW : Below (w2.alloc (.cells #[.int .i64 (s : Int), .int .i64 (l.length : Int), .int .u32 (sum : Int)] 77)).drew.heap.size (w2.alloc (.cells #[.int .i64 (s : Int), .int .i64 (l.length : Int), .int .u32 (sum : Int)] 77)).drew W) => (show (W.cell? ⟨w2.heap.size, 0, none⟩ = some (.int .i64 (s : Int)) ∧ W.cell? ⟨w2.heap.size, 1, none⟩ = some (.int .i64 (l.length : Int)) ∧ W.cell? ⟨w2.heap.size, 2, none⟩ = some (.int .u32 (sum : Int))) ∧ W.cell? ad = some u0 ∧ W.cell? (ad.add k) = some uL ∧ Byts W w1.heap.size (.slice (some ad) (k + 1) c1) P ∧ Byt W w1.heap.size u0 F ∧ Byt W w1.heap.size uL L ∧ Byt W w.heap.size (.slice A l.length c) l ∧ Below w.heap.size w W from by
    have hb12 : Below w1.heap.size w1 (w2.alloc (.cells #[.int .i64 (s : Int), .int .i64 (l.length : Int), .int .u32 (sum : Int)] 77)) := HB2.out.alloc HB2.out.size _
    have hW1 := hb12.drew.trans (hW.mono hb12.size)
    have hW0 := HB1.out.trans (hW1.mono HB1.out.size)
    have h6 := (hW.block w2.heap.size (lt_of_block (heap_alloc_new w2 _))).trans (heap_alloc_new w2 _)
    exact ⟨⟨cells_of h6 0 _ rfl, cells_of h6 1 _ rfl, cells_of h6 2 _ rfl⟩, (hW1.cell hadb).trans HC0.out, (hW1.cell (p := ad.add k) (by rw [addr_add_block]; exact hadb)).trans HCL.out, HBY.out.below hW1, HU0.out.below hW1, HUL.out.below hW1, HV.out.below hW0, hW0⟩)
  have HBX := Lib.hid hbx
  have i2 : ¬ ((k : Int) < 1) := by omega
  have i3 : (k : Int) ≤ (c1 : Int) := by omega
  have i4 : ¬ c1 = 1 := by omega
  have i5 : IntKind.i64.wrap (k : Int) = (k : Int) := by rw [IntKind.wrap_i64]; omega
  clear hbx
  -- region 9
  refine Q.wp_region_sp (by kernel_rfl) [isS (.slice (some ad) (k + 1) c1), isS (.slice (some ad) (k + 1) c1), isS (.int .i64 ((k : Int) + 1)), isS (.int .i64 (k : Int)), isS (.slice (some (ad.add 1)) (k - 1) (c1 - 1)), isS (.agg #[.int .i64 (s : Int), .int .i64 (l.length : Int), .int .u32 (sum : Int)]), joinS l true, joinS l true, bytS l, isS (.bool true), bytS l, isS (.bool true)] (by kernel_rfl) (by kernel_rfl) (fun i hi => ?_) (fun a w5 hc hs => ?_)
  · match i, hi with
    | 0, _ =>
      intro a W hc hd
      have z5 := hc.same 5 (by kernel_rfl)
      simp only [List.getElem?_toArray, List.getElem?_cons_succ, List.getElem?_cons_zero, Option.getD_some] at z5
      refine obl_val rfl (wanted_none rfl) ?_ rfl
      go_simp
    | 1, _ =>
      intro a W hc hd
      have z5 := hc.same 5 (by kernel_rfl)
      simp only [List.getElem?_toArray, List.getElem?_cons_succ, List.getElem?_cons_zero, Option.getD_some] at z5
      refine obl_val rfl (wanted_none rfl) ?_ rfl
      go_simp
    | 2, _ =>
      intro a W hc hd
      have s1 : a.tmps[41]?.getD undef = (.slice (some ad) (k + 1) c1) := hd 1 (by kernel_rfl)
      refine obl_val rfl (wanted_none rfl) ?_ rfl
      go_simp
    | 3, _ =>
      intro a W hc hd
      have s2 : a.tmps[42]?.getD undef = (.int .i64 ((k : Int) + 1)) := hd 2 (by kernel_rfl)
      refine obl_val rfl (wanted_none rfl) ?_ rfl
      go_simp
    | 4, _ =>
      intro a W hc hd
      have s0 : a.tmps[40]?.getD undef = (.slice (some ad) (k + 1) c1) := hd 0 (by kernel_rfl)
      have s3 : a.tmps[43]?.getD undef = (.int .i64 (k : Int)) := hd 3 (by kernel_rfl)
      refine obl_val rfl (wanted_none rfl) ?_ rfl
      go_simp
    | 5, _ =>
      intro a W hc hd
      have z7 := hc.same 7 (by kernel_rfl)
      simp only [List.getElem?_toArray, List.getElem?_cons_succ, List.getElem?_cons_zero, Option.getD_some] at z7
      obtain ⟨⟨y0, y1, y2⟩, q0, qL, hB, hF, hL, hV, qb⟩ := HBX.out W hc.below
      refine obl_val rfl (wanted_none rfl) ?_ rfl
      go_simp
    | 6, _ =>
      intro a W hc hd
      have s4 : a.tmps[44]?.getD undef = (.slice (some (ad.add 1)) (k - 1) (c1 - 1)) := hd 4 (by kernel_rfl)
      have s5 : a.tmps[45]?.getD undef = (.agg #[.int .i64 (s : Int), .int .i64 (l.length : Int), .int .u32 (sum : Int)]) := hd 5 (by kernel_rfl)
      obtain ⟨⟨y0, y1, y2⟩, q0, qL, hB, hF, hL, hV, qb⟩ := HBX.out W hc.below
      refine obl_call rfl (wanted_none rfl) (by go_simp) (HJO.out W _ (HMID.out W hB)) ?_
      rintro e w8 ⟨v8, rfl, hv8, hb8⟩
      exact ⟨_, rfl, ⟨v8, rfl, hv8⟩, hb8⟩
    | 7, _ =>
      intro a W hc hd
      have s6 : (joinS l true).f (a.tmps[46]?.getD undef) W := hd 6 (by kernel_rfl)
      obtain ⟨v4, h4, hb4⟩ := s6
      refine obl_val rfl (wanted_none rfl) ?_ ⟨v4, rfl, hb4⟩
      go_simp
    | 8, _ =>
      intro a W hc hd
      have s7 : (joinS l true).f (a.tmps[39]?.getD undef) W := hd 7 (by kernel_rfl)
      obtain ⟨v4, h4, hb4⟩ := s7
      refine obl_val rfl (wanted_none rfl) ?_ hb4
      go_simp
    | 9, _ =>
      intro a W hc hd
      have s7 : (joinS l true).f (a.tmps[39]?.getD undef) W := hd 7 (by kernel_rfl)
      obtain ⟨v4, h4, hb4⟩ := s7
      refine obl_val rfl (wanted_none rfl) ?_ rfl
      go_simp
    | 10, _ =>
      intro a W hc hd
      have s8 : (bytS l).f (a.tmps[47]?.getD undef) W := hd 8 (by kernel_rfl)
      refine obl_val rfl (wanted_none rfl) ?_ s8
      go_simp
    | 11, _ =>
      intro a W hc hd
      have s9 : a.tmps[48]?.getD undef = (.bool true) := hd 9 (by kernel_rfl)
      refine obl_val rfl (wanted_none rfl) ?_ rfl
      go_simp
    | n + 12, h => exact absurd h (by simp)
  · skip
    have hj5 : Byt w5 w5.heap.size (a.tmps[9]?.getD undef) l := hs 10 9 (by decide) (by kernel_rfl)
    have hfr := grow_frame hc [(40, (.slice (some ad) (k + 1) c1)), (41, (.slice (some ad) (k + 1) c1)), (42, (.int .i64 ((k : Int) + 1))), (43, (.int .i64 (k : Int))), (44, (.slice (some (ad.add 1)) (k - 1) (c1 - 1))), (45, (.agg #[.int .i64 (s : Int), .int .i64 (l.length : Int), .int .u32 (sum : Int)])), (46, a.tmps[46]?.getD undef), (39, a.tmps[39]?.getD undef), (47, a.tmps[47]?.getD undef), (48, (.bool true)), (9, a.tmps[9]?.getD undef), (10, (.bool true))] (by kernel_rfl) (fun p hp => by
        simp only [List.mem_cons, List.not_mem_nil, or_false] at hp
        rcases hp with rfl | rfl | rfl | rfl | rfl | rfl | rfl | rfl | rfl | rfl | rfl | rfl
        · exact hs 0 40 (by decide) (by kernel_rfl)
        · exact hs 1 41 (by decide) (by kernel_rfl)
        · exact hs 2 42 (by decide) (by kernel_rfl)
        · exact hs 3 43 (by decide) (by kernel_rfl)
        · exact hs 4 44 (by decide) (by kernel_rfl)
        · exact hs 5 45 (by decide) (by kernel_rfl)
        · rfl
        · rfl
        · rfl
        · exact hs 9 48 (by decide) (by kernel_rfl)
        · rfl
        · exact hs 11 10 (by decide) (by kernel_rfl)
        )
    generalize a.tmps[46]?.getD undef = z46 at hfr
    generalize a.tmps[39]?.getD undef = z39 at hfr
    generalize a.tmps[47]?.getD undef = z47 at hfr
    generalize a.tmps[9]?.getD undef = z9 at hfr hj5
    simp only [List.range, List.range.loop, List.size_toArray, List.length_cons, List.length_nil, List.map_cons, List.map_nil, List.lookup_cons, List.lookup_nil, Nat.reduceAdd, Nat.reduceBEq, Option.getD_some, Option.getD_none, List.getElem?_toArray, List.getElem?_cons_succ, List.getElem?_cons_zero] at hfr
    subst hfr
  -- end 9
    have HJ5 := Lib.hid hj5
    have HB5 := Lib.hid hc.below.drew
    clear hj5 hs hc
    generalize w2.heap.size = b3 at *
    go_wp2_with fail
    -- region 10
    refine Q.wp_region_sp (by kernel_rfl) [isS (.bool true), isS (.bool true), isS (.pointer (some ⟨b3, 0, none⟩)), isS (.int .i64 (s : Int)), isS (.int .i64 (s : Int)), isS (.bool true), isS (.bool true), isS (.bool true), isS (.pointer (some ⟨b3, 1, none⟩)), isS (.int .i64 (l.length : Int)), isS (.slice A l.length c), isS (.int .i64 (l.length : Int)), isS (.bool true), isS (.bool true), isS (.bool true), isS (.bool true), isS (.bool true), isS (.bool true), isS z9, isS (.string (bsA l)), isS (.slice A l.length c), isS (.string (bsA l)), isS (.bool true), isS (.bool true), isS (.bool true), isS (.slice (some ad) (k + 1) c1), isS (.slice (some ad) (k + 1) c1), isS (.int .i64 ((k : Int) + 1)), isS (.int .i64 (k : Int)), isS (.pointer (some (ad.add k))), isS uL, isS (.agg #[.int .i64 (s : Int), .int .i64 (l.length : Int), .int .u32 (sum : Int)]), isS (.bool true), isS (.bool true), isS (.bool true), isS (.slice (some ad) (k + 1) c1), isS (.pointer (some ad)), isS u0, isS (.bool false), isS (.bool true), isS (.bool true), isS (.bool true), isS (.bool true), isS (.bool true), isS (.bool true)] (by kernel_rfl) (by kernel_rfl) (fun i hi => ?_) (fun a w6 hc hs => ?_)
    · match i, hi with
      | 0, _ =>
        intro a W hc hd
        have z8 := hc.same 8 (by kernel_rfl)
        simp only [List.getElem?_toArray, List.getElem?_cons_succ, List.getElem?_cons_zero, Option.getD_some] at z8
        refine obl_val rfl (wanted_none rfl) ?_ rfl
        go_simp
      | 1, _ =>
        intro a W hc hd
        have s0 : a.tmps[49]?.getD undef = (.bool true) := hd 0 (by kernel_rfl)
        refine obl_val rfl (wanted_none rfl) ?_ rfl
        go_simp
      | 2, _ =>
        intro a W hc hd
        have z7 := hc.same 7 (by kernel_rfl)
        have s1 : a.tmps[50]?.getD undef = (.bool true) := hd 1 (by kernel_rfl)
        simp only [List.getElem?_toArray, List.getElem?_cons_succ, List.getElem?_cons_zero, Option.getD_some] at z7
        refine obl_val rfl (wanted_some rfl rfl s1) ?_ rfl
        go_simp
      | 3, _ =>
        intro a W hc hd
        have s2 : a.tmps[51]?.getD undef = (.pointer (some ⟨b3, 0, none⟩)) := hd 2 (by kernel_rfl)
        have s1 : a.tmps[50]?.getD undef = (.bool true) := hd 1 (by kernel_rfl)
        obtain ⟨⟨y0, y1, y2⟩, q0, qL, hB, hF, hL, hV, qb⟩ := HBX.out W (HB5.out.trans (hc.below.mono HB5.out.size))
        refine obl_val rfl (wanted_some rfl rfl s1) ?_ rfl
        go_simp
      | 4, _ =>
        intro a W hc hd
        have z0 := hc.same 0 (by kernel_rfl)
        have s1 : a.tmps[50]?.getD undef = (.bool true) := hd 1 (by kernel_rfl)
        simp only [List.getElem?_toArray, List.getElem?_cons_zero, Option.getD_some] at z0
        refine obl_val rfl (wanted_some rfl rfl s1) ?_ rfl
        go_simp
      | 5, _ =>
        intro a W hc hd
        have s3 : a.tmps[52]?.getD undef = (.int .i64 (s : Int)) := hd 3 (by kernel_rfl)
        have s4 : a.tmps[53]?.getD undef = (.int .i64 (s : Int)) := hd 4 (by kernel_rfl)
        have s1 : a.tmps[50]?.getD undef = (.bool true) := hd 1 (by kernel_rfl)
        refine obl_val rfl (wanted_some rfl rfl s1) ?_ rfl
        go_simp
      | 6, _ =>
        intro a W hc hd
        have s1 : a.tmps[50]?.getD undef = (.bool true) := hd 1 (by kernel_rfl)
        have s5 : a.tmps[54]?.getD undef = (.bool true) := hd 5 (by kernel_rfl)
        refine obl_val rfl (wanted_none rfl) ?_ rfl
        go_simp
      | 7, _ =>
        intro a W hc hd
        have s6 : a.tmps[55]?.getD undef = (.bool true) := hd 6 (by kernel_rfl)
        refine obl_val rfl (wanted_none rfl) ?_ rfl
        go_simp
      | 8, _ =>
        intro a W hc hd
        have z7 := hc.same 7 (by kernel_rfl)
        have s7 : a.tmps[56]?.getD undef = (.bool true) := hd 7 (by kernel_rfl)
        simp only [List.getElem?_toArray, List.getElem?_cons_succ, List.getElem?_cons_zero, Option.getD_some] at z7
        refine obl_val rfl (wanted_some rfl rfl s7) ?_ rfl
        go_simp
      | 9, _ =>
        intro a W hc hd
        have s8 : a.tmps[57]?.getD undef = (.pointer (some ⟨b3, 1, none⟩)) := hd 8 (by kernel_rfl)
        have s7 : a.tmps[56]?.getD undef = (.bool true) := hd 7 (by kernel_rfl)
        obtain ⟨⟨y0, y1, y2⟩, q0, qL, hB, hF, hL, hV, qb⟩ := HBX.out W (HB5.out.trans (hc.below.mono HB5.out.size))
        refine obl_val rfl (wanted_some rfl rfl s7) ?_ rfl
        go_simp
      | 10, _ =>
        intro a W hc hd
        have z1 := hc.same 1 (by kernel_rfl)
        have s7 : a.tmps[56]?.getD undef = (.bool true) := hd 7 (by kernel_rfl)
        simp only [List.getElem?_toArray, List.getElem?_cons_succ, List.getElem?_cons_zero, Option.getD_some] at z1
        refine obl_val rfl (wanted_some rfl rfl s7) ?_ rfl
        go_simp
      | 11, _ =>
        intro a W hc hd
        have s10 : a.tmps[59]?.getD undef = (.slice A l.length c) := hd 10 (by kernel_rfl)
        have s7 : a.tmps[56]?.getD undef = (.bool true) := hd 7 (by kernel_rfl)
        refine obl_val rfl (wanted_some rfl rfl s7) ?_ rfl
        go_simp
      | 12, _ =>
        intro a W hc hd
        have s9 : a.tmps[58]?.getD undef = (.int .i64 (l.length : Int)) := hd 9 (by kernel_rfl)
        have s11 : a.tmps[60]?.getD undef = (.int .i64 (l.length : Int)) := hd 11 (by kernel_rfl)
        have s7 : a.tmps[56]?.getD undef = (.bool true) := hd 7 (by kernel_rfl)
        refine obl_val rfl (wanted_some rfl rfl s7) ?_ rfl
        go_simp
      | 13, _ =>
        intro a W hc hd
        have s7 : a.tmps[56]?.getD undef = (.bool true) := hd 7 (by kernel_rfl)
        have s12 : a.tmps[61]?.getD undef = (.bool true) := hd 12 (by kernel_rfl)
        refine obl_val rfl (wanted_none rfl) ?_ rfl
        go_simp
      | 14, _ =>
        intro a W hc hd
        have s13 : a.tmps[62]?.getD undef = (.bool true) := hd 13 (by kernel_rfl)
        refine obl_val rfl (wanted_none rfl) ?_ rfl
        go_simp
      | 15, _ =>
        intro a W hc hd
        have z10 := hc.same 10 (by kernel_rfl)
        have s14 : a.tmps[63]?.getD undef = (.bool true) := hd 14 (by kernel_rfl)
        simp only [List.getElem?_toArray, List.getElem?_cons_succ, List.getElem?_cons_zero, Option.getD_some] at z10
        refine obl_val rfl (wanted_some rfl rfl s14) ?_ rfl
        go_simp
      | 16, _ =>
        intro a W hc hd
        have s14 : a.tmps[63]?.getD undef = (.bool true) := hd 14 (by kernel_rfl)
        have s15 : a.tmps[64]?.getD undef = (.bool true) := hd 15 (by kernel_rfl)
        refine obl_val rfl (wanted_none rfl) ?_ rfl
        go_simp
      | 17, _ =>
        intro a W hc hd
        have s16 : a.tmps[65]?.getD undef = (.bool true) := hd 16 (by kernel_rfl)
        refine obl_val rfl (wanted_none rfl) ?_ rfl
        go_simp
      | 18, _ =>
        intro a W hc hd
        have z9 := hc.same 9 (by kernel_rfl)
        have s17 : a.tmps[66]?.getD undef = (.bool true) := hd 17 (by kernel_rfl)
        simp only [List.getElem?_toArray, List.getElem?_cons_succ, List.getElem?_cons_zero, Option.getD_some] at z9
        refine obl_val rfl (wanted_some rfl rfl s17) ?_ rfl
        go_simp
      | 19, _ =>
        intro a W hc hd
        have s18 : a.tmps[67]?.getD undef = z9 := hd 18 (by kernel_rfl)
        have s17 : a.tmps[66]?.getD undef = (.bool true) := hd 17 (by kernel_rfl)
        have e := (HJ5.out.drew.below hc.below).strA
        refine obl_val rfl (wanted_some rfl rfl s17) ?_ rfl
        go_simp
      | 20, _ =>
        intro a W hc hd
        have z1 := hc.same 1 (by kernel_rfl)
        have s17 : a.tmps[66]?.getD undef = (.bool true) := hd 17 (by kernel_rfl)
        simp only [List.getElem?_toArray, List.getElem?_cons_succ, List.getElem?_cons_zero, Option.getD_some] at z1
        refine obl_val rfl (wanted_some rfl rfl s17) ?_ rfl
        go_simp
      | 21, _ =>
        intro a W hc hd
        have s20 : a.tmps[69]?.getD undef = (.slice A l.length c) := hd 20 (by kernel_rfl)
        have s17 : a.tmps[66]?.getD undef = (.bool true) := hd 17 (by kernel_rfl)
        obtain ⟨⟨y0, y1, y2⟩, q0, qL, hB, hF, hL, hV, qb⟩ := HBX.out W (HB5.out.trans (hc.below.mono HB5.out.size))
        have e := hV.strA
        refine obl_val rfl (wanted_some rfl rfl s17) ?_ rfl
        go_simp
      | 22, _ =>
        intro a W hc hd
        have s19 : a.tmps[68]?.getD undef = (.string (bsA l)) := hd 19 (by kernel_rfl)
        have s21 : a.tmps[70]?.getD undef = (.string (bsA l)) := hd 21 (by kernel_rfl)
        have s17 : a.tmps[66]?.getD undef = (.bool true) := hd 17 (by kernel_rfl)
        refine obl_val rfl (wanted_some rfl rfl s17) (v := .bool (bsA l == bsA l)) ?_ (by rw [bsA_beq, decide_eq_true rfl]; rfl)
        exact exec_eqstr rfl (eval_tmp s19) (eval_tmp s21)
      | 23, _ =>
        intro a W hc hd
        have s17 : a.tmps[66]?.getD undef = (.bool true) := hd 17 (by kernel_rfl)
        have s22 : a.tmps[71]?.getD undef = (.bool true) := hd 22 (by kernel_rfl)
        refine obl_val rfl (wanted_none rfl) ?_ rfl
        go_simp
      | 24, _ =>
        intro a W hc hd
        have s23 : a.tmps[72]?.getD undef = (.bool true) := hd 23 (by kernel_rfl)
        refine obl_val rfl (wanted_none rfl) ?_ rfl
        go_simp
      | 25, _ =>
        intro a W hc hd
        have z5 := hc.same 5 (by kernel_rfl)
        have s24 : a.tmps[73]?.getD undef = (.bool true) := hd 24 (by kernel_rfl)
        simp only [List.getElem?_toArray, List.getElem?_cons_succ, List.getElem?_cons_zero, Option.getD_some] at z5
        refine obl_val rfl (wanted_some rfl rfl s24) ?_ rfl
        go_simp
      | 26, _ =>
        intro a W hc hd
        have z5 := hc.same 5 (by kernel_rfl)
        have s24 : a.tmps[73]?.getD undef = (.bool true) := hd 24 (by kernel_rfl)
        simp only [List.getElem?_toArray, List.getElem?_cons_succ, List.getElem?_cons_zero, Option.getD_some] at z5
        refine obl_val rfl (wanted_some rfl rfl s24) ?_ rfl
        go_simp
      | 27, _ =>
        intro a W hc hd
        have s26 : a.tmps[75]?.getD undef = (.slice (some ad) (k + 1) c1) := hd 26 (by kernel_rfl)
        have s24 : a.tmps[73]?.getD undef = (.bool true) := hd 24 (by kernel_rfl)
        refine obl_val rfl (wanted_some rfl rfl s24) ?_ rfl
        go_simp
      | 28, _ =>
        intro a W hc hd
        have s27 : a.tmps[76]?.getD undef = (.int .i64 ((k : Int) + 1)) := hd 27 (by kernel_rfl)
        have s24 : a.tmps[73]?.getD undef = (.bool true) := hd 24 (by kernel_rfl)
        refine obl_val rfl (wanted_some rfl rfl s24) ?_ rfl
        go_simp
      | 29, _ =>
        intro a W hc hd
        have s25 : a.tmps[74]?.getD undef = (.slice (some ad) (k + 1) c1) := hd 25 (by kernel_rfl)
        have s28 : a.tmps[77]?.getD undef = (.int .i64 (k : Int)) := hd 28 (by kernel_rfl)
        have s24 : a.tmps[73]?.getD undef = (.bool true) := hd 24 (by kernel_rfl)
        refine obl_val rfl (wanted_some rfl rfl s24) ?_ rfl
        go_simp
        intro h
        omega
      | 30, _ =>
        intro a W hc hd
        have s29 : a.tmps[78]?.getD undef = (.pointer (some (ad.add k))) := hd 29 (by kernel_rfl)
        have s24 : a.tmps[73]?.getD undef = (.bool true) := hd 24 (by kernel_rfl)
        obtain ⟨⟨y0, y1, y2⟩, q0, qL, hB, hF, hL, hV, qb⟩ := HBX.out W (HB5.out.trans (hc.below.mono HB5.out.size))
        refine obl_val rfl (wanted_some rfl rfl s24) ?_ rfl
        go_simp
      | 31, _ =>
        intro a W hc hd
        have z7 := hc.same 7 (by kernel_rfl)
        have s24 : a.tmps[73]?.getD undef = (.bool true) := hd 24 (by kernel_rfl)
        simp only [List.getElem?_toArray, List.getElem?_cons_succ, List.getElem?_cons_zero, Option.getD_some] at z7
        obtain ⟨⟨y0, y1, y2⟩, q0, qL, hB, hF, hL, hV, qb⟩ := HBX.out W (HB5.out.trans (hc.below.mono HB5.out.size))
        refine obl_val rfl (wanted_some rfl rfl s24) ?_ rfl
        go_simp
      | 32, _ =>
        intro a W hc hd
        have s30 : a.tmps[79]?.getD undef = uL := hd 30 (by kernel_rfl)
        have s31 : a.tmps[80]?.getD undef = (.agg #[.int .i64 (s : Int), .int .i64 (l.length : Int), .int .u32 (sum : Int)]) := hd 31 (by kernel_rfl)
        have s24 : a.tmps[73]?.getD undef = (.bool true) := hd 24 (by kernel_rfl)
        obtain ⟨⟨y0, y1, y2⟩, q0, qL, hB, hF, hL, hV, qb⟩ := HBX.out W (HB5.out.trans (hc.below.mono HB5.out.size))
        refine obl_call rfl (wanted_some rfl rfl s24) (by go_simp) (HEN.out W hL) ?_
        rintro e w8 ⟨rfl, hb8⟩
        exact ⟨_, rfl, rfl, hb8⟩
      | 33, _ =>
        intro a W hc hd
        have s24 : a.tmps[73]?.getD undef = (.bool true) := hd 24 (by kernel_rfl)
        have s32 : a.tmps[81]?.getD undef = (.bool true) := hd 32 (by kernel_rfl)
        refine obl_val rfl (wanted_none rfl) ?_ rfl
        go_simp
      | 34, _ =>
        intro a W hc hd
        have s33 : a.tmps[82]?.getD undef = (.bool true) := hd 33 (by kernel_rfl)
        refine obl_val rfl (wanted_none rfl) ?_ rfl
        go_simp
      | 35, _ =>
        intro a W hc hd
        have z5 := hc.same 5 (by kernel_rfl)
        have s34 : a.tmps[83]?.getD undef = (.bool true) := hd 34 (by kernel_rfl)
        simp only [List.getElem?_toArray, List.getElem?_cons_succ, List.getElem?_cons_zero, Option.getD_some] at z5
        refine obl_val rfl (wanted_some rfl rfl s34) ?_ rfl
        go_simp
      | 36, _ =>
        intro a W hc hd
        have s35 : a.tmps[84]?.getD undef = (.slice (some ad) (k + 1) c1) := hd 35 (by kernel_rfl)
        have s34 : a.tmps[83]?.getD undef = (.bool true) := hd 34 (by kernel_rfl)
        refine obl_val rfl (wanted_some rfl rfl s34) ?_ rfl
        go_simp
      | 37, _ =>
        intro a W hc hd
        have s36 : a.tmps[85]?.getD undef = (.pointer (some ad)) := hd 36 (by kernel_rfl)
        have s34 : a.tmps[83]?.getD undef = (.bool true) := hd 34 (by kernel_rfl)
        obtain ⟨⟨y0, y1, y2⟩, q0, qL, hB, hF, hL, hV, qb⟩ := HBX.out W (HB5.out.trans (hc.below.mono HB5.out.size))
        refine obl_val rfl (wanted_some rfl rfl s34) ?_ rfl
        go_simp
      | 38, _ =>
        intro a W hc hd
        have s37 : a.tmps[86]?.getD undef = u0 := hd 37 (by kernel_rfl)
        have s34 : a.tmps[83]?.getD undef = (.bool true) := hd 34 (by kernel_rfl)
        obtain ⟨⟨y0, y1, y2⟩, q0, qL, hB, hF, hL, hV, qb⟩ := HBX.out W (HB5.out.trans (hc.below.mono HB5.out.size))
        refine obl_call rfl (wanted_some rfl rfl s34) (by go_simp) (HBL.out W hF) ?_
        rintro e w8 ⟨rfl, hb8⟩
        exact ⟨_, rfl, rfl, hb8⟩
      | 39, _ =>
        intro a W hc hd
        have s38 : a.tmps[87]?.getD undef = (.bool false) := hd 38 (by kernel_rfl)
        have s34 : a.tmps[83]?.getD undef = (.bool true) := hd 34 (by kernel_rfl)
        refine obl_val rfl (wanted_some rfl rfl s34) ?_ rfl
        go_simp
      | 40, _ =>
        intro a W hc hd
        have s34 : a.tmps[83]?.getD undef = (.bool true) := hd 34 (by kernel_rfl)
        have s39 : a.tmps[88]?.getD undef = (.bool true) := hd 39 (by kernel_rfl)
        refine obl_val rfl (wanted_none rfl) ?_ rfl
        go_simp
      | 41, _ =>
        intro a W hc hd
        have s40 : a.tmps[89]?.getD undef = (.bool true) := hd 40 (by kernel_rfl)
        refine obl_val rfl (wanted_none rfl) ?_ rfl
        go_simp
      | 42, _ =>
        intro a W hc hd
        have s41 : a.tmps[90]?.getD undef = (.bool true) := hd 41 (by kernel_rfl)
        refine obl_call rfl (wanted_some rfl rfl s41) (by go_simp) (lives10_any W) ?_
        rintro e w8 ⟨rfl, hb8⟩
        exact ⟨_, rfl, rfl, hb8⟩
      | 43, _ =>
        intro a W hc hd
        have s41 : a.tmps[90]?.getD undef = (.bool true) := hd 41 (by kernel_rfl)
        have s42 : a.tmps[91]?.getD undef = (.bool true) := hd 42 (by kernel_rfl)
        refine obl_val rfl (wanted_none rfl) ?_ rfl
        go_simp
      | 44, _ =>
        intro a W hc hd
        have s43 : a.tmps[92]?.getD undef = (.bool true) := hd 43 (by kernel_rfl)
        refine obl_val rfl (wanted_none rfl) ?_ rfl
        go_simp
      | n + 45, h => exact absurd h (by simp)
    · have h29 : a.tmps[4]?.getD undef = .bool true := hs 44 4 (by decide) (by kernel_rfl)
      go_wp2_with fail
      refine bodyPost_ret (v := .bool true) (by simp [results, Try.results13, go_sem, h29]) hc.defers ?_
      exact ⟨rfl, (HBX.out w6 (HB5.out.trans (hc.below.mono HB5.out.size))).2.2.2.2.2.2.2⟩
    -- end 10
end Go.Proofs.Ytmcjefdnkcpghaa
