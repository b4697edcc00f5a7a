/- THE WALK OF TapeTorn. -/
import Derived.Test.YtmcjefdnkcpghaaTaR
namespace Go.Proofs.Ytmcjefdnkcpghaa
open Go.RowKit
/-- what TapeTorn needs of a batch's sectors -/
structure Batch (P : List (List UInt8)) (s len sum k : Nat) (F L : List UInt8) : Prop where
  hlen : P.length = k + 1
  lo : 2 ≤ k
  hi : k ≤ 1000
  hsum : sum < 4294967296
  first : P[0]? = some F
  last : P[k]? = some L
  l64 : L.length = 64
  head : beginB F = true ∧ beginV F = headV s len sum
  fin : ∀ m, endB m s sum = decide (m = L)
theorem torn_cases (seq : Int) (l : List UInt8) (hl : l.length ≤ 2000) : ∃ P E, pagesR seq l = (P, E) ∧ (E = 2 ∨ E = 0 ∧ ∃ s len sum k F L, Batch P s len sum k F L) := by
  unfold pagesR
  by_cases h : rightB seq l.length = true
  · rw [if_pos h]
    obtain ⟨q1, q2, q3, q4⟩ := rightB_yes h
    have hs : ((seq.toNat : Nat) : Int) = seq := by omega
    refine ⟨_, _, rfl, .inr ⟨rfl, seq.toNat, l.length, sumL l, (cutsL l).length + 1, firstL seq.toNat l.length (sumL l), lastL seq.toNat (sumL l), ?_⟩⟩
    have hc := cutsL_len l.length l (Nat.le_refl _)
    refine ⟨by simp [pagesL], by omega, by omega, sumL_lt l, rfl, ?_, lastL_len seq.toNat (sumL l), begin_first (by rw [hs]; exact h) (sumL_lt l), fun m => endB_yes (by omega) (by omega)⟩
    unfold pagesL
    simp
  · rw [if_neg h]; exact ⟨[], 2, rfl, .inl rfl⟩
set_option maxRecDepth 100000 in
set_option maxHeartbeats 4000000 in
theorem ttorn_any {w : World} (seq : Int) (_hseq : -9223372036854775808 ≤ seq ∧ seq ≤ 9223372036854775807) (v : Value) (l : List UInt8) (hv : Byt w w.heap.size v l) (n : Int) (_hn : -9223372036854775808 ≤ n ∧ n ≤ 9223372036854775807) :
    Calls Try.prog 11 #[.int .i64 seq, v, .int .i64 n] w fun e w' => e = .returned (.bool true) ∧ Below w.heap.size w w' := by
  obtain ⟨A, c, rfl, hc, hm, hr0⟩ := id hv
  clear hr0
  unfold maxLen at hm
  by_cases h5 : 2000 < l.length ∨ n < 0 ∨ 64 < n
  · clear hv
    by_cases b1 : 2000 < l.length
    · have e1 : decide ((2000 : Int) < (l.length : Int)) = true := decide_eq_true (by omega)
      clear h5 b1
      go_enter Try.func11, Try.ntmps11
      go_wp2_with (first
        | (go_at_call 49; refine (lives10_any _).mono ?_; rintro e w9 ⟨rfl, hb9⟩))
      go_ret
      exact ⟨rfl, hb9⟩
    have e1 : decide ((2000 : Int) < (l.length : Int)) = false := decide_eq_false (by omega)
    by_cases b2 : n < 0
    · have e2 : decide (n < 0) = true := decide_eq_true b2
      clear h5 b1
      go_enter Try.func11, Try.ntmps11
      go_wp2_with (first
        | (go_at_call 49; refine (lives10_any _).mono ?_; rintro e w9 ⟨rfl, hb9⟩))
      go_ret
      exact ⟨rfl, hb9⟩
    have e2 : decide (n < 0) = false := decide_eq_false b2
    have e3 : decide (64 < n) = true := decide_eq_true (by omega)
    clear h5 b1
    go_enter Try.func11, Try.ntmps11
    go_wp2_with (first
      | (go_at_call 49; refine (lives10_any _).mono ?_; rintro e w9 ⟨rfl, hb9⟩))
    go_ret
    exact ⟨rfl, hb9⟩
  have h5' : l.length ≤ 2000 := by omega
  have e1 : decide ((2000 : Int) < (l.length : Int)) = false := decide_eq_false (by omega)
  obtain ⟨j, rfl⟩ : ∃ j : Nat, n = (j : Int) := ⟨n.toNat, by omega⟩
  have hj : j ≤ 64 := by omega
  have e2 : decide ((j : Int) < 0) = false := decide_eq_false (by omega)
  have e3 : decide (64 < (j : Int)) = false := decide_eq_false (by omega)
  obtain ⟨P, E, hPE, hE⟩ := torn_cases seq l h5'
  have hp := pages_any seq _ l _ hv (by omega)
  unfold PagesPost at hp
  rw [hPE] at hp
  simp only at hp
  clear hPE hv h5 h5' _hseq _hn
  rcases hE with rfl | ⟨rfl, s, len, sum, k, F, L, hB⟩
  · go_enter Try.func11, Try.ntmps11
    go_wp2_with (first
      | (go_at_call 50; (with_reducible refine hp.mono ?_); rintro e w1 ⟨v1, rfl, ho1, hb1⟩)
      | (go_at_call 49; refine (lives10_any _).mono ?_; rintro e w9 ⟨rfl, hb9⟩))
    go_ret
    exact ⟨rfl, hb1.trans (hb9.mono hb1.size)⟩
  go_enter Try.func11, Try.ntmps11
  go_wp2_with fail
  refine hp.mono ?_
  rintro e w1 ⟨v1, rfl, ho1, hb1⟩
  have hby := ho1.byts
  obtain ⟨A1, c1, rfl, hc1, hm1⟩ := hby.form
  have hF : P[0]'(by have := hB.hlen; omega) = F := (List.getElem_eq_iff _).2 hB.first
  have hL : P[k]'(by have := hB.hlen; omega) = L := (List.getElem_eq_iff _).2 hB.last
  obtain ⟨ad, u0, rfl, hadb, hc0, hu0⟩ := hby.atv 0 (by have := hB.hlen; omega)
  obtain ⟨ad', uL, e1, _, hcL, huL⟩ := hby.atv k (by have := hB.hlen; omega)
  cases e1
  rw [hF] at hu0
  rw [hL] at huL
  rw [add_zero] at hc0
  obtain ⟨AL, cL, rfl, hcl, hml, hrl⟩ := id huL
  rw [hB.l64] at hcl
  obtain ⟨aL, rfl, hbL, hxL⟩ := hrl (by rw [hB.l64]; decide)
  rw [hB.l64] at hcL huL
  rw [hB.hlen] at hc1
  have hbg := begin_any hu0
  unfold BeginPost at hbg
  rw [hB.head.1, hB.head.2] at hbg
  unfold headV at hbg
  rw [hB.hlen]
  have i1 : decide ((k : Int) + 1 < 3) = false := decide_eq_false (by have := hB.lo; omega)
  have hk := hB.lo
  have hk2 := hB.hi
  have HB := Lib.hid hB
  have HUL := Lib.hid huL
  have HCL := Lib.hid hcL
  have HB1 := Lib.hid hb1
  clear hB hp hby ho1 hF hL hu0 huL hrl hxL hb1 hm1
  go_wp2_with fail
  refine hbg.mono ?_
  rintro e w2 ⟨rfl, hb2⟩
  have hbx : Below w1.heap.size w1 (w2.alloc (.cells #[.int .i64 (s : Int), .int .i64 (len : Int), .int .u32 (sum : Int)] 77)) := hb2.alloc hb2.size _
  have hcL3 := (hbx.cell (p := ad.add k) (by rw [addr_add_block]; exact hadb)).trans HCL.out
  have HBX := Lib.hid hbx
  have HC3 := Lib.hid hcL3
  have i2 : (0 : Int) ≤ (j : Int) := by omega
  have i3 : (j : Int) ≤ (cL : Int) := by omega
  have hlit := own_lit (w2.alloc (.cells #[.int .i64 (s : Int), .int .i64 (len : Int), .int .u32 (sum : Int)] 77)) [] (by simp)
  simp only [World.size_alloc, List.map_nil, List.length_nil] at hlit
  have hb3 : Below (w2.heap.size + 1) (w2.alloc (.cells #[.int .i64 (s : Int), .int .i64 (len : Int), .int .u32 (sum : Int)] 77)) ((w2.alloc (.cells #[.int .i64 (s : Int), .int .i64 (len : Int), .int .u32 (sum : Int)] 77)).alloc (.cells #[] 5)) := (Below.refl _ _).alloc (by simp) _
  have hby3 := byt_take3 j ((HB.out.l64.symm ▸ HUL.out : Byt w1 w1.heap.size (.slice (some aL) L.length cL) L).below (HBX.out.trans (hb3.mono (by have := hb2.size; omega)))) (by rw [HB.out.l64]; exact hj)
  have HLIT := Lib.hid hlit
  have HBY3 := Lib.hid hby3
  have HB3 := Lib.hid hb3
  have HB2 := Lib.hid hb2
  have HJL := Lib.hid (show (L.take j).length = j by rw [List.length_take, HB.out.l64]; omega)
  clear hcL hbx hlit hby3 hb3 hb2
  have hz : ∀ (v3 : Value) (w3 : World), Own w3 (w2.heap.size + 1) v3 ([] ++ L.take j) → ((w2.alloc (.cells #[.int .i64 (s : Int), .int .i64 (len : Int), .int .u32 (sum : Int)] 77)).alloc (.cells #[] 5)).grownBy w3 (some (w2.heap.size + 1)) → v3.ownBlock = some (w2.heap.size + 1) ∨ v3.ownBlock = some ((w2.alloc (.cells #[.int .i64 (s : Int), .int .i64 (len : Int), .int .u32 (sum : Int)] 77)).alloc (.cells #[] 5)).heap.size →
      ∃ v' w', (Builtin.append_ #[23, 3] 23 #[v3, .int .i64 (64 - (j : Int))]).run Try.prog w3 = .ok v' w' ∧ Own w' (w2.heap.size + 1) v' (L.take j ++ List.replicate (64 - j) 0) ∧ Below (w2.heap.size + 1) (w2.alloc (.cells #[.int .i64 (s : Int), .int .i64 (len : Int), .int .u32 (sum : Int)] 77)) w' := by
    intro v3 w3 ho hg hob
    rw [List.nil_append] at ho
    have hne : v3 ≠ .slice none 0 0 := by rintro rfl; rcases hob with h | h <;> cases h
    have hsz : w2.heap.size + 1 ≤ w3.heap.size := by have := hg.size; simp only [World.size_alloc] at this; omega
    obtain ⟨v', w', hr, ho', hg'⟩ := run_append_zeros_own w3 (w2.heap.size + 1) 23 v3 _ ho hne (64 - j) (by rw [HJL.out]; omega) hsz
    rw [show ((64 - j : Nat) : Int) = 64 - (j : Int) by omega] at hr
    refine ⟨v', w', hr, ho', ?_⟩
    have h3 := Below.grown HB3.out hg (by simp) (fun g e => by cases e; exact Nat.le_refl _)
    exact Below.grown h3 hg' hsz (fun g e => ho.block g e)
  have HZ := Lib.hid hz
  clear hz
  go_wp2_with (first
    | ((with_reducible show wpList _ _ _ (⟨some 64, _, _, _, _, _⟩ :: _) _ _); go_must (refine wpList_append_byt _ rfl (.tmp 60) (.tmp 63) rfl (w2.heap.size + 1) _ [] rfl HLIT.out _ _ (L.take j) rfl HBY3.out (by rw [HJL.out]; simp; omega) (by simp) ?_); intro v3 w3 ho3 hg3 hob3; obtain ⟨v6, w6, hr6, ho6, hb6⟩ := HZ.out v3 w3 ho3 hg3 hob3)
    | ((with_reducible show wpList _ _ _ (⟨some 67, _, _, _, _, _⟩ :: _) _ _); go_must (refine Lib.wpList_append_run w3 rfl (.tmp 64) (.tmp 66) 23 3 rfl _ _ rfl rfl v6 w6 hr6 ?_)))
  have hx := fun (W : World) (hW : Below w6.drew.heap.size w6.drew W) => (show (W.cell? ⟨w2.heap.size, 0, none⟩ = some (.int .i64 (s : Int)) ∧ W.cell? ⟨w2.heap.size, 1, none⟩ = some (.int .i64 (len : Int)) ∧ W.cell? ⟨w2.heap.size, 2, none⟩ = some (.int .u32 (sum : Int))) ∧ Byt W w6.heap.size v6 (L.take j ++ List.replicate (64 - j) 0) ∧ Byt W w1.heap.size (.slice (some aL) 64 cL) L ∧ Below w.heap.size w W from by
    have hW6 : Below w6.heap.size w6 W := (Below.refl _ _).drew.trans hW
    have hs6 := hb6.size
    simp only [World.size_alloc] at hs6
    have h6 := (hW6.block w2.heap.size (by omega)).trans ((hb6.block w2.heap.size (Nat.lt_succ_self _)).trans (heap_alloc_new w2 _))
    have hW1 := HBX.out.trans ((hb6.trans (hW6.mono hs6)).mono (by have := HB2.out.size; omega))
    exact ⟨⟨cells_of h6 0 _ rfl, cells_of h6 1 _ rfl, cells_of h6 2 _ rfl⟩, ho6.byt.below hW6, HUL.out.below hW1, HB1.out.trans (hW1.mono HB1.out.size)⟩)
  have HX := Lib.hid hx
  have hen := fun (W : World) (h : Byt W w6.heap.size v6 (L.take j ++ List.replicate (64 - j) 0)) => end_any h s len sum HB.out.hsum
  simp only [HB.out.fin] at hen
  unfold headV at hen
  have HEN := Lib.hid hen
  generalize L.take j ++ List.replicate (64 - j) 0 = M at *
  clear hx hen ho3 hg3 hob3 ho6 hb6 hr6
  -- region 11
  refine Q.wp_region_sp (by kernel_rfl) [isS v6, isS (.agg #[.int .i64 (s : Int), .int .i64 (len : Int), .int .u32 (sum : Int)]), isS (.bool (decide (M = L))), isS v6, isS (.string (bsA M)), isS (.slice (some aL) 64 cL), isS (.string (bsA L)), isS (.bool (decide (M = L))), isS (.bool true), isS (.bool true), isS (.bool true), isS (.bool true), isS (.bool true)] (by kernel_rfl) (by kernel_rfl) (fun i hi => ?_) (fun a w7 hc hs => ?_)
  · match i, hi with
    | 0, _ =>
      intro a W hc hd
      have z12 := hc.same 12 (by kernel_rfl)
      simp only [List.getElem?_toArray, List.getElem?_cons_succ, List.getElem?_cons_zero, Option.getD_some] at z12
      refine obl_val rfl (wanted_none rfl) ?_ rfl
      go_simp
    | 1, _ =>
      intro a W hc hd
      have z9 := hc.same 9 (by kernel_rfl)
      simp only [List.getElem?_toArray, List.getElem?_cons_succ, List.getElem?_cons_zero, Option.getD_some] at z9
      obtain ⟨⟨y0, y1, y2⟩, q6, qL, qb⟩ := HX.out W hc.below
      refine obl_val rfl (wanted_none rfl) ?_ rfl
      go_simp
    | 2, _ =>
      intro a W hc hd
      have s0 : a.tmps[68]?.getD undef = v6 := hd 0 (by kernel_rfl)
      have s1 : a.tmps[69]?.getD undef = (.agg #[.int .i64 (s : Int), .int .i64 (len : Int), .int .u32 (sum : Int)]) := hd 1 (by kernel_rfl)
      obtain ⟨⟨y0, y1, y2⟩, q6, qL, qb⟩ := HX.out W hc.below
      refine obl_call rfl (wanted_none rfl) (by go_simp) (HEN.out W q6) ?_
      rintro e w8 ⟨rfl, hb8⟩
      exact ⟨_, rfl, rfl, hb8⟩
    | 3, _ =>
      intro a W hc hd
      have z12 := hc.same 12 (by kernel_rfl)
      simp only [List.getElem?_toArray, List.getElem?_cons_succ, List.getElem?_cons_zero, Option.getD_some] at z12
      refine obl_val rfl (wanted_none rfl) ?_ rfl
      go_simp
    | 4, _ =>
      intro a W hc hd
      have s3 : a.tmps[71]?.getD undef = v6 := hd 3 (by kernel_rfl)
      obtain ⟨⟨y0, y1, y2⟩, q6, qL, qb⟩ := HX.out W hc.below
      have e := q6.strA
      refine obl_val rfl (wanted_none rfl) ?_ rfl
      go_simp
    | 5, _ =>
      intro a W hc hd
      have z11 := hc.same 11 (by kernel_rfl)
      simp only [List.getElem?_toArray, List.getElem?_cons_succ, List.getElem?_cons_zero, Option.getD_some] at z11
      refine obl_val rfl (wanted_none rfl) ?_ rfl
      go_simp
    | 6, _ =>
      intro a W hc hd
      have s5 : a.tmps[73]?.getD undef = (.slice (some aL) 64 cL) := hd 5 (by kernel_rfl)
      obtain ⟨⟨y0, y1, y2⟩, q6, qL, qb⟩ := HX.out W hc.below
      have e := qL.strA
      refine obl_val rfl (wanted_none rfl) ?_ rfl
      go_simp
    | 7, _ =>
      intro a W hc hd
      have s4 : a.tmps[72]?.getD undef = (.string (bsA M)) := hd 4 (by kernel_rfl)
      have s6 : a.tmps[74]?.getD undef = (.string (bsA L)) := hd 6 (by kernel_rfl)
      refine obl_val rfl (wanted_none rfl) (v := .bool (bsA M == bsA L)) ?_ (by rw [bsA_beq]; rfl)
      exact exec_eqstr rfl (eval_tmp s4) (eval_tmp s6)
    | 8, _ =>
      intro a W hc hd
      have s2 : a.tmps[70]?.getD undef = (.bool (decide (M = L))) := hd 2 (by kernel_rfl)
      have s7 : a.tmps[75]?.getD undef = (.bool (decide (M = L))) := hd 7 (by kernel_rfl)
      refine obl_val rfl (wanted_none rfl) ?_ rfl
      go_simp
    | 9, _ =>
      intro a W hc hd
      have s8 : a.tmps[76]?.getD undef = (.bool true) := hd 8 (by kernel_rfl)
      refine obl_val rfl (wanted_none rfl) ?_ rfl
      go_simp
    | 10, _ =>
      intro a W hc hd
      have s9 : a.tmps[77]?.getD undef = (.bool true) := hd 9 (by kernel_rfl)
      refine obl_call rfl (wanted_some rfl rfl s9) (by go_simp) (lives10_any W) ?_
      rintro e w8 ⟨rfl, hb8⟩
      exact ⟨_, rfl, rfl, hb8⟩
    | 11, _ =>
      intro a W hc hd
      have s9 : a.tmps[77]?.getD undef = (.bool true) := hd 9 (by kernel_rfl)
      have s10 : a.tmps[78]?.getD undef = (.bool true) := hd 10 (by kernel_rfl)
      refine obl_val rfl (wanted_none rfl) ?_ rfl
      go_simp
    | 12, _ =>
      intro a W hc hd
      have s11 : a.tmps[79]?.getD undef = (.bool true) := hd 11 (by kernel_rfl)
      refine obl_val rfl (wanted_none rfl) ?_ rfl
      go_simp
    | n + 13, h => exact absurd h (by simp)
  · have h29 : a.tmps[6]?.getD undef = .bool true := hs 12 6 (by decide) (by kernel_rfl)
    go_wp2_with fail
    refine bodyPost_ret (v := .bool true) (by simp [results, Try.results11, go_sem, h29]) hc.defers ?_
    exact ⟨rfl, (HX.out w7 hc.below).2.2.2⟩
  -- end 11
end Go.Proofs.Ytmcjefdnkcpghaa
