/- THE WALKS OF tape.Head.right, first, last, Need, AND THE DOCUMENT'S. -/
import Derived.Test.YtmcjefdnkcpghaaTaB
namespace Go.Proofs.Ytmcjefdnkcpghaa
open Go.RowKit
/-- may a head say so? -/
def rightB (seq len : Int) : Bool := decide (1 ≤ seq ∧ seq ≤ 4611686018427387904 ∧ 1 ≤ len ∧ len ≤ 131072)
theorem rightB_yes {seq len : Int} (h : rightB seq len = true) : 1 ≤ seq ∧ seq ≤ 4611686018427387904 ∧ 1 ≤ len ∧ len ≤ 131072 := by simpa [rightB] using h
theorem rightB_no {seq len : Int} (h : rightB seq len = false) : seq < 1 ∨ 4611686018427387904 < seq ∨ len < 1 ∨ 131072 < len := by
  have : ¬ (1 ≤ seq ∧ seq ≤ 4611686018427387904 ∧ 1 ≤ len ∧ len ≤ 131072) := by simpa [rightB] using h
  omega
def headV (seq len sum : Int) : Value := .agg #[.int .i64 seq, .int .i64 len, .int .u32 sum]
set_option maxRecDepth 100000 in
theorem right_any (seq len sum : Int) (w : World) : Calls Try.prog 95 #[headV seq len sum] w fun e w' => e = .returned (.bool (rightB seq len)) ∧ Below w.heap.size w w' := by
  have hbel : ∀ o, Below w.heap.size w (w.alloc o) := fun o => (Below.refl _ _).alloc (Nat.le_refl _) o
  have HB := Lib.hid hbel
  clear hbel
  unfold headV
  cases hb : rightB seq len with
  | true =>
    obtain ⟨h1, h2, h3, h4⟩ := rightB_yes hb
    clear hb
    go_enter Try.func95, Try.ntmps95
    go_wp2
    go_ret
    exact ⟨rfl, HB.out _⟩
  | false =>
    have h := rightB_no hb
    clear hb
    by_cases h1 : seq < 1
    · go_enter Try.func95, Try.ntmps95
      go_wp2
      go_ret
      exact ⟨rfl, HB.out _⟩
    by_cases h2 : 4611686018427387904 < seq
    · have e1 : decide (1 ≤ seq) = true := decide_eq_true (by omega)
      go_enter Try.func95, Try.ntmps95
      go_wp2
      go_ret
      exact ⟨rfl, HB.out _⟩
    have e1 : decide (1 ≤ seq) = true := decide_eq_true (by omega)
    have e2 : decide (seq ≤ 4611686018427387904) = true := decide_eq_true (by omega)
    by_cases h3 : len < 1
    · clear h
      go_enter Try.func95, Try.ntmps95
      go_wp2
      go_ret
      exact ⟨rfl, HB.out _⟩
    have e3 : decide (1 ≤ len) = true := decide_eq_true (by omega)
    have h4 : 131072 < len := by omega
    have e4 : decide (len ≤ 131072) = false := decide_eq_false (by omega)
    clear h
    go_enter Try.func95, Try.ntmps95
    go_wp2
    go_ret
    exact ⟨rfl, HB.out _⟩
def needI (n : Int) : Int := if n < 1 ∨ 131072 < n then 0 else 2 + (n + 63) / 64
set_option maxRecDepth 100000 in
theorem need_any (n : Int) (w : World) : Calls Try.prog 53 #[.int .i64 n] w fun e w' => e = .returned (.int .i64 (needI n)) ∧ w = w' := by
  by_cases h1 : n < 1
  · rw [needI, if_pos (.inl h1)]
    go_enter Try.func53, Try.ntmps53
    go_wp2
    go_ret
    exact ⟨rfl, rfl⟩
  by_cases h2 : 131072 < n
  · have e1 : decide (n < 1) = false := decide_eq_false h1
    rw [needI, if_pos (.inr h2)]
    go_enter Try.func53, Try.ntmps53
    go_wp2
    go_ret
    exact ⟨rfl, rfl⟩
  · have e1 : decide (n < 1) = false := decide_eq_false h1
    have e2 : decide (131072 < n) = false := decide_eq_false h2
    rw [needI, if_neg (by omega)]
    go_enter Try.func53, Try.ntmps53
    go_wp2
    go_ret
    exact ⟨ret_int (by omega), rfl⟩
theorem own_one (w : World) (b : UInt8) : Own (w.alloc (.cells #[.int .u8 (b.toNat : Int)] 5)) w.heap.size (.slice (some ⟨w.heap.size, 0, none⟩) 1 1) [b] := by
  have := own_lit w [b] (by simp [maxLen])
  simpa [bV] using this
set_option maxRecDepth 100000 in
theorem first_any (seq len sum : Nat) (h1 : seq ≤ 4611686018427387904) (h2 : len ≤ 131072) (h3 : sum < 4294967296) (w : World) :
    Calls Try.prog 96 #[headV seq len sum] w fun e w' => ∃ v', e = .returned v' ∧ SecAt w' w.heap.size v' (firstL seq len sum) ∧ Below w.heap.size w w' := by
  have hbox := heap_alloc_new w (.cells #[.int .i64 (seq : Int), .int .i64 (len : Int), .int .u32 (sum : Int)] 77 (0, 0))
  have hb0 := (Below.refl w.heap.size w).alloc (Nat.le_refl _) (.cells #[.int .i64 (seq : Int), .int .i64 (len : Int), .int .u32 (sum : Int)] 77)
  have hp1 := put_any seq 8 (by omega) (by omega) _ _ [72] (by simp) _ (own_one (w.alloc (.cells #[.int .i64 (seq : Int), .int .i64 (len : Int), .int .u32 (sum : Int)] 77)) 72) (by simp)
  simp only [World.size_alloc] at hp1
  have HBOX := Lib.hid hbox
  have HB0 := Lib.hid hb0
  clear hbox hb0
  unfold headV
  go_enter Try.func96, Try.ntmps96
  go_wp2_with fail
  refine hp1.mono ?_
  rintro e w1 ⟨v1, rfl, ho1, hb1⟩
  have hx1 := (hb1.block w.heap.size (Nat.lt_succ_self _)).trans ((Below.heap_alloc _ _ _ (by simp)).trans HBOX.out)
  have c1 := cells_of hx1 1 _ rfl
  have c2 := cells_of hx1 2 _ rfl
  have hs1 := hb1.size
  simp only [World.size_alloc] at hs1
  have hp2 := put_any len 4 (by omega) (by omega) _ _ _ (by simp [beB_len]) _ ho1 (by omega)
  go_wp2_with fail
  refine hp2.mono ?_
  rintro e w2 ⟨v2, rfl, ho2, hb2⟩
  have hx2 := (hb2.block w.heap.size (Nat.lt_succ_self _)).trans hx1
  have d2 := cells_of hx2 2 _ rfl
  have hs2 := hb2.size
  have hp3 := put_any sum 4 (by omega) (by omega) _ _ _ (by simp [beB_len]) _ ho2 (by omega)
  go_wp2_with fail
  refine hp3.mono ?_
  rintro e w3 ⟨v3, rfl, ho3, hb3⟩
  have hs3 := hb3.size
  have hp4 := wrap_any _ _ _ _ ho3.byt (by simp [beB_len])
  go_wp2_with fail
  refine hp4.mono ?_
  rintro e w4 ⟨v4, rfl, ho4, hb4⟩
  have hp5 := tfill_any _ _ _ (by rw [wrapL_len]; simp [beB_len]) _ ho4.byt
  go_wp2_with fail
  refine hp5.mono ?_
  rintro e w5 ⟨v5, rfl, ho5, hb5⟩
  have hs4 := hb4.size
  obtain ⟨g, rfl, hg, hl, hh⟩ := ho5
  go_wp2
  go_ret
  refine ⟨_, rfl, ⟨g, rfl, by omega, firstL_len _ _ _, ?_⟩, ?_⟩
  · simpa [firstL] using hh
  · have hb01 := HB0.out.trans (((Below.refl (w.heap.size + 1) (w.alloc (.cells #[.int .i64 (seq : Int), .int .i64 (len : Int), .int .u32 (sum : Int)] 77))).alloc (by simp) (.cells #[.int .u8 72] 5)).trans hb1 |>.mono (Nat.le_succ _))
    have hbb := ((hb01.trans (hb2.mono (Nat.le_succ _))).trans (hb3.mono (Nat.le_succ _))).trans (hb4.mono (by omega))
    exact hbb.trans (hb5.mono (by omega))
-- made
set_option maxRecDepth 100000 in
theorem rright_any (seq len sum : Int) (w : World) : Calls Try.prog 99 #[headV seq len sum] w fun e w' => e = .returned (.bool (rightB seq len)) ∧ Below w.heap.size w w' := by
  have hbel : ∀ o, Below w.heap.size w (w.alloc o) := fun o => (Below.refl _ _).alloc (Nat.le_refl _) o
  have HB := Lib.hid hbel
  clear hbel
  unfold headV
  cases hb : rightB seq len with
  | true =>
    obtain ⟨h1, h2, h3, h4⟩ := rightB_yes hb
    clear hb
    go_enter Try.func99, Try.ntmps99
    go_wp2
    go_ret
    exact ⟨rfl, HB.out _⟩
  | false =>
    have h := rightB_no hb
    clear hb
    by_cases h1 : seq < 1
    · go_enter Try.func99, Try.ntmps99
      go_wp2
      go_ret
      exact ⟨rfl, HB.out _⟩
    by_cases h2 : 4611686018427387904 < seq
    · have e1 : decide (1 ≤ seq) = true := decide_eq_true (by omega)
      go_enter Try.func99, Try.ntmps99
      go_wp2
      go_ret
      exact ⟨rfl, HB.out _⟩
    have e1 : decide (1 ≤ seq) = true := decide_eq_true (by omega)
    have e2 : decide (seq ≤ 4611686018427387904) = true := decide_eq_true (by omega)
    by_cases h3 : len < 1
    · clear h
      go_enter Try.func99, Try.ntmps99
      go_wp2
      go_ret
      exact ⟨rfl, HB.out _⟩
    have e3 : decide (1 ≤ len) = true := decide_eq_true (by omega)
    have h4 : 131072 < len := by omega
    have e4 : decide (len ≤ 131072) = false := decide_eq_false (by omega)
    clear h
    go_enter Try.func99, Try.ntmps99
    go_wp2
    go_ret
    exact ⟨rfl, HB.out _⟩
set_option maxRecDepth 100000 in
theorem rneed_any (n : Int) (w : World) : Calls Try.prog 54 #[.int .i64 n] w fun e w' => e = .returned (.int .i64 (needI n)) ∧ w = w' := by
  by_cases h1 : n < 1
  · rw [needI, if_pos (.inl h1)]
    go_enter Try.func54, Try.ntmps54
    go_wp2
    go_ret
    exact ⟨rfl, rfl⟩
  by_cases h2 : 131072 < n
  · have e1 : decide (n < 1) = false := decide_eq_false h1
    rw [needI, if_pos (.inr h2)]
    go_enter Try.func54, Try.ntmps54
    go_wp2
    go_ret
    exact ⟨rfl, rfl⟩
  · have e1 : decide (n < 1) = false := decide_eq_false h1
    have e2 : decide (131072 < n) = false := decide_eq_false h2
    rw [needI, if_neg (by omega)]
    go_enter Try.func54, Try.ntmps54
    go_wp2
    go_ret
    exact ⟨ret_int (by omega), rfl⟩
set_option maxRecDepth 100000 in
theorem last_any (seq sum : Nat) (h1 : seq ≤ 4611686018427387904) (h3 : sum < 4294967296) (len : Int) (w : World) :
    Calls Try.prog 98 #[headV seq len sum] w fun e w' => ∃ v', e = .returned v' ∧ SecAt w' w.heap.size v' (lastL seq sum) ∧ Below w.heap.size w w' := by
  have hbox := heap_alloc_new w (.cells #[.int .i64 (seq : Int), .int .i64 len, .int .u32 (sum : Int)] 77 (0, 0))
  have hb0 := (Below.refl w.heap.size w).alloc (Nat.le_refl _) (.cells #[.int .i64 (seq : Int), .int .i64 len, .int .u32 (sum : Int)] 77)
  have hp1 := put_any seq 8 (by omega) (by omega) _ _ [69] (by simp) _ (own_one (w.alloc (.cells #[.int .i64 (seq : Int), .int .i64 len, .int .u32 (sum : Int)] 77)) 69) (by simp)
  simp only [World.size_alloc] at hp1
  have HBOX := Lib.hid hbox
  have HB0 := Lib.hid hb0
  clear hbox hb0
  unfold headV
  go_enter Try.func98, Try.ntmps98
  go_wp2_with fail
  refine hp1.mono ?_
  rintro e w1 ⟨v1, rfl, ho1, hb1⟩
  have hx1 := (hb1.block w.heap.size (Nat.lt_succ_self _)).trans ((Below.heap_alloc _ _ _ (by simp)).trans HBOX.out)
  have c1_2 := cells_of hx1 2 _ rfl
  have hs1 := hb1.size
  simp only [World.size_alloc] at hs1
  have hp2 := put_any sum 4 (by omega) (by omega) _ _ _ (by simp [beB_len]) _ ho1 (by omega)
  go_wp2_with fail
  refine hp2.mono ?_
  rintro e w2 ⟨v2, rfl, ho2, hb2⟩
  have hx2 := (hb2.block w.heap.size (Nat.lt_succ_self _)).trans hx1
  have hs2 := hb2.size
  have hpw := wrap_any _ _ _ _ ho2.byt (by simp [beB_len])
  go_wp2_with fail
  refine hpw.mono ?_
  rintro e w8 ⟨v8, rfl, ho8, hb8⟩
  have hpf := tfill_any _ _ _ (by rw [wrapL_len]; simp [beB_len]) _ ho8.byt
  go_wp2_with fail
  refine hpf.mono ?_
  rintro e w9 ⟨v9, rfl, ho9, hb9⟩
  have hs8 := hb8.size
  obtain ⟨g, rfl, hg, hl, hh⟩ := ho9
  go_wp2
  go_ret
  refine ⟨_, rfl, ⟨g, rfl, by omega, lastL_len _ _, ?_⟩, ?_⟩
  · simpa [lastL] using hh
  · have hb01 := HB0.out.trans (((Below.refl (w.heap.size + 1) (w.alloc (.cells #[.int .i64 (seq : Int), .int .i64 len, .int .u32 (sum : Int)] 77))).alloc (by simp) (.cells #[.int .u8 69] 5)).trans hb1 |>.mono (Nat.le_succ _))
    exact ((hb01.trans (hb2.mono (Nat.le_succ _))).trans (hb8.mono (by omega))).trans (hb9.mono (by omega))
set_option maxRecDepth 100000 in
theorem rfirst_any (seq len sum : Nat) (h1 : seq ≤ 4611686018427387904) (h2 : len ≤ 131072) (h3 : sum < 4294967296) (w : World) :
    Calls Try.prog 100 #[headV seq len sum] w fun e w' => ∃ v', e = .returned v' ∧ Own w' w.heap.size v' (firstL seq len sum) ∧ Below w.heap.size w w' := by
  have hbox := heap_alloc_new w (.cells #[.int .i64 (seq : Int), .int .i64 (len : Int), .int .u32 (sum : Int)] 81 (0, 0))
  have hb0 := (Below.refl w.heap.size w).alloc (Nat.le_refl _) (.cells #[.int .i64 (seq : Int), .int .i64 (len : Int), .int .u32 (sum : Int)] 81)
  have ho0 := own_one (w.alloc (.cells #[.int .i64 (seq : Int), .int .i64 (len : Int), .int .u32 (sum : Int)] 81)) 72
  have hb0' := (Below.refl (w.heap.size + 1) (w.alloc (.cells #[.int .i64 (seq : Int), .int .i64 (len : Int), .int .u32 (sum : Int)] 81))).alloc (by simp) (.cells #[.int .u8 72] 5)
  simp only [World.size_alloc] at ho0
  have HBOX := Lib.hid hbox
  have HB0 := Lib.hid hb0
  have HB1 := Lib.hid hb0'
  have HO0 := Lib.hid ho0
  clear hbox hb0 ho0 hb0'
  unfold headV
  go_enter Try.func100, Try.ntmps100
  go_wp2_with fail
  refine (big_any seq 8 (by omega) (by omega) _).mono ?_
  rintro e w1 ⟨v1, rfl, ho1, hb1⟩
  have hx1 := (hb1.block w.heap.size (by simp <;> omega)).trans ((Below.heap_alloc _ _ _ (by simp)).trans HBOX.out)
  have hbb1 := HB1.out.trans (hb1.mono (by simp))
  have hr1 := HO0.out.below hb1
  have hs1 := hbb1.size
  simp only [World.size_alloc] at hs1
  go_wp2_with ((at_builtin; go_must (refine wpList_append_byt _ rfl (.tmp 4) (.tmp 7) rfl (w.heap.size + 1) _ _ rfl hr1 _ _ (beB seq 8) rfl ho1.byt (by simp [beB_len]) (by omega) ?_); intro y1 x1 hro1 hg1 _; have hy1 := (hg1.block w.heap.size (lt_of_block hx1) (fun e => (by have := (hr1.lt _ e.symm).1; omega))).trans hx1; have hbc1 := hbb1.grown hg1 (by omega) (fun b hb => (hr1.lt b hb).1); have c1_1 := cells_of hy1 1 _ rfl; have c1_2 := cells_of hy1 2 _ rfl; have hq1 := hbc1.size; simp only [World.size_alloc] at hq1))
  go_wp2_with fail
  refine (big_any len 4 (by omega) (by omega) _).mono ?_
  rintro e w2 ⟨v2, rfl, ho2, hb2⟩
  have hx2 := (hb2.block w.heap.size (by omega)).trans hy1
  have hbb2 := hbc1.trans (hb2.mono (by omega))
  have hr2 := hro1.below hb2
  have hs2 := hbb2.size
  simp only [World.size_alloc] at hs2
  go_wp2_with ((at_builtin; go_must (refine wpList_append_byt _ rfl (.tmp 9) (.tmp 12) rfl (w.heap.size + 1) _ _ rfl hr2 _ _ (beB len 4) rfl ho2.byt (by simp [beB_len]) (by omega) ?_); intro y2 x2 hro2 hg2 _; have hy2 := (hg2.block w.heap.size (lt_of_block hx2) (fun e => (by have := (hr2.lt _ e.symm).1; omega))).trans hx2; have hbc2 := hbb2.grown hg2 (by omega) (fun b hb => (hr2.lt b hb).1); have c2_2 := cells_of hy2 2 _ rfl; have hq2 := hbc2.size; simp only [World.size_alloc] at hq2))
  go_wp2_with fail
  refine (big_any sum 4 (by omega) (by omega) _).mono ?_
  rintro e w3 ⟨v3, rfl, ho3, hb3⟩
  have hx3 := (hb3.block w.heap.size (by omega)).trans hy2
  have hbb3 := hbc2.trans (hb3.mono (by omega))
  have hr3 := hro2.below hb3
  have hs3 := hbb3.size
  simp only [World.size_alloc] at hs3
  go_wp2_with ((at_builtin; go_must (refine wpList_append_byt _ rfl (.tmp 14) (.tmp 18) rfl (w.heap.size + 1) _ _ rfl hr3 _ _ (beB sum 4) rfl ho3.byt (by simp [beB_len]) (by omega) ?_); intro y3 x3 hro3 hg3 _; have hy3 := (hg3.block w.heap.size (lt_of_block hx3) (fun e => (by have := (hr3.lt _ e.symm).1; omega))).trans hx3; have hbc3 := hbb3.grown hg3 (by omega) (fun b hb => (hr3.lt b hb).1); have hq3 := hbc3.size; simp only [World.size_alloc] at hq3))
  refine (rwrap_any _ _ _ _ hro3.byt (by simp [beB_len])).mono ?_
  rintro e w8 ⟨v8, rfl, ho8, hb8⟩
  have hpf := rfill_any _ _ _ (by rw [wrapL_len]; simp [beB_len]) _ ho8.byt
  go_wp2_with fail
  refine hpf.mono ?_
  rintro e w9 ⟨v9, rfl, ho9, hb9⟩
  have hs8 := hb8.size
  go_wp2
  go_ret
  refine ⟨_, rfl, ?_, ?_⟩
  · have := ho9.more (base' := w.heap.size) (by omega)
    simpa [firstL] using this
  · exact (HB0.out.trans ((hbc3.mono (Nat.le_succ _)).trans ((hb8.mono (by omega)).trans (hb9.mono (by omega)))))
set_option maxRecDepth 100000 in
theorem rlast_any (seq sum : Nat) (h1 : seq ≤ 4611686018427387904) (h3 : sum < 4294967296) (len : Int) (w : World) :
    Calls Try.prog 102 #[headV seq len sum] w fun e w' => ∃ v', e = .returned v' ∧ Own w' w.heap.size v' (lastL seq sum) ∧ Below w.heap.size w w' := by
  have hbox := heap_alloc_new w (.cells #[.int .i64 (seq : Int), .int .i64 len, .int .u32 (sum : Int)] 81 (0, 0))
  have hb0 := (Below.refl w.heap.size w).alloc (Nat.le_refl _) (.cells #[.int .i64 (seq : Int), .int .i64 len, .int .u32 (sum : Int)] 81)
  have ho0 := own_one (w.alloc (.cells #[.int .i64 (seq : Int), .int .i64 len, .int .u32 (sum : Int)] 81)) 69
  have hb0' := (Below.refl (w.heap.size + 1) (w.alloc (.cells #[.int .i64 (seq : Int), .int .i64 len, .int .u32 (sum : Int)] 81))).alloc (by simp) (.cells #[.int .u8 69] 5)
  simp only [World.size_alloc] at ho0
  have HBOX := Lib.hid hbox
  have HB0 := Lib.hid hb0
  have HB1 := Lib.hid hb0'
  have HO0 := Lib.hid ho0
  clear hbox hb0 ho0 hb0'
  unfold headV
  go_enter Try.func102, Try.ntmps102
  go_wp2_with fail
  refine (big_any seq 8 (by omega) (by omega) _).mono ?_
  rintro e w1 ⟨v1, rfl, ho1, hb1⟩
  have hx1 := (hb1.block w.heap.size (by simp <;> omega)).trans ((Below.heap_alloc _ _ _ (by simp)).trans HBOX.out)
  have hbb1 := HB1.out.trans (hb1.mono (by simp))
  have hr1 := HO0.out.below hb1
  have hs1 := hbb1.size
  simp only [World.size_alloc] at hs1
  go_wp2_with ((at_builtin; go_must (refine wpList_append_byt _ rfl (.tmp 4) (.tmp 7) rfl (w.heap.size + 1) _ _ rfl hr1 _ _ (beB seq 8) rfl ho1.byt (by simp [beB_len]) (by omega) ?_); intro y1 x1 hro1 hg1 _; have hy1 := (hg1.block w.heap.size (lt_of_block hx1) (fun e => (by have := (hr1.lt _ e.symm).1; omega))).trans hx1; have hbc1 := hbb1.grown hg1 (by omega) (fun b hb => (hr1.lt b hb).1); have c1_2 := cells_of hy1 2 _ rfl; have hq1 := hbc1.size; simp only [World.size_alloc] at hq1))
  go_wp2_with fail
  refine (big_any sum 4 (by omega) (by omega) _).mono ?_
  rintro e w2 ⟨v2, rfl, ho2, hb2⟩
  have hx2 := (hb2.block w.heap.size (by omega)).trans hy1
  have hbb2 := hbc1.trans (hb2.mono (by omega))
  have hr2 := hro1.below hb2
  have hs2 := hbb2.size
  simp only [World.size_alloc] at hs2
  go_wp2_with ((at_builtin; go_must (refine wpList_append_byt _ rfl (.tmp 9) (.tmp 13) rfl (w.heap.size + 1) _ _ rfl hr2 _ _ (beB sum 4) rfl ho2.byt (by simp [beB_len]) (by omega) ?_); intro y2 x2 hro2 hg2 _; have hy2 := (hg2.block w.heap.size (lt_of_block hx2) (fun e => (by have := (hr2.lt _ e.symm).1; omega))).trans hx2; have hbc2 := hbb2.grown hg2 (by omega) (fun b hb => (hr2.lt b hb).1); have hq2 := hbc2.size; simp only [World.size_alloc] at hq2))
  refine (rwrap_any _ _ _ _ hro2.byt (by simp [beB_len])).mono ?_
  rintro e w8 ⟨v8, rfl, ho8, hb8⟩
  have hpf := rfill_any _ _ _ (by rw [wrapL_len]; simp [beB_len]) _ ho8.byt
  go_wp2_with fail
  refine hpf.mono ?_
  rintro e w9 ⟨v9, rfl, ho9, hb9⟩
  have hs8 := hb8.size
  go_wp2
  go_ret
  refine ⟨_, rfl, ?_, ?_⟩
  · have := ho9.more (base' := w.heap.size) (by omega)
    simpa [lastL] using this
  · exact (HB0.out.trans ((hbc2.mono (Nat.le_succ _)).trans ((hb8.mono (by omega)).trans (hb9.mono (by omega)))))
end Go.Proofs.Ytmcjefdnkcpghaa
