/- THE WALK OF record.GoodDoc (printed by gen/gengdb.py). -/
import Derived.Test.YtnfpmobmfcgfnaaGdA
namespace Go.Proofs.Ytnfpmobmfcgfnaa
open Go.RowKit
/-- may a document be? -/
def goodDocB (o : Dm) : Bool :=
  inB (o.id.size : Int) 1 64 && decide (o.ref.size ≤ 64) && (o.cred == !o.ref.toList.isEmpty) && inB o.day 0 2932896 && countryL o.cty.data.toList && inB (o.ls.length : Int) 1 64 &&
    (o.num.toList.isEmpty || rightL o.cty.data.toList o.num.data.toList) && (o.cur.toList.isEmpty || curL o.cur.data.toList) && o.ls.all fun l => goodLineB l o.sale
/-- a document's box -/
structure DBox (w : World) (b : Nat) (o : Dm) (lv : Value) : Prop where
  c0 : w.cell? ⟨b, 0, none⟩ = some (.string o.id)
  c1 : w.cell? ⟨b, 1, none⟩ = some (.bool o.sale)
  c2 : w.cell? ⟨b, 2, none⟩ = some (.bool o.cred)
  c3 : w.cell? ⟨b, 3, none⟩ = some (.string o.ref)
  c4 : w.cell? ⟨b, 4, none⟩ = some (.int .i64 o.day)
  c5 : w.cell? ⟨b, 5, none⟩ = some (.string o.cty)
  c6 : w.cell? ⟨b, 6, none⟩ = some (.string o.num)
  c7 : w.cell? ⟨b, 7, none⟩ = some (.string o.cur)
  c8 : w.cell? ⟨b, 8, none⟩ = some lv
theorem DBox.made (w : World) (o : Dm) (lv : Value) : DBox (w.alloc (.cells (o.vs lv) 25)) w.heap.size o lv := by
  have h := heap_alloc_new w (.cells (o.vs lv) 25 (0, 0))
  exact ⟨cells_of h 0 _ rfl, cells_of h 1 _ rfl, cells_of h 2 _ rfl, cells_of h 3 _ rfl, cells_of h 4 _ rfl, cells_of h 5 _ rfl, cells_of h 6 _ rfl, cells_of h 7 _ rfl, cells_of h 8 _ rfl⟩
theorem DBox.lt {w : World} {b : Nat} {o : Dm} {lv : Value} (h : DBox w b o lv) : b < w.heap.size := World.block_lt_of_cell? w ⟨b, 0, none⟩ h.c0
theorem DBox.below {w w' : World} {b : Nat} {o : Dm} {lv : Value} (h : DBox w b o lv) (k : Below w.heap.size w w') : DBox w' b o lv :=
  ⟨(k.cell (p := ⟨b, 0, none⟩) h.lt).trans h.c0, (k.cell (p := ⟨b, 1, none⟩) h.lt).trans h.c1, (k.cell (p := ⟨b, 2, none⟩) h.lt).trans h.c2, (k.cell (p := ⟨b, 3, none⟩) h.lt).trans h.c3, (k.cell (p := ⟨b, 4, none⟩) h.lt).trans h.c4, (k.cell (p := ⟨b, 5, none⟩) h.lt).trans h.c5, (k.cell (p := ⟨b, 6, none⟩) h.lt).trans h.c6, (k.cell (p := ⟨b, 7, none⟩) h.lt).trans h.c7, (k.cell (p := ⟨b, 8, none⟩) h.lt).trans h.c8⟩
set_option maxRecDepth 100000 in
set_option maxHeartbeats 8000000 in
theorem gooddoc_any {w : World} {B : Nat} {v : Value} {o : Dm} (h : DmV w B v o) (hB : B ≤ w.heap.size) (hc : o.cty.size ≤ 9223372036854775807) (hn : o.num.size ≤ 9223372036854775807) (hl : o.ls.length ≤ 100000) :
    Calls Try.prog 28 #[v] w fun e w' => e = .returned (.bool (goodDocB o)) ∧ Below w.heap.size w w' := by
  obtain ⟨lv, rfl, hls, hok⟩ := h
  have hal := (Below.refl w.heap.size w).alloc (Nat.le_refl _) (.cells (o.vs lv) 25)
  have hbx := DBox.made w o lv
  obtain ⟨A, c, rfl, hcl, hcm⟩ := hls.form
  obtain ⟨id, sale, cred, ref, day, cty, num, cur, ls⟩ := o
  unfold goodDocB
  simp only [Dm.vs] at *
  have hcf := fun (W : World) (hW : Below w.heap.size w W) (g : Nat) (hc : W.cell? ⟨g, 1, none⟩ = some (.bool sale)) => containsf_any (hls.below (hW.mono hB)) hl (Nat.le_trans hB hW.size) hc
  have k1 := fun W => within_any (id.size : Int) 1 64 W
  have k4 := fun W => day_any day W
  have k5 := fun W => country_any cty W
  have k6 := fun W => right_any cty num hc hn W
  have k7 := fun W => cur_any cur W
  have k8 := fun W => within_any (ls.length : Int) 1 64 W
  unfold RightPost at k6
  generalize inB (id.size : Int) 1 64 = b1 at *
  generalize inB day 0 2932896 = b4 at *
  generalize countryL cty.data.toList = b5 at *
  generalize rightL cty.data.toList num.data.toList = b6 at *
  generalize curL cur.data.toList = b7 at *
  generalize inB (ls.length : Int) 1 64 = b8 at *
  generalize (ls.all fun l => goodLineB l sale) = b9 at *
  generalize hG : (b1 && decide (ref.size ≤ 64) && (cred == !ref.toList.isEmpty) && b4 && b5 && b8 && (num.toList.isEmpty || b6) && (cur.toList.isEmpty || b7) && b9) = G at *
  have HG := Lib.hid hG
  have HCF := Lib.hid hcf
  have K1 := Lib.hid k1
  have K4 := Lib.hid k4
  have K5 := Lib.hid k5
  have K6 := Lib.hid k6
  have K7 := Lib.hid k7
  have K8 := Lib.hid k8
  have HAL := Lib.hid hal
  have HBX := Lib.hid hbx
  clear hG hcf k1 k4 k5 k6 k7 k8 hal hbx hls hok
  go_enter Try.func28, Try.ntmps28
  go_upto_region 1 with fail
  generalize World.alloc w _ = w1 at HAL HBX ⊢
  have hb0 := HBX.out
  obtain ⟨c0, c1, c2, c3, c4, c5, c6, c7, c8⟩ := hb0
  simp only at c0 c1 c2 c3 c4 c5 c6 c7 c8
  cases b1
  · skip
    have hG := HG.out
    simp only [Bool.false_and] at hG
    subst hG
    go_wp2_with (first
      | (go_at_call 50; first | ((with_reducible refine (K1.out _).mono ?_); rintro e w' ⟨rfl, rfl⟩) | ((with_reducible refine (K8.out _).mono ?_); rintro e w' ⟨rfl, rfl⟩))
      | (go_at_call 51; first | ((with_reducible refine (K4.out _).mono ?_); rintro e w' ⟨rfl, rfl⟩))
      | (go_at_call 60; first | ((with_reducible refine (K5.out _).mono ?_); rintro e w' ⟨rfl, rfl⟩))
      | (go_at_call 54; first | ((with_reducible refine (K7.out _).mono ?_); rintro e w' ⟨rfl, rfl⟩)))
    all_goals go_ret
    all_goals exact ⟨rfl, HAL.out⟩
  by_cases h2 : ref.size ≤ 64
  case neg =>
    have e2 : decide ((64 : Int) < (ref.size : Int)) = true := decide_eq_true (by omega)
    have hG := HG.out
    rw [decide_eq_false h2] at hG; simp only [Bool.false_and, Bool.and_false] at hG
    subst hG
    go_wp2_with (first
      | (go_at_call 50; first | ((with_reducible refine (K1.out _).mono ?_); rintro e w' ⟨rfl, rfl⟩) | ((with_reducible refine (K8.out _).mono ?_); rintro e w' ⟨rfl, rfl⟩))
      | (go_at_call 51; first | ((with_reducible refine (K4.out _).mono ?_); rintro e w' ⟨rfl, rfl⟩))
      | (go_at_call 60; first | ((with_reducible refine (K5.out _).mono ?_); rintro e w' ⟨rfl, rfl⟩))
      | (go_at_call 54; first | ((with_reducible refine (K7.out _).mono ?_); rintro e w' ⟨rfl, rfl⟩)))
    all_goals go_ret
    all_goals exact ⟨rfl, HAL.out⟩
  have e2 : decide ((64 : Int) < (ref.size : Int)) = false := decide_eq_false (by omega)
  go_upto_region 3 with (first
    | (go_at_call 50; first | ((with_reducible refine (K1.out _).mono ?_); rintro e w' ⟨rfl, rfl⟩) | ((with_reducible refine (K8.out _).mono ?_); rintro e w' ⟨rfl, rfl⟩))
    | (go_at_call 51; first | ((with_reducible refine (K4.out _).mono ?_); rintro e w' ⟨rfl, rfl⟩))
    | (go_at_call 60; first | ((with_reducible refine (K5.out _).mono ?_); rintro e w' ⟨rfl, rfl⟩))
    | (go_at_call 54; first | ((with_reducible refine (K7.out _).mono ?_); rintro e w' ⟨rfl, rfl⟩)))
  have hG := HG.out
  rw [decide_eq_true h2] at hG
  simp only [Bool.true_and] at hG
  have HG1 := Lib.hid hG
  clear hG HG e2 h2
  cases h3 : (cred == !ref.toList.isEmpty)
  · have hG := HG1.out
    rw [h3] at hG
    simp only [Bool.false_and] at hG
    subst hG
    cases cred
    · cases hre : ref.toList.isEmpty
      · rw [hre] at h3
        clear h3
        go_wp2_with (first
          | (go_at_call 50; first | ((with_reducible refine (K1.out _).mono ?_); rintro e w' ⟨rfl, rfl⟩) | ((with_reducible refine (K8.out _).mono ?_); rintro e w' ⟨rfl, rfl⟩))
          | (go_at_call 51; first | ((with_reducible refine (K4.out _).mono ?_); rintro e w' ⟨rfl, rfl⟩))
          | (go_at_call 60; first | ((with_reducible refine (K5.out _).mono ?_); rintro e w' ⟨rfl, rfl⟩))
          | (go_at_call 54; first | ((with_reducible refine (K7.out _).mono ?_); rintro e w' ⟨rfl, rfl⟩)))
        go_ret
        exact ⟨rfl, HAL.out⟩
      · rw [hre] at h3
        exact absurd h3 (by decide)
    · cases hre : ref.toList.isEmpty
      · rw [hre] at h3
        exact absurd h3 (by decide)
      · rw [hre] at h3
        clear h3
        go_wp2_with (first
          | (go_at_call 50; first | ((with_reducible refine (K1.out _).mono ?_); rintro e w' ⟨rfl, rfl⟩) | ((with_reducible refine (K8.out _).mono ?_); rintro e w' ⟨rfl, rfl⟩))
          | (go_at_call 51; first | ((with_reducible refine (K4.out _).mono ?_); rintro e w' ⟨rfl, rfl⟩))
          | (go_at_call 60; first | ((with_reducible refine (K5.out _).mono ?_); rintro e w' ⟨rfl, rfl⟩))
          | (go_at_call 54; first | ((with_reducible refine (K7.out _).mono ?_); rintro e w' ⟨rfl, rfl⟩)))
        go_ret
        exact ⟨rfl, HAL.out⟩
  go_cut [15] from 16 (fun x15 wx => x15 = .bool false ∧ w1 = wx)
  case first =>
    cases cred
    · cases hre : ref.toList.isEmpty
      · rw [hre] at h3
        exact absurd h3 (by decide)
      · rw [hre] at h3
        clear h3
        go_wp2
        go_meet
        exact ⟨rfl, rfl⟩
    · cases hre : ref.toList.isEmpty
      · rw [hre] at h3
        clear h3
        go_wp2
        go_meet
        exact ⟨rfl, rfl⟩
      · rw [hre] at h3
        exact absurd h3 (by decide)
  case rest =>
  obtain ⟨rfl, rfl⟩ := hcut
  have hG := HG1.out
  rw [h3] at hG
  simp only [Bool.true_and] at hG
  have HG := Lib.hid hG
  clear hG HG1 h3
  cases b4
  · skip
    have hG := HG.out
    simp only [Bool.false_and] at hG
    subst hG
    go_wp2_with (first
      | (go_at_call 50; first | ((with_reducible refine (K1.out _).mono ?_); rintro e w' ⟨rfl, rfl⟩) | ((with_reducible refine (K8.out _).mono ?_); rintro e w' ⟨rfl, rfl⟩))
      | (go_at_call 51; first | ((with_reducible refine (K4.out _).mono ?_); rintro e w' ⟨rfl, rfl⟩))
      | (go_at_call 60; first | ((with_reducible refine (K5.out _).mono ?_); rintro e w' ⟨rfl, rfl⟩))
      | (go_at_call 54; first | ((with_reducible refine (K7.out _).mono ?_); rintro e w' ⟨rfl, rfl⟩)))
    all_goals go_ret
    all_goals exact ⟨rfl, HAL.out⟩
  cases b5
  · skip
    have hG := HG.out
    simp only [Bool.false_and, Bool.and_false] at hG
    subst hG
    go_wp2_with (first
      | (go_at_call 50; first | ((with_reducible refine (K1.out _).mono ?_); rintro e w' ⟨rfl, rfl⟩) | ((with_reducible refine (K8.out _).mono ?_); rintro e w' ⟨rfl, rfl⟩))
      | (go_at_call 51; first | ((with_reducible refine (K4.out _).mono ?_); rintro e w' ⟨rfl, rfl⟩))
      | (go_at_call 60; first | ((with_reducible refine (K5.out _).mono ?_); rintro e w' ⟨rfl, rfl⟩))
      | (go_at_call 54; first | ((with_reducible refine (K7.out _).mono ?_); rintro e w' ⟨rfl, rfl⟩)))
    all_goals go_ret
    all_goals exact ⟨rfl, HAL.out⟩
  have hG := HG.out
  simp only [Bool.true_and] at hG
  have HG2 := Lib.hid hG
  clear hG HG
  go_upto_region 7 with (first
    | (go_at_call 50; first | ((with_reducible refine (K1.out _).mono ?_); rintro e w' ⟨rfl, rfl⟩) | ((with_reducible refine (K8.out _).mono ?_); rintro e w' ⟨rfl, rfl⟩))
    | (go_at_call 51; first | ((with_reducible refine (K4.out _).mono ?_); rintro e w' ⟨rfl, rfl⟩))
    | (go_at_call 60; first | ((with_reducible refine (K5.out _).mono ?_); rintro e w' ⟨rfl, rfl⟩))
    | (go_at_call 54; first | ((with_reducible refine (K7.out _).mono ?_); rintro e w' ⟨rfl, rfl⟩)))
  by_cases hbad : num.toList.isEmpty = false ∧ b6 = false
  · obtain ⟨hne, rfl⟩ := hbad
    have hG := HG2.out
    rw [hne] at hG
    simp only [Bool.or_self, Bool.false_and, Bool.and_false] at hG
    subst hG
    have k6 := K6.out w1
    go_wp2_with (go_at_call 53; (with_reducible refine k6.mono ?_); rintro e w2 ⟨rfl, hb2⟩)
    go_ret
    exact ⟨rfl, HAL.out.trans (hb2.mono HAL.out.size)⟩
  go_cut [33] from 34 (fun x33 wx => x33 = .bool false ∧ Below w1.heap.size w1 wx)
  case first =>
    have k6 := K6.out w1
    cases hne : num.toList.isEmpty
    · have hb6 : b6 = true := by cases b6; exact absurd ⟨hne, rfl⟩ hbad; rfl
      subst hb6
      go_wp2_with (go_at_call 53; (with_reducible refine k6.mono ?_); rintro e w2 ⟨rfl, hb2⟩)
      go_meet
      exact ⟨rfl, hb2⟩
    · go_wp2
      go_meet
      exact ⟨rfl, Below.refl _ _⟩
  case rest =>
  obtain ⟨rfl, hbc⟩ := hcut
  generalize wc = wc2 at hbc ⊢
  have hG := HG2.out
  have hnum : (num.toList.isEmpty || b6) = true := by
    cases hne : num.toList.isEmpty
    · cases b6
      · exact absurd ⟨hne, rfl⟩ hbad
      · rfl
    · rfl
  rw [hnum] at hG
  simp only [Bool.and_true] at hG
  have HG3 := Lib.hid hG
  have hbx2 := HBX.out.below hbc
  obtain ⟨y0, y1, y2, y3, y4, y5, y6, y7, y8⟩ := hbx2
  simp only at y0 y1 y2 y3 y4 y5 y6 y7 y8
  have HAL2 := Lib.hid (HAL.out.trans (hbc.mono HAL.out.size))
  have HY1 := Lib.hid y1
  clear hG HG2 hbad hnum c0 c1 c2 c3 c4 c5 c6 c7 c8 hbc
  by_cases hbad : cur.toList.isEmpty = false ∧ b7 = false
  · obtain ⟨hne, rfl⟩ := hbad
    have hG := HG3.out
    rw [hne] at hG
    simp only [Bool.or_self, Bool.false_and, Bool.and_false] at hG
    subst hG
    go_wp2_with (go_at_call 54; (with_reducible refine (K7.out _).mono ?_); rintro e w2 ⟨rfl, rfl⟩)
    go_ret
    exact ⟨rfl, HAL2.out⟩
  have hG := HG3.out
  have hcur : (cur.toList.isEmpty || b7) = true := by
    cases hne : cur.toList.isEmpty
    · cases b7
      · exact absurd ⟨hne, rfl⟩ hbad
      · rfl
    · rfl
  rw [hcur] at hG
  simp only [Bool.and_true] at hG
  have HG4 := Lib.hid hG
  clear hG HG3 hcur
  go_upto_region 9 with fail
  go_cut [45] from 46 (fun x45 wx => x45 = .bool false ∧ wc2 = wx)
  case first =>
    cases hne : cur.toList.isEmpty
    · have hb7 : b7 = true := by cases b7; exact absurd ⟨hne, rfl⟩ hbad; rfl
      subst hb7
      go_wp2_with (go_at_call 54; (with_reducible refine (K7.out _).mono ?_); rintro e w2 ⟨rfl, rfl⟩)
      go_meet
      exact ⟨rfl, rfl⟩
    · go_wp2
      go_meet
      exact ⟨rfl, rfl⟩
  case rest =>
  obtain ⟨rfl, rfl⟩ := hcut
  clear hbad
  have hG := HG4.out
  cases b8
  · simp only [Bool.false_and] at hG
    subst hG
    go_wp2_with (go_at_call 50; (with_reducible refine (K8.out _).mono ?_); rintro e w2 ⟨rfl, rfl⟩)
    go_ret
    exact ⟨rfl, HAL2.out⟩
  · simp only [Bool.true_and] at hG
    subst hG
    go_wp2_with (first
      | (go_at_call 50; (with_reducible refine (K8.out _).mono ?_); rintro e w2 ⟨rfl, rfl⟩)
      | (go_at_call 61; (with_reducible refine (HCF.out _ HAL2.out _ HY1.out).mono ?_); rintro e w3 ⟨rfl, hb3⟩))
    go_ret
    exact ⟨ret_bool (by simp), HAL2.out.trans (hb3.mono HAL2.out.size)⟩
end Go.Proofs.Ytnfpmobmfcgfnaa
