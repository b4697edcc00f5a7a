/- THE WALKS OF record.GoodDoc's CLOSURE, OF slices.IndexFunc AND ContainsFunc WITH IT, AND OF record.GoodDoc. -/
import Derived.Test.YtnfpmobmfcgfnaaPk
import Derived.Test.YtnfpmobmfcgfnaaPa
import Derived.Test.YtnfpmobmfcgfnaaPg
namespace Go.Proofs.Ytnfpmobmfcgfnaa
open Go.RowKit
set_option maxRecDepth 100000 in
theorem gdoc1_any (o : Ln) {w : World} {g : Nat} {sale : Bool} (hc : w.cell? ⟨g, 1, none⟩ = some (.bool sale)) :
  Calls Try.prog 62 #[.agg o.vs, .pointer (some ⟨g, 0, none⟩)] w fun e w' => e = .returned (.bool (!goodLineB o sale)) ∧ Below w.heap.size w w' := by
 have hg := fun W => goodline_any o sale W
 have hal := (Below.refl w.heap.size w).alloc (Nat.le_refl _) (.cells o.vs 55)
 have hlt : g < w.heap.size := World.block_lt_of_cell? w ⟨g, 1, none⟩ hc
 have hc1 := (hal.cell (p := ⟨g, 1, none⟩) hlt).trans hc
 generalize goodLineB o sale = R at *
 obtain ⟨sup, cat, fr, tw, pl, am, gr, co, mx⟩ := o
 simp only [Ln.vs] at *
 have HG := Lib.hid hg
 have HAL := Lib.hid hal
 have hne : g ≠ w.heap.size := by omega
 clear hg hal
 go_enter Try.func62, Try.ntmps62
 go_wp2_with (go_at_call 29; (with_reducible refine (HG.out _).mono ?_); rintro e w1 ⟨rfl, hb1⟩)
 go_ret
 exact ⟨rfl, HAL.out.trans (hb1.mono HAL.out.size)⟩
set_option maxRecDepth 100000 in
set_option maxHeartbeats 4000000 in
theorem indexf_any {w : World} {B : Nat} {v : Value} {ls : List Ln} (hs : Lns w B v ls) (hl : ls.length ≤ 100000) (hB : B ≤ w.heap.size) {g : Nat} {sale : Bool} (hc : w.cell? ⟨g, 1, none⟩ = some (.bool sale)) :
  Calls Try.prog 93 #[v, .func (.func 62) #[] #[.pointer (some ⟨g, 0, none⟩)]] w fun e w' => ∃ r : Int, e = .returned (.int .i64 r) ∧ decide (0 ≤ r) = !(ls.all fun o => goodLineB o sale) ∧ Below w.heap.size w w' := by
 obtain ⟨A, c, rfl, hcl, hcm⟩ := hs.form
 have hlt : g < w.heap.size := World.block_lt_of_cell? w ⟨g, 1, none⟩ hc
 have HS := Lib.hid hs
 have HC := Lib.hid hc
 clear hs hc
 go_enter Try.func93, Try.ntmps93
 go_wp2
 go_loopg [5, 8] ls.length (fun gk x5 x8 wr => ∃ k : Nat, gk = ls.length - k ∧ k ≤ ls.length ∧ x8 = .int .i64 (k : Int) ∧ (∀ j, j < k → ∀ h : j < ls.length, goodLineB ls[j] sale = true) ∧ Below w.heap.size w wr)
 case atStart => exact ⟨0, rfl, Nat.zero_le _, rfl, fun j h => absurd h (by omega), Below.refl _ _⟩
 case round =>
  obtain ⟨k, hgk, hk, rfl, hal, hbel⟩ := hrel
  have HG := Lib.hid hgk
  have HA := Lib.hid hal
  have HB := Lib.hid hbel
  clear hgk hal hbel
  by_cases h : k < ls.length
  ·obtain ⟨ad, c', hv, hadB, hok, hat⟩ := (HS.out.below (HB.out.mono hB)).at_ k h
   cases hv
   have hcl1 := gdoc1_any ls[k] ((HB.out.cell (p := ⟨g, 1, none⟩) hlt).trans HC.out)
   have hstep : goodLineB ls[k] sale = true → ∀ j, j < k + 1 → ∀ h : j < ls.length, goodLineB ls[j] sale = true := fun hg j hj hjl => by
    by_cases hjk : j = k
    ·subst hjk; exact hg
    ·exact HA.out j (by omega) hjl
   have hbad : goodLineB ls[k] sale = false → (ls.all fun o => goodLineB o sale) = false := fun hg => by
    rw [List.all_eq_false]
    exact ⟨ls[k], List.getElem_mem h, by rw [hg]; decide⟩
   generalize goodLineB ls[k] sale = R at *
   generalize ls[k] = o at *
   obtain ⟨sup, cat, fr, tw, pl, am, gr, co, mx⟩ := o
   obtain ⟨c0, c1, c2, c3, c4, c5, c6, c7, c8⟩ := hat
   simp only [Ln.vs] at c0 c1 c2 c3 c4 c5 c6 c7 c8 hcl1
   have HST := Lib.hid hstep
   have HBD := Lib.hid hbad
   have i1 : (0 : Int) ≤ (k : Int) := by omega
   have i2 : (k : Int) < (ls.length : Int) := by omega
   have i3 : IntKind.i64.wrap ((k : Int) + 1) = (k : Int) + 1 := by rw [IntKind.wrap_i64]; omega
   clear hok hstep hbad
   cases R
   ·go_wp2_with (go_at_call 62; (with_reducible refine hcl1.mono ?_); rintro e w1 ⟨rfl, hb1⟩)
    go_ret
    exact ⟨(k : Int), rfl, by rw [HBD.out (by simp)]; simp, HB.out.trans (hb1.mono HB.out.size)⟩
   ·go_wp2_with (go_at_call 62; (with_reducible refine hcl1.mono ?_); rintro e w1 ⟨rfl, hb1⟩)
    go_roundg (ls.length - (k + 1))
    case measure => have := HG.out; omega
    case rel => exact ⟨k + 1, rfl, by omega, by simp, HST.out (by simp), HB.out.trans (hb1.mono HB.out.size)⟩
  ·obtain rfl : k = ls.length := by omega
   go_wp2
   go_ret
   refine ⟨-1, rfl, ?_, HB.out⟩
   rw [show (ls.all fun o => goodLineB o sale) = true by
    rw [List.all_eq_true]
    intro o ho
    obtain ⟨j, hj, rfl⟩ := List.getElem_of_mem ho
    exact HA.out j hj hj]
   decide
set_option maxRecDepth 100000 in
theorem containsf_any {w : World} {B : Nat} {v : Value} {ls : List Ln} (hs : Lns w B v ls) (hl : ls.length ≤ 100000) (hB : B ≤ w.heap.size) {g : Nat} {sale : Bool} (hc : w.cell? ⟨g, 1, none⟩ = some (.bool sale)) :
  Calls Try.prog 61 #[v, .func (.func 62) #[] #[.pointer (some ⟨g, 0, none⟩)]] w fun e w' => e = .returned (.bool (!(ls.all fun o => goodLineB o sale))) ∧ Below w.heap.size w w' := by
 have hi := indexf_any hs hl hB hc
 generalize (!(ls.all fun o => goodLineB o sale)) = R at *
 clear hs hc
 go_enter Try.func61, Try.ntmps61
 go_wp2_with (go_at_call 93; (with_reducible refine hi.mono ?_); rintro e w1 ⟨r, rfl, hr, hb1⟩)
 go_ret
 exact ⟨rfl, hb1⟩
end Go.Proofs.Ytnfpmobmfcgfnaa

/- THE WALK OF record.GoodDoc (printed by gen/gengdb.py). -/
namespace Go.Proofs.Ytnfpmobmfcgfnaa
open Go.RowKit
/-- may a document be? -/
def goodDocB (o : Dm) : Bool :=
 inB (o.id.size : Int) 1 64 && decide (o.ref.size ≤ 64) && (o.cred == !o.ref.toList.isEmpty) && inB o.day 0 2932896 && countryL o.cty.data.toList && inB (o.ls.length : Int) 1 64 &&
  (o.num.toList.isEmpty || rightL o.cty.data.toList o.num.data.toList) && (o.cur.toList.isEmpty || curL o.cur.data.toList) && o.ls.all fun l => goodLineB l o.sale
/-- a document's box -/
structure DBox (w : World) (b : Nat) (o : Dm) (lv : Value) : Prop where
 c0 : w.cell? ⟨b, 0, none⟩ = some (.string o.id)
 c1 : w.cell? ⟨b, 1, none⟩ = some (.bool o.sale)
 c2 : w.cell? ⟨b, 2, none⟩ = some (.bool o.cred)
 c3 : w.cell? ⟨b, 3, none⟩ = some (.string o.ref)
 c4 : w.cell? ⟨b, 4, none⟩ = some (.int .i64 o.day)
 c5 : w.cell? ⟨b, 5, none⟩ = some (.string o.cty)
 c6 : w.cell? ⟨b, 6, none⟩ = some (.string o.num)
 c7 : w.cell? ⟨b, 7, none⟩ = some (.string o.cur)
 c8 : w.cell? ⟨b, 8, none⟩ = some lv
theorem DBox.made (w : World) (o : Dm) (lv : Value) : DBox (w.alloc (.cells (o.vs lv) 25)) w.heap.size o lv := by
 have h := heap_alloc_new w (.cells (o.vs lv) 25 (0, 0))
 exact ⟨cells_of h 0 _ rfl, cells_of h 1 _ rfl, cells_of h 2 _ rfl, cells_of h 3 _ rfl, cells_of h 4 _ rfl, cells_of h 5 _ rfl, cells_of h 6 _ rfl, cells_of h 7 _ rfl, cells_of h 8 _ rfl⟩
theorem DBox.lt {w : World} {b : Nat} {o : Dm} {lv : Value} (h : DBox w b o lv) : b < w.heap.size := World.block_lt_of_cell? w ⟨b, 0, none⟩ h.c0
theorem DBox.below {w w' : World} {b : Nat} {o : Dm} {lv : Value} (h : DBox w b o lv) (k : Below w.heap.size w w') : DBox w' b o lv :=
 ⟨(k.cell (p := ⟨b, 0, none⟩) h.lt).trans h.c0, (k.cell (p := ⟨b, 1, none⟩) h.lt).trans h.c1, (k.cell (p := ⟨b, 2, none⟩) h.lt).trans h.c2, (k.cell (p := ⟨b, 3, none⟩) h.lt).trans h.c3, (k.cell (p := ⟨b, 4, none⟩) h.lt).trans h.c4, (k.cell (p := ⟨b, 5, none⟩) h.lt).trans h.c5, (k.cell (p := ⟨b, 6, none⟩) h.lt).trans h.c6, (k.cell (p := ⟨b, 7, none⟩) h.lt).trans h.c7, (k.cell (p := ⟨b, 8, none⟩) h.lt).trans h.c8⟩
set_option maxRecDepth 100000 in
set_option maxHeartbeats 8000000 in
theorem gooddoc_any {w : World} {B : Nat} {v : Value} {o : Dm} (h : DmV w B v o) (hB : B ≤ w.heap.size) (hc : o.cty.size ≤ 9223372036854775807) (hn : o.num.size ≤ 9223372036854775807) (hl : o.ls.length ≤ 100000) :
  Calls Try.prog 28 #[v] w fun e w' => e = .returned (.bool (goodDocB o)) ∧ Below w.heap.size w w' := by
 obtain ⟨lv, rfl, hls, hok⟩ := h
 have hal := (Below.refl w.heap.size w).alloc (Nat.le_refl _) (.cells (o.vs lv) 25)
 have hbx := DBox.made w o lv
 obtain ⟨A, c, rfl, hcl, hcm⟩ := hls.form
 obtain ⟨id, sale, cred, ref, day, cty, num, cur, ls⟩ := o
 unfold goodDocB
 simp only [Dm.vs] at *
 have hcf := fun (W : World) (hW : Below w.heap.size w W) (g : Nat) (hc : W.cell? ⟨g, 1, none⟩ = some (.bool sale)) => containsf_any (hls.below (hW.mono hB)) hl (Nat.le_trans hB hW.size) hc
 have k1 := fun W => within_any (id.size : Int) 1 64 W
 have k4 := fun W => day_any day W
 have k5 := fun W => country_any cty W
 have k6 := fun W => right_any cty num hc hn W
 have k7 := fun W => cur_any cur W
 have k8 := fun W => within_any (ls.length : Int) 1 64 W
 unfold RightPost at k6
 generalize inB (id.size : Int) 1 64 = b1 at *
 generalize inB day 0 2932896 = b4 at *
 generalize countryL cty.data.toList = b5 at *
 generalize rightL cty.data.toList num.data.toList = b6 at *
 generalize curL cur.data.toList = b7 at *
 generalize inB (ls.length : Int) 1 64 = b8 at *
 generalize (ls.all fun l => goodLineB l sale) = b9 at *
 generalize hG : (b1 && decide (ref.size ≤ 64) && (cred == !ref.toList.isEmpty) && b4 && b5 && b8 && (num.toList.isEmpty || b6) && (cur.toList.isEmpty || b7) && b9) = G at *
 have HG := Lib.hid hG
 have HCF := Lib.hid hcf
 have K1 := Lib.hid k1
 have K4 := Lib.hid k4
 have K5 := Lib.hid k5
 have K6 := Lib.hid k6
 have K7 := Lib.hid k7
 have K8 := Lib.hid k8
 have HAL := Lib.hid hal
 have HBX := Lib.hid hbx
 clear hG hcf k1 k4 k5 k6 k7 k8 hal hbx hls hok
 go_enter Try.func28, Try.ntmps28
 go_upto_region 1 with fail
 generalize World.alloc w _ = w1 at HAL HBX ⊢
 have hb0 := HBX.out
 obtain ⟨c0, c1, c2, c3, c4, c5, c6, c7, c8⟩ := hb0
 simp only at c0 c1 c2 c3 c4 c5 c6 c7 c8
 cases b1
 ·skip
  have hG := HG.out
  simp only [Bool.false_and] at hG
  subst hG
  go_wp2_with (first
   | (go_at_call 50; first | ((with_reducible refine (K1.out _).mono ?_); rintro e w' ⟨rfl, rfl⟩) | ((with_reducible refine (K8.out _).mono ?_); rintro e w' ⟨rfl, rfl⟩))
   | (go_at_call 51; first | ((with_reducible refine (K4.out _).mono ?_); rintro e w' ⟨rfl, rfl⟩))
   | (go_at_call 60; first | ((with_reducible refine (K5.out _).mono ?_); rintro e w' ⟨rfl, rfl⟩))
   | (go_at_call 54; first | ((with_reducible refine (K7.out _).mono ?_); rintro e w' ⟨rfl, rfl⟩)))
  all_goals go_ret
  all_goals exact ⟨rfl, HAL.out⟩
 by_cases h2 : ref.size ≤ 64
 case neg =>
  have e2 : decide ((64 : Int) < (ref.size : Int)) = true := decide_eq_true (by omega)
  have hG := HG.out
  rw [decide_eq_false h2] at hG; simp only [Bool.false_and, Bool.and_false] at hG
  subst hG
  go_wp2_with (first
   | (go_at_call 50; first | ((with_reducible refine (K1.out _).mono ?_); rintro e w' ⟨rfl, rfl⟩) | ((with_reducible refine (K8.out _).mono ?_); rintro e w' ⟨rfl, rfl⟩))
   | (go_at_call 51; first | ((with_reducible refine (K4.out _).mono ?_); rintro e w' ⟨rfl, rfl⟩))
   | (go_at_call 60; first | ((with_reducible refine (K5.out _).mono ?_); rintro e w' ⟨rfl, rfl⟩))
   | (go_at_call 54; first | ((with_reducible refine (K7.out _).mono ?_); rintro e w' ⟨rfl, rfl⟩)))
  all_goals go_ret
  all_goals exact ⟨rfl, HAL.out⟩
 have e2 : decide ((64 : Int) < (ref.size : Int)) = false := decide_eq_false (by omega)
 go_upto_region 3 with (first
  | (go_at_call 50; first | ((with_reducible refine (K1.out _).mono ?_); rintro e w' ⟨rfl, rfl⟩) | ((with_reducible refine (K8.out _).mono ?_); rintro e w' ⟨rfl, rfl⟩))
  | (go_at_call 51; first | ((with_reducible refine (K4.out _).mono ?_); rintro e w' ⟨rfl, rfl⟩))
  | (go_at_call 60; first | ((with_reducible refine (K5.out _).mono ?_); rintro e w' ⟨rfl, rfl⟩))
  | (go_at_call 54; first | ((with_reducible refine (K7.out _).mono ?_); rintro e w' ⟨rfl, rfl⟩)))
 have hG := HG.out
 rw [decide_eq_true h2] at hG
 simp only [Bool.true_and] at hG
 have HG1 := Lib.hid hG
 clear hG HG e2 h2
 cases h3 : (cred == !ref.toList.isEmpty)
 ·have hG := HG1.out
  rw [h3] at hG
  simp only [Bool.false_and] at hG
  subst hG
  cases cred
  ·cases hre : ref.toList.isEmpty
   ·rw [hre] at h3
    clear h3
    go_wp2_with (first
     | (go_at_call 50; first | ((with_reducible refine (K1.out _).mono ?_); rintro e w' ⟨rfl, rfl⟩) | ((with_reducible refine (K8.out _).mono ?_); rintro e w' ⟨rfl, rfl⟩))
     | (go_at_call 51; first | ((with_reducible refine (K4.out _).mono ?_); rintro e w' ⟨rfl, rfl⟩))
     | (go_at_call 60; first | ((with_reducible refine (K5.out _).mono ?_); rintro e w' ⟨rfl, rfl⟩))
     | (go_at_call 54; first | ((with_reducible refine (K7.out _).mono ?_); rintro e w' ⟨rfl, rfl⟩)))
    go_ret
    exact ⟨rfl, HAL.out⟩
   ·rw [hre] at h3
    exact absurd h3 (by decide)
  ·cases hre : ref.toList.isEmpty
   ·rw [hre] at h3
    exact absurd h3 (by decide)
   ·rw [hre] at h3
    clear h3
    go_wp2_with (first
     | (go_at_call 50; first | ((with_reducible refine (K1.out _).mono ?_); rintro e w' ⟨rfl, rfl⟩) | ((with_reducible refine (K8.out _).mono ?_); rintro e w' ⟨rfl, rfl⟩))
     | (go_at_call 51; first | ((with_reducible refine (K4.out _).mono ?_); rintro e w' ⟨rfl, rfl⟩))
     | (go_at_call 60; first | ((with_reducible refine (K5.out _).mono ?_); rintro e w' ⟨rfl, rfl⟩))
     | (go_at_call 54; first | ((with_reducible refine (K7.out _).mono ?_); rintro e w' ⟨rfl, rfl⟩)))
    go_ret
    exact ⟨rfl, HAL.out⟩
 go_cut [15] from 16 (fun x15 wx => x15 = .bool false ∧ w1 = wx)
 case first =>
  cases cred
  ·cases hre : ref.toList.isEmpty
   ·rw [hre] at h3
    exact absurd h3 (by decide)
   ·rw [hre] at h3
    clear h3
    go_wp2
    go_meet
    exact ⟨rfl, rfl⟩
  ·cases hre : ref.toList.isEmpty
   ·rw [hre] at h3
    clear h3
    go_wp2
    go_meet
    exact ⟨rfl, rfl⟩
   ·rw [hre] at h3
    exact absurd h3 (by decide)
 case rest =>
 obtain ⟨rfl, rfl⟩ := hcut
 have hG := HG1.out
 rw [h3] at hG
 simp only [Bool.true_and] at hG
 have HG := Lib.hid hG
 clear hG HG1 h3
 cases b4
 ·skip
  have hG := HG.out
  simp only [Bool.false_and] at hG
  subst hG
  go_wp2_with (first
   | (go_at_call 50; first | ((with_reducible refine (K1.out _).mono ?_); rintro e w' ⟨rfl, rfl⟩) | ((with_reducible refine (K8.out _).mono ?_); rintro e w' ⟨rfl, rfl⟩))
   | (go_at_call 51; first | ((with_reducible refine (K4.out _).mono ?_); rintro e w' ⟨rfl, rfl⟩))
   | (go_at_call 60; first | ((with_reducible refine (K5.out _).mono ?_); rintro e w' ⟨rfl, rfl⟩))
   | (go_at_call 54; first | ((with_reducible refine (K7.out _).mono ?_); rintro e w' ⟨rfl, rfl⟩)))
  all_goals go_ret
  all_goals exact ⟨rfl, HAL.out⟩
 cases b5
 ·skip
  have hG := HG.out
  simp only [Bool.false_and, Bool.and_false] at hG
  subst hG
  go_wp2_with (first
   | (go_at_call 50; first | ((with_reducible refine (K1.out _).mono ?_); rintro e w' ⟨rfl, rfl⟩) | ((with_reducible refine (K8.out _).mono ?_); rintro e w' ⟨rfl, rfl⟩))
   | (go_at_call 51; first | ((with_reducible refine (K4.out _).mono ?_); rintro e w' ⟨rfl, rfl⟩))
   | (go_at_call 60; first | ((with_reducible refine (K5.out _).mono ?_); rintro e w' ⟨rfl, rfl⟩))
   | (go_at_call 54; first | ((with_reducible refine (K7.out _).mono ?_); rintro e w' ⟨rfl, rfl⟩)))
  all_goals go_ret
  all_goals exact ⟨rfl, HAL.out⟩
 have hG := HG.out
 simp only [Bool.true_and] at hG
 have HG2 := Lib.hid hG
 clear hG HG
 go_upto_region 7 with (first
  | (go_at_call 50; first | ((with_reducible refine (K1.out _).mono ?_); rintro e w' ⟨rfl, rfl⟩) | ((with_reducible refine (K8.out _).mono ?_); rintro e w' ⟨rfl, rfl⟩))
  | (go_at_call 51; first | ((with_reducible refine (K4.out _).mono ?_); rintro e w' ⟨rfl, rfl⟩))
  | (go_at_call 60; first | ((with_reducible refine (K5.out _).mono ?_); rintro e w' ⟨rfl, rfl⟩))
  | (go_at_call 54; first | ((with_reducible refine (K7.out _).mono ?_); rintro e w' ⟨rfl, rfl⟩)))
 by_cases hbad : num.toList.isEmpty = false ∧ b6 = false
 ·obtain ⟨hne, rfl⟩ := hbad
  have hG := HG2.out
  rw [hne] at hG
  simp only [Bool.or_self, Bool.false_and, Bool.and_false] at hG
  subst hG
  have k6 := K6.out w1
  go_wp2_with (go_at_call 53; (with_reducible refine k6.mono ?_); rintro e w2 ⟨rfl, hb2⟩)
  go_ret
  exact ⟨rfl, HAL.out.trans (hb2.mono HAL.out.size)⟩
 go_cut [33] from 34 (fun x33 wx => x33 = .bool false ∧ Below w1.heap.size w1 wx)
 case first =>
  have k6 := K6.out w1
  cases hne : num.toList.isEmpty
  ·have hb6 : b6 = true := by cases b6; exact absurd ⟨hne, rfl⟩ hbad; rfl
   subst hb6
   go_wp2_with (go_at_call 53; (with_reducible refine k6.mono ?_); rintro e w2 ⟨rfl, hb2⟩)
   go_meet
   exact ⟨rfl, hb2⟩
  ·go_wp2
   go_meet
   exact ⟨rfl, Below.refl _ _⟩
 case rest =>
 obtain ⟨rfl, hbc⟩ := hcut
 generalize wc = wc2 at hbc ⊢
 have hG := HG2.out
 have hnum : (num.toList.isEmpty || b6) = true := by
  cases hne : num.toList.isEmpty
  ·cases b6
   ·exact absurd ⟨hne, rfl⟩ hbad
   ·rfl
  ·rfl
 rw [hnum] at hG
 simp only [Bool.and_true] at hG
 have HG3 := Lib.hid hG
 have hbx2 := HBX.out.below hbc
 obtain ⟨y0, y1, y2, y3, y4, y5, y6, y7, y8⟩ := hbx2
 simp only at y0 y1 y2 y3 y4 y5 y6 y7 y8
 have HAL2 := Lib.hid (HAL.out.trans (hbc.mono HAL.out.size))
 have HY1 := Lib.hid y1
 clear hG HG2 hbad hnum c0 c1 c2 c3 c4 c5 c6 c7 c8 hbc
 by_cases hbad : cur.toList.isEmpty = false ∧ b7 = false
 ·obtain ⟨hne, rfl⟩ := hbad
  have hG := HG3.out
  rw [hne] at hG
  simp only [Bool.or_self, Bool.false_and, Bool.and_false] at hG
  subst hG
  go_wp2_with (go_at_call 54; (with_reducible refine (K7.out _).mono ?_); rintro e w2 ⟨rfl, rfl⟩)
  go_ret
  exact ⟨rfl, HAL2.out⟩
 have hG := HG3.out
 have hcur : (cur.toList.isEmpty || b7) = true := by
  cases hne : cur.toList.isEmpty
  ·cases b7
   ·exact absurd ⟨hne, rfl⟩ hbad
   ·rfl
  ·rfl
 rw [hcur] at hG
 simp only [Bool.and_true] at hG
 have HG4 := Lib.hid hG
 clear hG HG3 hcur
 go_upto_region 9 with fail
 go_cut [45] from 46 (fun x45 wx => x45 = .bool false ∧ wc2 = wx)
 case first =>
  cases hne : cur.toList.isEmpty
  ·have hb7 : b7 = true := by cases b7; exact absurd ⟨hne, rfl⟩ hbad; rfl
   subst hb7
   go_wp2_with (go_at_call 54; (with_reducible refine (K7.out _).mono ?_); rintro e w2 ⟨rfl, rfl⟩)
   go_meet
   exact ⟨rfl, rfl⟩
  ·go_wp2
   go_meet
   exact ⟨rfl, rfl⟩
 case rest =>
 obtain ⟨rfl, rfl⟩ := hcut
 clear hbad
 have hG := HG4.out
 cases b8
 ·simp only [Bool.false_and] at hG
  subst hG
  go_wp2_with (go_at_call 50; (with_reducible refine (K8.out _).mono ?_); rintro e w2 ⟨rfl, rfl⟩)
  go_ret
  exact ⟨rfl, HAL2.out⟩
 ·simp only [Bool.true_and] at hG
  subst hG
  go_wp2_with (first
   | (go_at_call 50; (with_reducible refine (K8.out _).mono ?_); rintro e w2 ⟨rfl, rfl⟩)
   | (go_at_call 61; (with_reducible refine (HCF.out _ HAL2.out _ HY1.out).mono ?_); rintro e w3 ⟨rfl, hb3⟩))
  go_ret
  exact ⟨ret_bool (by simp), HAL2.out.trans (hb3.mono HAL2.out.size)⟩
end Go.Proofs.Ytnfpmobmfcgfnaa

/- THE WALK OF octroiref08.SameDoc (printed by gen/gengsa.py). -/
namespace Go.Proofs.Ytnfpmobmfcgfnaa
open Go.RowKit
theorem Dm.eq_iff (a b : Dm) : (a.id = b.id ∧ a.sale = b.sale ∧ a.cred = b.cred ∧ a.ref = b.ref ∧ a.day = b.day ∧ a.cty = b.cty ∧ a.num = b.num ∧ a.cur = b.cur ∧ a.ls = b.ls) ↔ a = b := by
 constructor
 ·rintro ⟨h1, h2, h3, h4, h5, h6, h7, h8, h9⟩
  cases a; cases b
  simp only at *
  subst h1 h2 h3 h4 h5 h6 h7 h8 h9
  rfl
 ·rintro rfl
  exact ⟨rfl, rfl, rfl, rfl, rfl, rfl, rfl, rfl, rfl⟩
instance : DecidableEq Dm := fun a b => decidable_of_iff _ (Dm.eq_iff a b)
theorem toL_iff (a b : ByteArray) : a.toList = b.toList ↔ a = b := by rw [ByteArray.toList_eq, ByteArray.toList_eq]; exact toList_data a b
theorem bne_of_ne {x y : Bool} (h : ¬ x = y) : (x != y) = true := by cases x <;> cases y <;> first | rfl | exact absurd rfl h
/-- the first test of SameDoc, as the walk says it -/
def chainB (a b : Dm) : Bool := (a.id.toList == b.id.toList) && (a.sale == b.sale) && (a.cred == b.cred) && (a.ref.toList == b.ref.toList) && (a.day == b.day) && (a.cty.toList == b.cty.toList) && (a.num.toList == b.num.toList) && (a.cur.toList == b.cur.toList) && (a.ls.length == b.ls.length)
theorem chainB_iff (a b : Dm) : (chainB a b && decide (a.ls = b.ls)) = decide (a = b) := by
 rw [Bool.eq_iff_iff, decide_eq_true_eq, ← Dm.eq_iff]
 simp only [chainB, Bool.and_eq_true, beq_iff_eq, toL_iff, decide_eq_true_eq]
 constructor
 ·rintro ⟨⟨⟨⟨⟨⟨⟨⟨⟨h1, h2⟩, h3⟩, h4⟩, h5⟩, h6⟩, h7⟩, h8⟩, _⟩, h9⟩
  exact ⟨h1, h2, h3, h4, h5, h6, h7, h8, h9⟩
 ·rintro ⟨h1, h2, h3, h4, h5, h6, h7, h8, h9⟩
  exact ⟨⟨⟨⟨⟨⟨⟨⟨⟨h1, h2⟩, h3⟩, h4⟩, h5⟩, h6⟩, h7⟩, h8⟩, by rw [h9]⟩, h9⟩
theorem chainB_len {a b : Dm} (h : chainB a b = true) : a.ls.length = b.ls.length := by
 simp only [chainB, Bool.and_eq_true, beq_iff_eq] at h
 exact h.2
theorem exec_neagg {P : Program} {o : Oper} {ρ : Operand → Value} {w : World} {t t' : TypeId} {x y : Operand} {X Y : Array Value} {u : Value} (ho : o.op = .binOp .neq t x y t') (hx : ρ x = .agg X) (hy : ρ y = .agg Y) (hm : P.eqGuardType P.depth t = false) (h : (binOp .neq t (.agg X) (.agg Y)).run P w = .ok u w) : (execOp ρ o).run P w = .ok (.value u) w := by
 have hg := run_eqGuard_agg (P := P) w .neq t x y X Y hm
 unfold execOp; simp only [ho, hx, hy, Sem.run_bind, hg, h, Result.andThen_ok, Sem.run_pure]
theorem exec_eqagg {P : Program} {o : Oper} {ρ : Operand → Value} {w : World} {t t' : TypeId} {x y : Operand} {X Y : Array Value} {u : Value} (ho : o.op = .binOp .eql t x y t') (hx : ρ x = .agg X) (hy : ρ y = .agg Y) (hm : P.eqGuardType P.depth t = false) (h : (binOp .eql t (.agg X) (.agg Y)).run P w = .ok u w) : (execOp ρ o).run P w = .ok (.value u) w := by
 have hg := run_eqGuard_agg (P := P) w .eql t x y X Y hm
 unfold execOp; simp only [ho, hx, hy, Sem.run_bind, hg, h, Result.andThen_ok, Sem.run_pure]
theorem eval_tmp {a : Act} {t : Nat} {v : Value} (h : a.tmps[t]?.getD undef = v) : a.eval (.tmp t) = v := by
 rw [← h]; simp [Act.eval]
set_option maxRecDepth 100000 in
set_option maxHeartbeats 8000000 in
theorem rsamedoc_any {w : World} {Ba Bb : Nat} {va vb : Value} {a b : Dm} (ha : DmV w Ba va a) (hBa : Ba ≤ w.heap.size) (hb : DmV w Bb vb b) (hBb : Bb ≤ w.heap.size) (hl : a.ls.length ≤ 100000) :
  Calls Try.prog 17 #[va, vb] w fun e w' => e = .returned (.bool (decide (a = b))) ∧ Below w.heap.size w w' := by
 obtain ⟨lva, rfl, hla, hoka⟩ := ha
 obtain ⟨lvb, rfl, hlb, hokb⟩ := hb
 rw [← chainB_iff]
 have hlen := @chainB_len a b
 have hal1 := (Below.refl w.heap.size w).alloc (Nat.le_refl _) (.cells (a.vs lva) 25)
 have hbx1 := DBox.made w a lva
 have hal2 := (Below.refl (w.alloc (.cells (a.vs lva) 25)).heap.size (w.alloc (.cells (a.vs lva) 25))).alloc (Nat.le_refl _) (.cells (b.vs lvb) 25)
 have hbx1 := hbx1.below hal2
 have hbx2 := DBox.made (w.alloc (.cells (a.vs lva) 25)) b lvb
 have hal := hal1.trans (hal2.mono hal1.size)
 rw [World.size_alloc] at hbx2
 obtain ⟨Aa, ca, rfl, hcla, hcma⟩ := hla.form
 obtain ⟨Ab, cb, rfl, hclb, hcmb⟩ := hlb.form
 have hla2 := fun W (hW : Below w.heap.size w W) => hla.below (hW.mono hBa)
 have hlb2 := fun W (hW : Below w.heap.size w W) => hlb.below (hW.mono hBb)
 obtain ⟨id, sale, cred, ref, day, cty, num, cur, ls⟩ := a
 obtain ⟨id', sale', cred', ref', day', cty', num', cur', ls'⟩ := b
 unfold chainB
 unfold chainB at hlen
 simp only [Dm.vs] at *
 generalize hR : decide (ls = ls') = R at *
 generalize hG : (((id.toList == id'.toList) && (sale == sale') && (cred == cred') && (ref.toList == ref'.toList) && (day == day') && (cty.toList == cty'.toList) && (num.toList == num'.toList) && (cur.toList == cur'.toList) && (ls.length == ls'.length)) && R) = G at *
 have HG0 := Lib.hid hG
 clear hG
 have HR := Lib.hid hR
 have HLA := Lib.hid hla2
 have HLB := Lib.hid hlb2
 have HAL := Lib.hid hal
 have HB1 := Lib.hid hbx1
 have HB2 := Lib.hid hbx2
 have HLEN := Lib.hid hlen
 clear hR hla hlb hla2 hlb2 hoka hokb hal1 hal2 hal hbx1 hbx2 hlen
 go_enter Try.func17, Try.ntmps17
 go_upto_region 1 with fail
 generalize World.alloc (World.alloc w _) _ = w1 at HAL HB1 HB2 ⊢
 obtain ⟨c0, c1, c2, c3, c4, c5, c6, c7, c8⟩ := HB1.out
 obtain ⟨d0, d1, d2, d3, d4, d5, d6, d7, d8⟩ := HB2.out
 simp only at c0 c1 c2 c3 c4 c5 c6 c7 c8 d0 d1 d2 d3 d4 d5 d6 d7 d8
 go_cut [68] from 6 (fun x68 wx => x68 = .bool (!((id.toList == id'.toList) && (sale == sale') && (cred == cred') && (ref.toList == ref'.toList) && (day == day') && (cty.toList == cty'.toList) && (num.toList == num'.toList) && (cur.toList == cur'.toList) && (ls.length == ls'.length))) ∧ w1 = wx)
 case first =>
  by_cases hs : sale = sale'
  case neg =>
   have e1 := bne_of_ne hs
   have e2 : (sale == sale') = false := by rw [beq_eq_false_iff_ne]; exact hs
   clear hs
   go_wp2
   all_goals (go_meet; exact ⟨congrArg Value.bool (by simp [*]), rfl⟩)
  subst hs
  by_cases hs : cred = cred'
  case neg =>
   have e1 := bne_of_ne hs
   have e2 : (cred == cred') = false := by rw [beq_eq_false_iff_ne]; exact hs
   clear hs
   go_wp2
   all_goals (go_meet; exact ⟨congrArg Value.bool (by simp [*]), rfl⟩)
  subst hs
  by_cases hs : day = day'
  case neg =>
   have e1 : (day != day') = true := by simp [hs]
   have e2 : (day == day') = false := by rw [beq_eq_false_iff_ne]; exact hs
   clear hs
   go_wp2
   all_goals (go_meet; exact ⟨congrArg Value.bool (by simp [*]), rfl⟩)
  subst hs
  have e9 : ((ls.length : Int) != (ls'.length : Int)) = !(ls.length == ls'.length) := by
   rw [bne]; congr 1; rw [Bool.eq_iff_iff, beq_iff_eq, beq_iff_eq]; omega
  go_wp2
  all_goals (go_meet; exact ⟨congrArg Value.bool (by simp [*]), rfl⟩)
 case rest =>
 obtain ⟨rfl, rfl⟩ := hcut

 generalize hC : ((id.toList == id'.toList) && (sale == sale') && (cred == cred') && (ref.toList == ref'.toList) && (day == day') && (cty.toList == cty'.toList) && (num.toList == num'.toList) && (cur.toList == cur'.toList) && (ls.length == ls'.length)) = C at *
 clear hC
 have hG := HG0.out
 cases C
 ·rw [Bool.false_and] at hG
  subst hG
  go_wp2
  go_ret
  exact ⟨rfl, HAL.out⟩
 have hlen := HLEN.out rfl
 rw [Bool.true_and] at hG
 subst hG
 have hR := HR.out
 clear c0 c1 c2 c3 c4 c5 c6 c7 c8 d0 d1 d2 d3 d4 d5 d6 d7 d8 HLEN
 go_wp2
 go_loopg [5] ls.length (fun gk x5 wr => ∃ k : Nat, gk = ls.length - k ∧ k ≤ ls.length ∧ x5 = .int .i64 (k : Int) ∧ decide (ls.drop k = ls'.drop k) = R ∧ Below w1.heap.size w1 wr)
 case atStart => exact ⟨0, rfl, Nat.zero_le _, rfl, HR.out, Below.refl _ _⟩
 case round =>
  obtain ⟨k, hgk, hk, rfl, hal, hbel⟩ := hrel
  have HG := Lib.hid hgk
  have HA := Lib.hid hal
  have HB := Lib.hid hbel
  obtain ⟨c0, c1, c2, c3, c4, c5, c6, c7, c8⟩ := HB1.out.below hbel
  obtain ⟨d0, d1, d2, d3, d4, d5, d6, d7, d8⟩ := HB2.out.below hbel
  simp only at c0 c1 c2 c3 c4 c5 c6 c7 c8 d0 d1 d2 d3 d4 d5 d6 d7 d8
  clear hgk hal hbel hR
  by_cases h : k < ls.length
  ·have h' : k < ls'.length := by omega
   have hwr := HAL.out.trans (HB.out.mono HAL.out.size)
   obtain ⟨ad, c', hv, hadB, hok, hat⟩ := (HLA.out wr hwr).at_ k h
   cases hv
   obtain ⟨ad', c', hv, hadB', hok', hat'⟩ := (HLB.out wr hwr).at_ k h'
   cases hv
   have hal := HA.out
   rw [List.drop_eq_getElem_cons h, List.drop_eq_getElem_cons h'] at hal
   have hX : decide (ls[k] = ls'[k] ∧ ls.drop (k + 1) = ls'.drop (k + 1)) = R := by
    rw [← hal]; congr 1; rw [List.cons.injEq]
   have hnq := fun W => ln_neq hok hok' W
   have HAT := Lib.hid (fun W (hW : Below wr.heap.size wr W) => hat.keep (B := wr.heap.size) (w' := W) (Nat.lt_of_lt_of_le (by rw [addr_add_block]; exact hadB) (Nat.le_trans hBa hwr.size)) (fun p hp => hW.cell hp))
   have HAT' := Lib.hid (fun W (hW : Below wr.heap.size wr W) => hat'.keep (B := wr.heap.size) (w' := W) (Nat.lt_of_lt_of_le (by rw [addr_add_block]; exact hadB') (Nat.le_trans hBb hwr.size)) (fun p hp => hW.cell hp))
   have HBW := Lib.hid (fun W (hW : Below wr.heap.size wr W) => (HB1.out.below HB.out).below hW)
   have HBW' := Lib.hid (fun W (hW : Below wr.heap.size wr W) => (HB2.out.below HB.out).below hW)
   have HAL3 := Lib.hid hX
   have HWR := Lib.hid hwr
   have i1 : (0 : Int) ≤ (k : Int) := by omega
   have i2 : (k : Int) < (ls.length : Int) := by omega
   have i2' : (k : Int) < (ls'.length : Int) := by omega
   have i3 : IntKind.i64.wrap ((k : Int) + 1) = (k : Int) + 1 := by rw [IntKind.wrap_i64]; omega
   clear hok hok' hal hX hat hat' hwr
   generalize ls[k] = o at *
   generalize ls'[k] = o' at *
   obtain ⟨sup, cat, fr, tw, pl, am, gr, co, mx⟩ := o
   obtain ⟨sup', cat', fr', tw', pl', am', gr', co', mx'⟩ := o'
   simp only [Ln.vs] at hnq
   have hX := HAL3.out
   clear HAL3
   generalize hx : decide (Ln.mk sup cat fr tw pl am gr co mx = Ln.mk sup' cat' fr' tw' pl' am' gr' co' mx') = X at *
   have HX := Lib.hid hx
   have HNQ := Lib.hid hnq
   have HX2 := Lib.hid hX
   clear hnq hx hX
   go_upto_region 6 with fail
   refine wp_region_sp (by kernel_rfl) [isS (.pointer (some ⟨w.heap.size, 8, none⟩)), isS (.slice (some ad) ls.length ca), isS (.int .i64 (k : Int)), isS (.pointer (some (ad.add (k * 9)))), isS (.agg #[.int .i64 sup, .int .i64 cat, .string fr, .string tw, .string pl, .int .i64 am, .bool gr, .int .i64 co, .bool mx]), isS (.pointer (some ⟨w.heap.size + 1, 8, none⟩)), isS (.slice (some ad') ls'.length cb), isS (.int .i64 (k : Int)), isS (.pointer (some (ad'.add (k * 9)))), isS (.agg #[.int .i64 sup', .int .i64 cat', .string fr', .string tw', .string pl', .int .i64 am', .bool gr', .int .i64 co', .bool mx']), isS (.bool (!X))] (by kernel_rfl) (by kernel_rfl) (fun q hq => ?_) (fun a' w3 hc hs => ?_)
   ·match q, hq with
    | 0, _ =>
     intro a W hc hd
     have z2 := hc.same 2 (by kernel_rfl)
     simp only [List.getElem?_toArray, List.getElem?_cons_succ, List.getElem?_cons_zero, Option.getD_some] at z2
     refine obl_val rfl (wanted_none rfl) ?_ rfl
     go_simp
    | 1, _ =>
     intro a W hc hd
     have s0 : a.tmps[76]?.getD undef = (.pointer (some ⟨w.heap.size, 8, none⟩)) := hd 0 (by kernel_rfl)
     obtain ⟨q0, q1, q2, q3, q4, q5, q6, q7, q8⟩ := HBW.out W ((Below.refl wr.heap.size wr).drew.trans hc.below)
     simp only at q0 q1 q2 q3 q4 q5 q6 q7 q8
     refine obl_val rfl (wanted_none rfl) ?_ rfl
     go_simp
    | 2, _ =>
     intro a W hc hd
     have z5 := hc.same 5 (by kernel_rfl)
     simp only [List.getElem?_toArray, List.getElem?_cons_succ, List.getElem?_cons_zero, Option.getD_some] at z5
     refine obl_val rfl (wanted_none rfl) ?_ rfl
     go_simp
    | 3, _ =>
     intro a W hc hd
     have s1 : a.tmps[77]?.getD undef = (.slice (some ad) ls.length ca) := hd 1 (by kernel_rfl)
     have s2 : a.tmps[78]?.getD undef = (.int .i64 (k : Int)) := hd 2 (by kernel_rfl)
     refine obl_val rfl (wanted_none rfl) ?_ rfl
     go_simp
    | 4, _ =>
     intro a W hc hd
     have s3 : a.tmps[79]?.getD undef = (.pointer (some (ad.add (k * 9)))) := hd 3 (by kernel_rfl)
     obtain ⟨q0, q1, q2, q3, q4, q5, q6, q7, q8⟩ := HAT.out W ((Below.refl wr.heap.size wr).drew.trans hc.below)
     simp only at q0 q1 q2 q3 q4 q5 q6 q7 q8
     refine obl_val rfl (wanted_none rfl) ?_ rfl
     go_simp
    | 5, _ =>
     intro a W hc hd
     have z3 := hc.same 3 (by kernel_rfl)
     simp only [List.getElem?_toArray, List.getElem?_cons_succ, List.getElem?_cons_zero, Option.getD_some] at z3
     refine obl_val rfl (wanted_none rfl) ?_ rfl
     go_simp
    | 6, _ =>
     intro a W hc hd
     have s5 : a.tmps[81]?.getD undef = (.pointer (some ⟨w.heap.size + 1, 8, none⟩)) := hd 5 (by kernel_rfl)
     obtain ⟨q0, q1, q2, q3, q4, q5, q6, q7, q8⟩ := HBW'.out W ((Below.refl wr.heap.size wr).drew.trans hc.below)
     simp only at q0 q1 q2 q3 q4 q5 q6 q7 q8
     refine obl_val rfl (wanted_none rfl) ?_ rfl
     go_simp
    | 7, _ =>
     intro a W hc hd
     have z5 := hc.same 5 (by kernel_rfl)
     simp only [List.getElem?_toArray, List.getElem?_cons_succ, List.getElem?_cons_zero, Option.getD_some] at z5
     refine obl_val rfl (wanted_none rfl) ?_ rfl
     go_simp
    | 8, _ =>
     intro a W hc hd
     have s6 : a.tmps[82]?.getD undef = (.slice (some ad') ls'.length cb) := hd 6 (by kernel_rfl)
     have s7 : a.tmps[83]?.getD undef = (.int .i64 (k : Int)) := hd 7 (by kernel_rfl)
     refine obl_val rfl (wanted_none rfl) ?_ rfl
     go_simp
    | 9, _ =>
     intro a W hc hd
     have s8 : a.tmps[84]?.getD undef = (.pointer (some (ad'.add (k * 9)))) := hd 8 (by kernel_rfl)
     obtain ⟨q0, q1, q2, q3, q4, q5, q6, q7, q8⟩ := HAT'.out W ((Below.refl wr.heap.size wr).drew.trans hc.below)
     simp only at q0 q1 q2 q3 q4 q5 q6 q7 q8
     refine obl_val rfl (wanted_none rfl) ?_ rfl
     go_simp
    | 10, _ =>
     intro a W hc hd
     have s4 : a.tmps[80]?.getD undef = (.agg #[.int .i64 sup, .int .i64 cat, .string fr, .string tw, .string pl, .int .i64 am, .bool gr, .int .i64 co, .bool mx]) := hd 4 (by kernel_rfl)
     have s9 : a.tmps[85]?.getD undef = (.agg #[.int .i64 sup', .int .i64 cat', .string fr', .string tw', .string pl', .int .i64 am', .bool gr', .int .i64 co', .bool mx']) := hd 9 (by kernel_rfl)
     refine obl_val rfl (wanted_none rfl) ?_ rfl
     exact exec_neagg rfl (eval_tmp s4) (eval_tmp s9) (by kernel_rfl) (HNQ.out W)
    | n + 11, h => exact absurd h (by simp)
   ·skip
    have hfr := grow_frame hc [(76, (.pointer (some ⟨w.heap.size, 8, none⟩))), (77, (.slice (some ad) ls.length ca)), (78, (.int .i64 (k : Int))), (79, (.pointer (some (ad.add (k * 9))))), (80, (.agg #[.int .i64 sup, .int .i64 cat, .string fr, .string tw, .string pl, .int .i64 am, .bool gr, .int .i64 co, .bool mx])), (81, (.pointer (some ⟨w.heap.size + 1, 8, none⟩))), (82, (.slice (some ad') ls'.length cb)), (83, (.int .i64 (k : Int))), (84, (.pointer (some (ad'.add (k * 9))))), (85, (.agg #[.int .i64 sup', .int .i64 cat', .string fr', .string tw', .string pl', .int .i64 am', .bool gr', .int .i64 co', .bool mx'])), (86, (.bool (!X)))] (by kernel_rfl) (fun p hp => by
      simp only [List.mem_cons, List.not_mem_nil, or_false] at hp
      rcases hp with rfl | rfl | rfl | rfl | rfl | rfl | rfl | rfl | rfl | rfl | rfl
      ·exact hs 0 76 (by decide) (by kernel_rfl)
      ·exact hs 1 77 (by decide) (by kernel_rfl)
      ·exact hs 2 78 (by decide) (by kernel_rfl)
      ·exact hs 3 79 (by decide) (by kernel_rfl)
      ·exact hs 4 80 (by decide) (by kernel_rfl)
      ·exact hs 5 81 (by decide) (by kernel_rfl)
      ·exact hs 6 82 (by decide) (by kernel_rfl)
      ·exact hs 7 83 (by decide) (by kernel_rfl)
      ·exact hs 8 84 (by decide) (by kernel_rfl)
      ·exact hs 9 85 (by decide) (by kernel_rfl)
      ·exact hs 10 86 (by decide) (by kernel_rfl)
      )
    simp only [List.range, List.range.loop, List.size_toArray, List.length_cons, List.length_nil, List.map_cons, List.map_nil, List.lookup_cons, List.lookup_nil, Nat.reduceAdd, Nat.reduceBEq, Option.getD_some, Option.getD_none, List.getElem?_toArray, List.getElem?_cons_succ, List.getElem?_cons_zero] at hfr
    subst hfr
    have HB3 := Lib.hid (HB.out.trans (((Below.refl wr.heap.size wr).drew.trans hc.below).mono HB.out.size))
    have hR := HX2.out
    have hx := HX.out
    clear hc hs
    cases X
    ·rw [decide_eq_false (fun h => by rw [decide_eq_true h.1] at hx; cases hx)] at hR
     subst hR
     clear hx
     go_wp2
     go_ret
     exact ⟨rfl, HAL.out.trans (HB3.out.mono HAL.out.size)⟩
    ·have hR2 : decide (ls.drop (k + 1) = ls'.drop (k + 1)) = R := by
      rw [← hR]
      congr 1
      exact propext ⟨fun h => ⟨of_decide_eq_true hx, h⟩, fun h => h.2⟩
     have HAL4 := Lib.hid hR2
     clear hR hx hR2
     go_wp2
     go_roundg (ls.length - (k + 1))
     case measure => have := HG.out; omega
     case rel => exact ⟨k + 1, rfl, by omega, by simp, HAL4.out, HB3.out⟩
  ·obtain rfl : k = ls.length := by omega
   have hR := HA.out
   rw [List.drop_length, hlen, List.drop_length, decide_eq_true rfl] at hR
   subst hR
   go_wp2
   go_ret
   exact ⟨rfl, HAL.out.trans (HB.out.mono HAL.out.size)⟩
end Go.Proofs.Ytnfpmobmfcgfnaa

/- THE WALK OF octroiref08.GoodDoc (printed by gen/gengdc.py). -/
namespace Go.Proofs.Ytnfpmobmfcgfnaa
open Go.RowKit
set_option maxRecDepth 100000 in
set_option maxHeartbeats 8000000 in
theorem rgooddoc_any {w : World} {B : Nat} {v : Value} {o : Dm} (h : DmV w B v o) (hB : B ≤ w.heap.size) (hn : o.num.size ≤ 9223372036854775807) (hl : o.ls.length ≤ 100000) :
    Calls Try.prog 14 #[v] w fun e w' => e = .returned (.bool (goodDocB o)) ∧ Below w.heap.size w w' := by
  obtain ⟨lv, rfl, hls, hok⟩ := h
  have hal := (Below.refl w.heap.size w).alloc (Nat.le_refl _) (.cells (o.vs lv) 25)
  have hbx := DBox.made w o lv
  obtain ⟨A, c, rfl, hcl, hcm⟩ := hls.form
  obtain ⟨id, sale, cred, ref, day, cty, num, cur, ls⟩ := o
  unfold goodDocB
  simp only [Dm.vs] at *
  have k1 := fun W => rin_any (id.size : Int) 1 64 W
  have k4 := fun W => rin_any day 0 2932896 W
  have k5 := fun W => rcountry_any cty W
  have k6 := fun W => rright_any cty num hn W
  have k7 := fun W => rcur_any cur W
  have k8 := fun W => rin_any (ls.length : Int) 1 64 W
  unfold RightPost at k6
  generalize inB (id.size : Int) 1 64 = b1 at *
  generalize inB day 0 2932896 = b4 at *
  generalize countryL cty.data.toList = b5 at *
  generalize rightL cty.data.toList num.data.toList = b6 at *
  generalize curL cur.data.toList = b7 at *
  generalize inB (ls.length : Int) 1 64 = b8 at *
  generalize hR : (ls.all fun l => goodLineB l sale) = R at *
  have HR := Lib.hid hR
  have hG : ∀ G, (b1 && decide (ref.size ≤ 64) && (cred == !ref.toList.isEmpty) && b4 && b5 && b8 && (num.toList.isEmpty || b6) && (cur.toList.isEmpty || b7) && R) = G → ((b1 && decide (ref.size ≤ 64) && (cred == !ref.toList.isEmpty) && b4 && b5 && b8) && (((num.toList.isEmpty || b6) && (cur.toList.isEmpty || b7)) && R)) = G := fun G h => by rw [← h]; simp only [Bool.and_assoc]
  generalize hG1 : (b1 && decide (ref.size ≤ 64) && (cred == !ref.toList.isEmpty) && b4 && b5 && b8 && (num.toList.isEmpty || b6) && (cur.toList.isEmpty || b7) && R) = G at *
  have HG := Lib.hid (hG G rfl)
  have HLS := Lib.hid hls
  have K1 := Lib.hid k1
  have K4 := Lib.hid k4
  have K5 := Lib.hid k5
  have K6 := Lib.hid k6
  have K7 := Lib.hid k7
  have K8 := Lib.hid k8
  have HAL := Lib.hid hal
  have HBX := Lib.hid hbx
  clear hG hG1 hR k1 k4 k5 k6 k7 k8 hal hbx hls hok
  go_enter Try.func14, Try.ntmps14
  go_upto_region 1 with fail
  generalize World.alloc w _ = w1 at HAL HBX ⊢
  have hb0 := HBX.out
  obtain ⟨c0, c1, c2, c3, c4, c5, c6, c7, c8⟩ := hb0
  simp only at c0 c1 c2 c3 c4 c5 c6 c7 c8
  go_cut [41] from 4 (fun x41 wx => x41 = .bool (!(b1 && decide (ref.size ≤ 64) && (cred == !ref.toList.isEmpty) && b4 && b5 && b8)) ∧ w1 = wx)
  case first =>
    cases b1
    · skip
      go_wp2_with (first
        | (go_at_call 40; first | ((with_reducible refine (K1.out _).mono ?_); rintro e w' ⟨rfl, rfl⟩) | ((with_reducible refine (K4.out _).mono ?_); rintro e w' ⟨rfl, rfl⟩) | ((with_reducible refine (K8.out _).mono ?_); rintro e w' ⟨rfl, rfl⟩))
        | (go_at_call 41; first | ((with_reducible refine (K5.out _).mono ?_); rintro e w' ⟨rfl, rfl⟩)))
      go_meet
      exact ⟨congrArg Value.bool (by simp []), rfl⟩
    by_cases h2 : ref.size ≤ 64
    case neg =>
      have e2 : decide ((64 : Int) < (ref.size : Int)) = true := decide_eq_true (by omega)
      go_wp2_with (first
        | (go_at_call 40; first | ((with_reducible refine (K1.out _).mono ?_); rintro e w' ⟨rfl, rfl⟩) | ((with_reducible refine (K4.out _).mono ?_); rintro e w' ⟨rfl, rfl⟩) | ((with_reducible refine (K8.out _).mono ?_); rintro e w' ⟨rfl, rfl⟩))
        | (go_at_call 41; first | ((with_reducible refine (K5.out _).mono ?_); rintro e w' ⟨rfl, rfl⟩)))
      go_meet
      exact ⟨congrArg Value.bool (by simp [h2]), rfl⟩
    have e2 : decide ((64 : Int) < (ref.size : Int)) = false := decide_eq_false (by omega)
    have H2 := Lib.hid h2
    clear h2
    cases cred
    · cases hre : ref.toList.isEmpty
      · skip
        go_wp2_with (first
          | (go_at_call 40; first | ((with_reducible refine (K1.out _).mono ?_); rintro e w' ⟨rfl, rfl⟩) | ((with_reducible refine (K4.out _).mono ?_); rintro e w' ⟨rfl, rfl⟩) | ((with_reducible refine (K8.out _).mono ?_); rintro e w' ⟨rfl, rfl⟩))
          | (go_at_call 41; first | ((with_reducible refine (K5.out _).mono ?_); rintro e w' ⟨rfl, rfl⟩)))
        go_meet
        exact ⟨congrArg Value.bool (by simp [hre]), rfl⟩
      · skip
        cases b4
        · skip
          go_wp2_with (first
            | (go_at_call 40; first | ((with_reducible refine (K1.out _).mono ?_); rintro e w' ⟨rfl, rfl⟩) | ((with_reducible refine (K4.out _).mono ?_); rintro e w' ⟨rfl, rfl⟩) | ((with_reducible refine (K8.out _).mono ?_); rintro e w' ⟨rfl, rfl⟩))
            | (go_at_call 41; first | ((with_reducible refine (K5.out _).mono ?_); rintro e w' ⟨rfl, rfl⟩)))
          go_meet
          exact ⟨congrArg Value.bool (by simp [hre]), rfl⟩
        cases b5
        · skip
          go_wp2_with (first
            | (go_at_call 40; first | ((with_reducible refine (K1.out _).mono ?_); rintro e w' ⟨rfl, rfl⟩) | ((with_reducible refine (K4.out _).mono ?_); rintro e w' ⟨rfl, rfl⟩) | ((with_reducible refine (K8.out _).mono ?_); rintro e w' ⟨rfl, rfl⟩))
            | (go_at_call 41; first | ((with_reducible refine (K5.out _).mono ?_); rintro e w' ⟨rfl, rfl⟩)))
          go_meet
          exact ⟨congrArg Value.bool (by simp [hre]), rfl⟩
        go_wp2_with (first
          | (go_at_call 40; first | ((with_reducible refine (K1.out _).mono ?_); rintro e w' ⟨rfl, rfl⟩) | ((with_reducible refine (K4.out _).mono ?_); rintro e w' ⟨rfl, rfl⟩) | ((with_reducible refine (K8.out _).mono ?_); rintro e w' ⟨rfl, rfl⟩))
          | (go_at_call 41; first | ((with_reducible refine (K5.out _).mono ?_); rintro e w' ⟨rfl, rfl⟩)))
        go_meet
        exact ⟨congrArg Value.bool (by simp [hre, H2.out]), rfl⟩
    · cases hre : ref.toList.isEmpty
      · skip
        cases b4
        · skip
          go_wp2_with (first
            | (go_at_call 40; first | ((with_reducible refine (K1.out _).mono ?_); rintro e w' ⟨rfl, rfl⟩) | ((with_reducible refine (K4.out _).mono ?_); rintro e w' ⟨rfl, rfl⟩) | ((with_reducible refine (K8.out _).mono ?_); rintro e w' ⟨rfl, rfl⟩))
            | (go_at_call 41; first | ((with_reducible refine (K5.out _).mono ?_); rintro e w' ⟨rfl, rfl⟩)))
          go_meet
          exact ⟨congrArg Value.bool (by simp [hre]), rfl⟩
        cases b5
        · skip
          go_wp2_with (first
            | (go_at_call 40; first | ((with_reducible refine (K1.out _).mono ?_); rintro e w' ⟨rfl, rfl⟩) | ((with_reducible refine (K4.out _).mono ?_); rintro e w' ⟨rfl, rfl⟩) | ((with_reducible refine (K8.out _).mono ?_); rintro e w' ⟨rfl, rfl⟩))
            | (go_at_call 41; first | ((with_reducible refine (K5.out _).mono ?_); rintro e w' ⟨rfl, rfl⟩)))
          go_meet
          exact ⟨congrArg Value.bool (by simp [hre]), rfl⟩
        go_wp2_with (first
          | (go_at_call 40; first | ((with_reducible refine (K1.out _).mono ?_); rintro e w' ⟨rfl, rfl⟩) | ((with_reducible refine (K4.out _).mono ?_); rintro e w' ⟨rfl, rfl⟩) | ((with_reducible refine (K8.out _).mono ?_); rintro e w' ⟨rfl, rfl⟩))
          | (go_at_call 41; first | ((with_reducible refine (K5.out _).mono ?_); rintro e w' ⟨rfl, rfl⟩)))
        go_meet
        exact ⟨congrArg Value.bool (by simp [hre, H2.out]), rfl⟩
      · skip
        go_wp2_with (first
          | (go_at_call 40; first | ((with_reducible refine (K1.out _).mono ?_); rintro e w' ⟨rfl, rfl⟩) | ((with_reducible refine (K4.out _).mono ?_); rintro e w' ⟨rfl, rfl⟩) | ((with_reducible refine (K8.out _).mono ?_); rintro e w' ⟨rfl, rfl⟩))
          | (go_at_call 41; first | ((with_reducible refine (K5.out _).mono ?_); rintro e w' ⟨rfl, rfl⟩)))
        go_meet
        exact ⟨congrArg Value.bool (by simp [hre]), rfl⟩
  case rest =>
  obtain ⟨rfl, rfl⟩ := hcut
  generalize (b1 && decide (ref.size ≤ 64) && (cred == !ref.toList.isEmpty) && b4 && b5 && b8) = C at *
  have hG := HG.out
  cases C
  · simp only [Bool.false_and] at hG
    subst hG
    go_wp2
    go_ret
    exact ⟨rfl, HAL.out⟩
  simp only [Bool.true_and] at hG
  have HG2 := Lib.hid hG
  clear hG HG
  go_upto_region 3 with fail
  go_cut [63] from 42 (fun x63 wx => x63 = .bool (!((num.toList.isEmpty || b6) && (cur.toList.isEmpty || b7))) ∧ Below w1.heap.size w1 wx)
  case first =>
    have k6 := K6.out w1
    cases hne : num.toList.isEmpty
    · skip
      cases b6
      · skip
        go_wp2_with (first
            | (go_at_call 42; (with_reducible refine k6.mono ?_); rintro e w2 ⟨rfl, hb2⟩
               have hy := HBX.out.below hb2
               obtain ⟨y0, y1, y2, y3, y4, y5, y6, y7, y8⟩ := hy
               simp only at y0 y1 y2 y3 y4 y5 y6 y7 y8)
            | (go_at_call 43; (with_reducible refine (K7.out _).mono ?_); rintro e w3 ⟨rfl, rfl⟩))
        go_meet
        exact ⟨congrArg Value.bool (by simp [hne]), hb2⟩
      cases hce : cur.toList.isEmpty
      · skip
        go_wp2_with (first
            | (go_at_call 42; (with_reducible refine k6.mono ?_); rintro e w2 ⟨rfl, hb2⟩
               have hy := HBX.out.below hb2
               obtain ⟨y0, y1, y2, y3, y4, y5, y6, y7, y8⟩ := hy
               simp only at y0 y1 y2 y3 y4 y5 y6 y7 y8)
            | (go_at_call 43; (with_reducible refine (K7.out _).mono ?_); rintro e w3 ⟨rfl, rfl⟩))
        go_meet
        exact ⟨congrArg Value.bool (by simp [hne, hce]), hb2⟩
      · skip
        go_wp2_with (first
            | (go_at_call 42; (with_reducible refine k6.mono ?_); rintro e w2 ⟨rfl, hb2⟩
               have hy := HBX.out.below hb2
               obtain ⟨y0, y1, y2, y3, y4, y5, y6, y7, y8⟩ := hy
               simp only at y0 y1 y2 y3 y4 y5 y6 y7 y8)
            | (go_at_call 43; (with_reducible refine (K7.out _).mono ?_); rintro e w3 ⟨rfl, rfl⟩))
        go_meet
        exact ⟨congrArg Value.bool (by simp [hne, hce]), hb2⟩
    · skip
      cases hce : cur.toList.isEmpty
      · skip
        go_wp2_with (go_at_call 43; (with_reducible refine (K7.out _).mono ?_); rintro e w3 ⟨rfl, rfl⟩)
        go_meet
        exact ⟨congrArg Value.bool (by simp [hne, hce]), Below.refl _ _⟩
      · skip
        go_wp2_with (go_at_call 43; (with_reducible refine (K7.out _).mono ?_); rintro e w3 ⟨rfl, rfl⟩)
        go_meet
        exact ⟨congrArg Value.bool (by simp [hne, hce]), Below.refl _ _⟩
  case rest =>
  obtain ⟨rfl, hbc⟩ := hcut
  generalize ((num.toList.isEmpty || b6) && (cur.toList.isEmpty || b7)) = D at *
  have HAL2 := Lib.hid (HAL.out.trans (hbc.mono HAL.out.size))
  have hbx2 := HBX.out.below hbc
  have HBX2 := Lib.hid hbx2
  have hG := HG2.out
  clear HG2 c0 c1 c2 c3 c4 c5 c6 c7 c8 hbc hbx2
  cases D
  · simp only [Bool.false_and] at hG
    subst hG
    go_wp2
    go_ret
    exact ⟨rfl, HAL2.out⟩
  simp only [Bool.true_and] at hG
  subst hG
  generalize wc = w2 at HAL2 HBX2 ⊢
  go_wp2
  go_loopg [3] ls.length (fun gk x3 wr => ∃ k : Nat, gk = ls.length - k ∧ k ≤ ls.length ∧ x3 = .int .i64 (k : Int) ∧ ((ls.drop k).all fun l => goodLineB l sale) = R ∧ Below w2.heap.size w2 wr)
  case atStart => exact ⟨0, rfl, Nat.zero_le _, rfl, HR.out, Below.refl _ _⟩
  case round =>
    obtain ⟨k, hgk, hk, rfl, hal, hbel⟩ := hrel
    have HG := Lib.hid hgk
    have HA := Lib.hid hal
    have HB := Lib.hid hbel
    have hbx3 := HBX2.out.below hbel
    obtain ⟨c0, c1, c2, c3, c4, c5, c6, c7, c8⟩ := hbx3
    simp only at c0 c1 c2 c3 c4 c5 c6 c7 c8
    clear hgk hal hbel
    by_cases h : k < ls.length
    · have hls := HLS.out.below ((HAL2.out.trans (HB.out.mono HAL2.out.size)).mono hB)
      obtain ⟨ad, c', hv, hadB, hok, hat⟩ := hls.at_ k h
      cases hv
      have hal := HA.out
      rw [List.drop_eq_getElem_cons h, List.all_cons] at hal
      have hgl := fun W => rgoodline_any ls[k] sale W
      generalize goodLineB ls[k] sale = X at *
      generalize ls[k] = o at *
      obtain ⟨sup, cat, fr, tw, pl, am, gr, co, mx⟩ := o
      simp only [Ln.vs] at hgl
      have HGL := Lib.hid hgl
      have HAT := Lib.hid (fun W (hW : Below wr.heap.size wr W) => hat.keep (B := wr.heap.size) (w' := W) (Nat.lt_of_lt_of_le (by rw [addr_add_block]; exact hadB) (Nat.le_trans hB (Nat.le_trans HAL2.out.size HB.out.size))) (fun p hp => hW.cell hp))
      have HBW := Lib.hid (fun W (hW : Below wr.heap.size wr W) => (HBX2.out.below HB.out).below hW)
      have HAL3 := Lib.hid hal
      have i1 : (0 : Int) ≤ (k : Int) := by omega
      have i2 : (k : Int) < (ls.length : Int) := by omega
      have i3 : IntKind.i64.wrap ((k : Int) + 1) = (k : Int) + 1 := by rw [IntKind.wrap_i64]; omega
      clear hok hal hgl hat hls
      go_upto_region 8 with fail
      refine wp_region_sp (by kernel_rfl) [isS (.pointer (some ⟨w.heap.size, 8, none⟩)), isS (.slice (some ad) ls.length c), isS (.int .i64 (k : Int)), isS (.pointer (some (ad.add (k * 9)))), isS (.agg #[.int .i64 sup, .int .i64 cat, .string fr, .string tw, .string pl, .int .i64 am, .bool gr, .int .i64 co, .bool mx]), isS (.pointer (some ⟨w.heap.size, 1, none⟩)), isS (.bool sale), isS (.bool X), isS (.bool (!X))] (by kernel_rfl) (by kernel_rfl) (fun q hq => ?_) (fun a' w3 hc hs => ?_)
      · match q, hq with
        | 0, _ =>
          intro a W hc hd
          have z1 := hc.same 1 (by kernel_rfl)
          simp only [List.getElem?_toArray, List.getElem?_cons_succ, List.getElem?_cons_zero, Option.getD_some] at z1
          refine obl_val rfl (wanted_none rfl) ?_ rfl
          go_simp
        | 1, _ =>
          intro a W hc hd
          have s0 : a.tmps[71]?.getD undef = (.pointer (some ⟨w.heap.size, 8, none⟩)) := hd 0 (by kernel_rfl)
          obtain ⟨q0, q1, q2, q3, q4, q5, q6, q7, q8⟩ := HBW.out W ((Below.refl wr.heap.size wr).drew.trans hc.below)
          simp only at q0 q1 q2 q3 q4 q5 q6 q7 q8
          refine obl_val rfl (wanted_none rfl) ?_ rfl
          go_simp
        | 2, _ =>
          intro a W hc hd
          have z3 := hc.same 3 (by kernel_rfl)
          simp only [List.getElem?_toArray, List.getElem?_cons_succ, List.getElem?_cons_zero, Option.getD_some] at z3
          refine obl_val rfl (wanted_none rfl) ?_ rfl
          go_simp
        | 3, _ =>
          intro a W hc hd
          have s1 : a.tmps[72]?.getD undef = (.slice (some ad) ls.length c) := hd 1 (by kernel_rfl)
          have s2 : a.tmps[73]?.getD undef = (.int .i64 (k : Int)) := hd 2 (by kernel_rfl)
          refine obl_val rfl (wanted_none rfl) ?_ rfl
          go_simp
        | 4, _ =>
          intro a W hc hd
          have s3 : a.tmps[74]?.getD undef = (.pointer (some (ad.add (k * 9)))) := hd 3 (by kernel_rfl)
          obtain ⟨q0, q1, q2, q3, q4, q5, q6, q7, q8⟩ := HAT.out W ((Below.refl wr.heap.size wr).drew.trans hc.below)
          simp only at q0 q1 q2 q3 q4 q5 q6 q7 q8
          refine obl_val rfl (wanted_none rfl) ?_ rfl
          go_simp
        | 5, _ =>
          intro a W hc hd
          have z1 := hc.same 1 (by kernel_rfl)
          simp only [List.getElem?_toArray, List.getElem?_cons_succ, List.getElem?_cons_zero, Option.getD_some] at z1
          refine obl_val rfl (wanted_none rfl) ?_ rfl
          go_simp
        | 6, _ =>
          intro a W hc hd
          have s5 : a.tmps[76]?.getD undef = (.pointer (some ⟨w.heap.size, 1, none⟩)) := hd 5 (by kernel_rfl)
          obtain ⟨q0, q1, q2, q3, q4, q5, q6, q7, q8⟩ := HBW.out W ((Below.refl wr.heap.size wr).drew.trans hc.below)
          simp only at q0 q1 q2 q3 q4 q5 q6 q7 q8
          refine obl_val rfl (wanted_none rfl) ?_ rfl
          go_simp
        | 7, _ =>
          intro a W hc hd
          have s4 : a.tmps[75]?.getD undef = (.agg #[.int .i64 sup, .int .i64 cat, .string fr, .string tw, .string pl, .int .i64 am, .bool gr, .int .i64 co, .bool mx]) := hd 4 (by kernel_rfl)
          have s6 : a.tmps[77]?.getD undef = (.bool sale) := hd 6 (by kernel_rfl)
          refine obl_call rfl (wanted_none rfl) (by go_simp) (HGL.out W) ?_
          rintro e w8 ⟨rfl, hb8⟩
          exact ⟨_, rfl, rfl, hb8⟩
        | 8, _ =>
          intro a W hc hd
          have s7 : a.tmps[78]?.getD undef = (.bool X) := hd 7 (by kernel_rfl)
          refine obl_val rfl (wanted_none rfl) ?_ rfl
          go_simp
        | n + 9, h => exact absurd h (by simp)
      · skip
        have hfr := grow_frame hc [(71, (.pointer (some ⟨w.heap.size, 8, none⟩))), (72, (.slice (some ad) ls.length c)), (73, (.int .i64 (k : Int))), (74, (.pointer (some (ad.add (k * 9))))), (75, (.agg #[.int .i64 sup, .int .i64 cat, .string fr, .string tw, .string pl, .int .i64 am, .bool gr, .int .i64 co, .bool mx])), (76, (.pointer (some ⟨w.heap.size, 1, none⟩))), (77, (.bool sale)), (78, (.bool X)), (79, (.bool (!X)))] (by kernel_rfl) (fun p hp => by
            simp only [List.mem_cons, List.not_mem_nil, or_false] at hp
            rcases hp with rfl | rfl | rfl | rfl | rfl | rfl | rfl | rfl | rfl
            · exact hs 0 71 (by decide) (by kernel_rfl)
            · exact hs 1 72 (by decide) (by kernel_rfl)
            · exact hs 2 73 (by decide) (by kernel_rfl)
            · exact hs 3 74 (by decide) (by kernel_rfl)
            · exact hs 4 75 (by decide) (by kernel_rfl)
            · exact hs 5 76 (by decide) (by kernel_rfl)
            · exact hs 6 77 (by decide) (by kernel_rfl)
            · exact hs 7 78 (by decide) (by kernel_rfl)
            · exact hs 8 79 (by decide) (by kernel_rfl)
            )
        simp only [List.range, List.range.loop, List.size_toArray, List.length_cons, List.length_nil, List.map_cons, List.map_nil, List.lookup_cons, List.lookup_nil, Nat.reduceAdd, Nat.reduceBEq, Option.getD_some, Option.getD_none, List.getElem?_toArray, List.getElem?_cons_succ, List.getElem?_cons_zero] at hfr
        subst hfr
        have HB3 := Lib.hid (HB.out.trans (((Below.refl wr.heap.size wr).drew.trans hc.below).mono HB.out.size))
        have hR := HAL3.out
        clear hc hs
        cases X
        · simp only [Bool.false_and] at hR
          subst hR
          go_wp2
          go_ret
          exact ⟨rfl, HAL2.out.trans (HB3.out.mono HAL2.out.size)⟩
        · simp only [Bool.true_and] at hR
          have HAL4 := Lib.hid hR
          clear hR
          go_wp2
          go_roundg (ls.length - (k + 1))
          case measure => have := HG.out; omega
          case rel => exact ⟨k + 1, rfl, by omega, by simp, HAL4.out, HB3.out⟩
    · obtain rfl : k = ls.length := by omega
      have hR := HA.out
      rw [List.drop_length, List.all_nil] at hR
      subst hR
      go_wp2
      go_ret
      exact ⟨rfl, HAL2.out.trans (HB.out.mono HAL2.out.size)⟩
end Go.Proofs.Ytnfpmobmfcgfnaa

