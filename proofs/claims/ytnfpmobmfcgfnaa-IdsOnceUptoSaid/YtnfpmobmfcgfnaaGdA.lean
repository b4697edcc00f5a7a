/- THE WALKS OF record.GoodDoc's CLOSURE, OF slices.IndexFunc AND ContainsFunc WITH IT, AND OF record.GoodDoc. -/
import Derived.Test.YtnfpmobmfcgfnaaGlB
namespace Go.Proofs.Ytnfpmobmfcgfnaa
open Go.RowKit
set_option maxRecDepth 100000 in
theorem gdoc1_any (o : Ln) {w : World} {g : Nat} {sale : Bool} (hc : w.cell? ⟨g, 1, none⟩ = some (.bool sale)) :
    Calls Try.prog 62 #[.agg o.vs, .pointer (some ⟨g, 0, none⟩)] w fun e w' => e = .returned (.bool (!goodLineB o sale)) ∧ Below w.heap.size w w' := by
  have hg := fun W => goodline_any o sale W
  have hal := (Below.refl w.heap.size w).alloc (Nat.le_refl _) (.cells o.vs 55)
  have hlt : g < w.heap.size := World.block_lt_of_cell? w ⟨g, 1, none⟩ hc
  have hc1 := (hal.cell (p := ⟨g, 1, none⟩) hlt).trans hc
  generalize goodLineB o sale = R at *
  obtain ⟨sup, cat, fr, tw, pl, am, gr, co, mx⟩ := o
  simp only [Ln.vs] at *
  have HG := Lib.hid hg
  have HAL := Lib.hid hal
  have hne : g ≠ w.heap.size := by omega
  clear hg hal
  go_enter Try.func62, Try.ntmps62
  go_wp2_with (go_at_call 29; (with_reducible refine (HG.out _).mono ?_); rintro e w1 ⟨rfl, hb1⟩)
  go_ret
  exact ⟨rfl, HAL.out.trans (hb1.mono HAL.out.size)⟩
def clo1 (g : Nat) : Value := .func (.func 62) #[] #[.pointer (some ⟨g, 0, none⟩)]
set_option maxRecDepth 100000 in
set_option maxHeartbeats 4000000 in
theorem indexf_any {w : World} {B : Nat} {v : Value} {ls : List Ln} (hs : Lns w B v ls) (hl : ls.length ≤ 100000) (hB : B ≤ w.heap.size) {g : Nat} {sale : Bool} (hc : w.cell? ⟨g, 1, none⟩ = some (.bool sale)) :
    Calls Try.prog 93 #[v, .func (.func 62) #[] #[.pointer (some ⟨g, 0, none⟩)]] w fun e w' => ∃ r : Int, e = .returned (.int .i64 r) ∧ decide (0 ≤ r) = !(ls.all fun o => goodLineB o sale) ∧ Below w.heap.size w w' := by
  obtain ⟨A, c, rfl, hcl, hcm⟩ := hs.form
  have hlt : g < w.heap.size := World.block_lt_of_cell? w ⟨g, 1, none⟩ hc
  have HS := Lib.hid hs
  have HC := Lib.hid hc
  clear hs hc
  go_enter Try.func93, Try.ntmps93
  go_wp2
  go_loopg [5, 8] ls.length (fun gk x5 x8 wr => ∃ k : Nat, gk = ls.length - k ∧ k ≤ ls.length ∧ x8 = .int .i64 (k : Int) ∧ (∀ j, j < k → ∀ h : j < ls.length, goodLineB ls[j] sale = true) ∧ Below w.heap.size w wr)
  case atStart => exact ⟨0, rfl, Nat.zero_le _, rfl, fun j h => absurd h (by omega), Below.refl _ _⟩
  case round =>
    obtain ⟨k, hgk, hk, rfl, hal, hbel⟩ := hrel
    have HG := Lib.hid hgk
    have HA := Lib.hid hal
    have HB := Lib.hid hbel
    clear hgk hal hbel
    by_cases h : k < ls.length
    · obtain ⟨ad, c', hv, hadB, hok, hat⟩ := (HS.out.below (HB.out.mono hB)).at_ k h
      cases hv
      have hcl1 := gdoc1_any ls[k] ((HB.out.cell (p := ⟨g, 1, none⟩) hlt).trans HC.out)
      have hstep : goodLineB ls[k] sale = true → ∀ j, j < k + 1 → ∀ h : j < ls.length, goodLineB ls[j] sale = true := fun hg j hj hjl => by
        by_cases hjk : j = k
        · subst hjk; exact hg
        · exact HA.out j (by omega) hjl
      have hbad : goodLineB ls[k] sale = false → (ls.all fun o => goodLineB o sale) = false := fun hg => by
        rw [List.all_eq_false]
        exact ⟨ls[k], List.getElem_mem h, by rw [hg]; decide⟩
      generalize goodLineB ls[k] sale = R at *
      generalize ls[k] = o at *
      obtain ⟨sup, cat, fr, tw, pl, am, gr, co, mx⟩ := o
      obtain ⟨c0, c1, c2, c3, c4, c5, c6, c7, c8⟩ := hat
      simp only [Ln.vs] at c0 c1 c2 c3 c4 c5 c6 c7 c8 hcl1
      have HST := Lib.hid hstep
      have HBD := Lib.hid hbad
      have i1 : (0 : Int) ≤ (k : Int) := by omega
      have i2 : (k : Int) < (ls.length : Int) := by omega
      have i3 : IntKind.i64.wrap ((k : Int) + 1) = (k : Int) + 1 := by rw [IntKind.wrap_i64]; omega
      clear hok hstep hbad
      cases R
      · go_wp2_with (go_at_call 62; (with_reducible refine hcl1.mono ?_); rintro e w1 ⟨rfl, hb1⟩)
        go_ret
        exact ⟨(k : Int), rfl, by rw [HBD.out (by simp)]; simp, HB.out.trans (hb1.mono HB.out.size)⟩
      · go_wp2_with (go_at_call 62; (with_reducible refine hcl1.mono ?_); rintro e w1 ⟨rfl, hb1⟩)
        go_roundg (ls.length - (k + 1))
        case measure => have := HG.out; omega
        case rel => exact ⟨k + 1, rfl, by omega, by simp, HST.out (by simp), HB.out.trans (hb1.mono HB.out.size)⟩
    · obtain rfl : k = ls.length := by omega
      go_wp2
      go_ret
      refine ⟨-1, rfl, ?_, HB.out⟩
      rw [show (ls.all fun o => goodLineB o sale) = true by
        rw [List.all_eq_true]
        intro o ho
        obtain ⟨j, hj, rfl⟩ := List.getElem_of_mem ho
        exact HA.out j hj hj]
      decide
set_option maxRecDepth 100000 in
theorem containsf_any {w : World} {B : Nat} {v : Value} {ls : List Ln} (hs : Lns w B v ls) (hl : ls.length ≤ 100000) (hB : B ≤ w.heap.size) {g : Nat} {sale : Bool} (hc : w.cell? ⟨g, 1, none⟩ = some (.bool sale)) :
    Calls Try.prog 61 #[v, .func (.func 62) #[] #[.pointer (some ⟨g, 0, none⟩)]] w fun e w' => e = .returned (.bool (!(ls.all fun o => goodLineB o sale))) ∧ Below w.heap.size w w' := by
  have hi := indexf_any hs hl hB hc
  generalize (!(ls.all fun o => goodLineB o sale)) = R at *
  clear hs hc
  go_enter Try.func61, Try.ntmps61
  go_wp2_with (go_at_call 93; (with_reducible refine hi.mono ?_); rintro e w1 ⟨r, rfl, hr, hb1⟩)
  go_ret
  exact ⟨rfl, hb1⟩
end Go.Proofs.Ytnfpmobmfcgfnaa
