/- THE WALK OF octroilaw08.Light: what a light command is sure to be (the sums of lengths may wrap: nothing is said of them). -/
import Derived.Test.YtnfpmobmfcgfnaaLnC
namespace Go.Proofs.Ytnfpmobmfcgfnaa
open Go.RowKit
def LightPost (o : Cm) (w : World) (e : Ending) (w' : World) : Prop :=
  ∃ b, e = .returned (.bool b) ∧ (b = true → o.txt.size ≤ 5000 ∧ o.cty.size ≤ 200 ∧ o.doc.ls.length ≤ 70) ∧ Below w.heap.size w w'
theorem LightPost.no {o : Cm} {w w' : World} (h : Below w.heap.size w w') : LightPost o w (.returned (.bool false)) w' := ⟨false, rfl, fun h => by simp at h, h⟩
set_option maxRecDepth 100000 in
set_option maxHeartbeats 4000000 in
theorem light8_any {w : World} {B : Nat} {v : Value} {o : Cm} (hs : CmV w B v o) (hB : B ≤ w.heap.size) : Calls Try.prog 24 #[v] w (LightPost o w) := by
  obtain ⟨lv, rfl, hls, hok⟩ := hs
  have hls2 := hls
  have hno : ∀ w', Below w.heap.size w w' → LightPost o w (.returned (.bool false)) w' := fun w' h => LightPost.no h
  have hyes : ∀ w', o.txt.size ≤ 5000 → o.cty.size ≤ 200 → o.doc.ls.length ≤ 70 → Below w.heap.size w w' → LightPost o w (.returned (.bool true)) w' := fun w' h1 h2 h3 h4 => ⟨true, rfl, fun _ => ⟨h1, h2, h3⟩, h4⟩
  clear hok
  obtain ⟨A, c, rfl, hcl, hcm⟩ := hls.form
  obtain ⟨kind, cty, txt, cat, bp, day, til, nm, dn, ix, pk, py, px, ⟨id, sale, cred, ref, dday, dcty, num, cur, ls⟩⟩ := o
  simp only [Cm.vs] at *
  have hal := (Below.refl w.heap.size w).alloc (Nat.le_refl _) (.cells #[.int .i64 kind, .string cty, .string txt, .int .i64 cat, .int .i64 bp, .int .i64 day, .int .i64 til, .int .i64 nm, .int .i64 dn, .int .i64 ix, .int .i64 pk, .int .i64 py, .int .i64 px, .string id, .bool sale, .bool cred, .string ref, .int .i64 dday, .string dcty, .string num, .string cur, .slice A ls.length c] 53)
  obtain ⟨S1, hS1⟩ : ∃ S, IntKind.i64.wrap ((id.size : Int) + (ref.size : Int)) = S := ⟨_, rfl⟩
  obtain ⟨S2, hS2⟩ : ∃ S, IntKind.i64.wrap ((dcty.size : Int) + (num.size : Int)) = S := ⟨_, rfl⟩
  obtain ⟨S3, hS3⟩ : ∃ S, IntKind.i64.wrap (S2 + (cur.size : Int)) = S := ⟨_, rfl⟩
  have HLS := Lib.hid hls2
  have HAL := Lib.hid hal
  have HNO := Lib.hid hno
  have HYES := Lib.hid hyes
  clear hls hls2 hal hno hyes
  by_cases h1 : 5000 < txt.size
  · have e1 : decide ((5000 : Int) < (txt.size : Int)) = true := decide_eq_true (by omega)
    go_enter Try.func24, Try.ntmps24
    go_wp2
    go_ret
    exact HNO.out _ HAL.out
  have e1 : decide ((5000 : Int) < (txt.size : Int)) = false := decide_eq_false (by omega)
  by_cases h2 : 200 < cty.size
  · have e2 : decide ((200 : Int) < (cty.size : Int)) = true := decide_eq_true (by omega)
    go_enter Try.func24, Try.ntmps24
    go_wp2
    go_ret
    exact HNO.out _ HAL.out
  have e2 : decide ((200 : Int) < (cty.size : Int)) = false := decide_eq_false (by omega)
  by_cases h3 : 500 < S1
  · have e3 : decide ((500 : Int) < S1) = true := decide_eq_true h3
    go_enter Try.func24, Try.ntmps24
    go_wp2
    go_ret
    exact HNO.out _ HAL.out
  have e3 : decide ((500 : Int) < S1) = false := decide_eq_false h3
  by_cases h4 : 500 < S3
  · have e4 : decide ((500 : Int) < S3) = true := decide_eq_true h4
    go_enter Try.func24, Try.ntmps24
    go_wp2
    go_ret
    exact HNO.out _ HAL.out
  have e4 : decide ((500 : Int) < S3) = false := decide_eq_false h4
  by_cases h5 : 70 < ls.length
  · have e5 : decide ((70 : Int) < (ls.length : Int)) = true := decide_eq_true (by omega)
    go_enter Try.func24, Try.ntmps24
    go_wp2
    go_ret
    exact HNO.out _ HAL.out
  have e5 : decide ((70 : Int) < (ls.length : Int)) = false := decide_eq_false (by omega)
  have HY := Lib.hid (fun w' h => HYES.out w' (by omega) (by omega) (by omega) h)
  clear HYES
  go_enter Try.func24, Try.ntmps24
  go_wp2
  go_loopg [4, 55] ls.length (fun gk x4 x55 wr => ∃ k : Nat, gk = ls.length - k ∧ k ≤ ls.length ∧ x55 = .int .i64 (k : Int) ∧ Below w.heap.size w wr)
  case atStart => exact ⟨0, rfl, Nat.zero_le _, rfl, HAL.out⟩
  case round =>
    obtain ⟨k, hgk, hk, rfl, hbel⟩ := hrel
    have HG := Lib.hid hgk
    have hwr := hbel.size
    clear hgk
    by_cases h : k < ls.length
    · obtain ⟨ad, c', hv, hadB, hok, hat⟩ := (HLS.out.below (hbel.mono hB)).at_ k h
      cases hv
      have i1 : (0 : Int) ≤ (k : Int) := by omega
      have i2 : (k : Int) < (ls.length : Int) := by omega
      have i3 : IntKind.i64.wrap ((k : Int) + 1) = (k : Int) + 1 := by rw [IntKind.wrap_i64]; omega
      generalize ls[k] = o at *
      obtain ⟨sup, lcat, fr, tw, pl, am, gr, co, mx⟩ := o
      obtain ⟨c0, c1, c2, c3, c4, c5, c6, c7, c8⟩ := hat
      simp only at c0 c1 c2 c3 c4 c5 c6 c7 c8
      have HB2 := Lib.hid (hbel.alloc hwr (.cells #[.int .i64 sup, .int .i64 lcat, .string fr, .string tw, .string pl, .int .i64 am, .bool gr, .int .i64 co, .bool mx] 55))
      obtain ⟨S4, hS4⟩ : ∃ S, IntKind.i64.wrap ((fr.size : Int) + (tw.size : Int)) = S := ⟨_, rfl⟩
      obtain ⟨S5, hS5⟩ : ∃ S, IntKind.i64.wrap (S4 + (pl.size : Int)) = S := ⟨_, rfl⟩
      clear hok hbel
      by_cases h6 : 300 < S5
      · have e6 : decide ((300 : Int) < S5) = true := decide_eq_true h6
        go_wp2
        go_ret
        exact HNO.out _ HB2.out
      · have e6 : decide ((300 : Int) < S5) = false := decide_eq_false h6
        go_wp2
        go_roundg (ls.length - (k + 1))
        case measure => have := HG.out; omega
        case rel => exact ⟨k + 1, rfl, by omega, by simp, HB2.out⟩
    · obtain rfl : k = ls.length := by omega
      go_wp2
      go_ret
      exact HY.out _ hbel
end Go.Proofs.Ytnfpmobmfcgfnaa
