/- THE WALK OF JournalRoom. -/
import Derived.Test.YtmcjefdnkcpghaaZj
namespace Go.Proofs.Ytmcjefdnkcpghaa
open Go.RowKit
set_option maxRecDepth 100000 in
set_option maxHeartbeats 8000000 in
theorem jroomlaw_any {w : World} (many : Int) (_hmany : -9223372036854775808 ≤ many ∧ many ≤ 9223372036854775807) (v : Value) (ls : List (List UInt8)) (hs : Byts w w.heap.size v ls) : Calls Try.prog 18 #[.int .i64 many, v] w (LawPost11 w) := by
  have hli := light12_any hs
  obtain ⟨A, c, rfl, hc, hm⟩ := hs.form
  unfold maxLen at hm
  by_cases h1 : many < 1
  · have e1 : decide (many < 1) = true := decide_eq_true h1
    clear hs hli
    go_enter Try.func18, Try.ntmps18
    go_wp2_with (go_at_call 75; (with_reducible refine (lives12_any _).mono ?_); rintro e w1 ⟨rfl, hb1⟩)
    go_ret
    exact ⟨rfl, hb1⟩
  have e1 : decide (many < 1) = false := decide_eq_false h1
  by_cases h2 : 60 < many
  · have e2 : decide (60 < many) = true := decide_eq_true h2
    clear hs hli
    go_enter Try.func18, Try.ntmps18
    go_wp2_with (go_at_call 75; (with_reducible refine (lives12_any _).mono ?_); rintro e w1 ⟨rfl, hb1⟩)
    go_ret
    exact ⟨rfl, hb1⟩
  have e2 : decide (60 < many) = false := decide_eq_false h2
  cases hl : light12B ls with
  | false =>
    rw [hl] at hli
    clear hs
    go_enter Try.func18, Try.ntmps18
    go_wp2_with (first
      | (go_at_call 74; (with_reducible refine hli.mono ?_); rintro e w1 ⟨rfl, hb1⟩)
      | (go_at_call 75; (with_reducible refine (lives12_any _).mono ?_); rintro e w2 ⟨rfl, hb2⟩))
    go_ret
    exact ⟨rfl, hb1.trans (hb2.mono hb1.size)⟩
  | true =>
    obtain ⟨hl1, hl2⟩ := light12_yes hl
    obtain ⟨N, rfl⟩ : ∃ N : Nat, many = (N : Int) := ⟨many.toNat, by omega⟩
    rw [hl] at hli
    have hnew := fun w => new_any N (by omega) (by omega) w
    have HNEW := Lib.hid hnew
    have HS := Lib.hid hs
    have HL1 := Lib.hid hl1
    clear hs hl hl1 hnew
    go_enter Try.func18, Try.ntmps18
    go_wp2_with (first
      | (go_at_call 74; (with_reducible refine hli.mono ?_); rintro e w1 ⟨rfl, hb1⟩)
      | (go_at_call 34; (with_reducible refine (HNEW.out _).mono ?_); rintro e w2 ⟨g, rfl, hd2, hb2⟩
         have hop := jopen_new (w0 := w) (N := N) (by omega) (by omega) ⟨hd2, fun b hb => Nat.le_trans hb1.size hb.1, fun b hb => hb.2, hb1.trans (hb2.mono hb1.size)⟩
         clear hd2 hb2)
      | (go_at_call 76; (with_reducible refine hop.mono ?_); rintro e w3 ⟨bj, A3, c3, rfl, hq3⟩
         have HQ3 := Lib.hid hq3
         clear hop hq3))
    generalize hZ : (fun b => w1.heap.size ≤ b ∧ b < w2.heap.size) = Z at *
    clear hZ
    have hon0 := (new_open N (by omega) (by omega)).2.2
    have HON0 := Lib.hid hon0
    clear hon0
    go_loopg [9, 10, 11, 12, 13, 41, 66, 77] ls.length (fun gk x9 x10 x11 x12 x13 x41 x66 x77 wr => ∃ (k : Nat) (j : Jv), gk = ls.length - k ∧ k ≤ ls.length ∧ x41 = .int .i64 (k : Int) ∧ Jq w bj g j Z wr ∧ On j.d ∧ j.d.n = N ∧ j.dead = false ∧ j.ok ∧ j.many ≤ k ∧ j.d.writes ≤ k * 1000)
    case atStart => exact ⟨0, _, rfl, Nat.zero_le _, rfl, HQ3.out, HON0.out, rfl, rfl, ⟨Nat.zero_le _, Nat.zero_le _⟩, Nat.le_refl _, by simp [Dv.new]⟩
    case round =>
      obtain ⟨k, j, hgk, hk, rfl, hq, hon, hn, hjd, hok, hjm, hjw⟩ := hrel
      have HG := Lib.hid hgk
      have HQ := Lib.hid hq
      have HON := Lib.hid hon
      have HN := Lib.hid hn
      have HJD := Lib.hid hjd
      have HOK := Lib.hid hok
      have hrm := jroom_any hq.jn hok
      have hpn := right_ok hon
      rw [hn] at hrm
      have htt := hok.tail
      rw [hn] at htt
      clear hgk hq hon hn hjd hok
      by_cases h : k < ls.length
      · obtain ⟨ad0, rfl⟩ : ∃ ad, A = some ad := by obtain ⟨ad0, u0, e, _⟩ := (HS.out.below HQ.out.below).atv k h; exact ⟨ad0, e⟩
        obtain ⟨A1, n1, c1, hcell, hn1, hc1, hm1, hby⟩ := (HS.out.below HQ.out.below).at_ k h
        have hbl := HL1.out _ (List.getElem_mem h)
        generalize ls[k] = b at *
        subst hn1
        have i1 : (0 : Int) ≤ (k : Int) := by omega
        have i2 : (k : Int) < (ls.length : Int) := by omega
        have i3 : IntKind.i64.wrap ((k : Int) + 1) = (k : Int) + 1 := by rw [IntKind.wrap_i64]; omega
        have hby' := fun W (hW : Below wr.heap.size wr W) => hby.below (hW.mono HQ.out.below.size)
        have HWW := Lib.hid (show j.d.writes + 5000 ≤ 1000000000 by omega)
        have hca := append_cases (b := b) HOK.out HON.out.ok HON.out.dead HJD.out (by omega) HWW.out
        have hao := append_on (b := b) HOK.out HON.out HJD.out (by omega) HWW.out
        rw [HN.out] at hca hao
        clear hby
        rcases hca with ⟨g1, g2⟩ | ⟨g1, g2, g3⟩ | ⟨g1, g2, _, _⟩ | ⟨_, _, _, g4, _⟩
        · have HAP := Lib.hid g2
          have hnd := fun W => rneed_any (b.length : Int) W
          rw [show needI (b.length : Int) = 0 by rw [g1]; decide] at hnd
          have HOK2 := HOK
          have HN2 := HN
          clear g1 g2 hao
          go_wp2_with (first
          | (go_at_call 77; first
             | ((with_reducible refine hrm.mono ?_); rintro e w4 ⟨rfl, q, rfl⟩
                have hq4 := HQ.out.grow (drewN_below wr q)
                have hap := append_any hq4.jn HOK.out hq4.hi (hby' _ (drewN_below wr q)) (by omega) HWW.out
                rw [HAP.out] at hap
                unfold AppendPost at hap
                try simp only at hap
                have HQ4 := Lib.hid hq4
                clear hrm hq4)
             | ((with_reducible refine hrm2.mono ?_); rintro e w6 ⟨rfl, q2, rfl⟩))
          | (go_at_call 54; (with_reducible refine (hnd _).mono ?_); rintro e w5 ⟨rfl, rfl⟩)
          | (go_at_call 78; (with_reducible refine hap.mono ?_); rintro e w7 ⟨rfl, hj7, hk7⟩
             have hq7 := HQ4.out.put hj7 hk7
             have hrm2 := jroom_any hq7.jn HOK2.out
             try simp only at hrm2
             rw [HN2.out] at hrm2
             have HQ7 := Lib.hid hq7
             clear hap hj7 hk7 hq7))
          go_roundg (ls.length - (k + 1))
          case measure => have := HG.out; omega
          case rel => exact ⟨k + 1, j, rfl, by omega, by simp, HQ7.out.grow (drewN_below _ q2), HON.out, HN.out, HJD.out, HOK.out, by omega, by omega⟩
        · have HAP := Lib.hid g3
          have hnp : 3 ≤ needI (b.length : Int) := by unfold needI; rw [if_neg (by omega)]; omega
          have hnd := fun W => rneed_any (b.length : Int) W
          have HOK2 := HOK
          have HN2 := HN
          generalize needI (b.length : Int) = nd at *
          have f1 : (nd == 0) = false := by rw [beq_eq_false_iff_ne]; omega
          have f2 : decide ((N : Int) - (j.tail : Int) < nd) = true := decide_eq_true g2
          clear g3 hao
          go_wp2_with (first
          | (go_at_call 77; first
             | ((with_reducible refine hrm.mono ?_); rintro e w4 ⟨rfl, q, rfl⟩
                have hq4 := HQ.out.grow (drewN_below wr q)
                have hap := append_any hq4.jn HOK.out hq4.hi (hby' _ (drewN_below wr q)) (by omega) HWW.out
                rw [HAP.out] at hap
                unfold AppendPost at hap
                try simp only at hap
                have HQ4 := Lib.hid hq4
                clear hrm hq4)
             | ((with_reducible refine hrm2.mono ?_); rintro e w6 ⟨rfl, q2, rfl⟩))
          | (go_at_call 54; (with_reducible refine (hnd _).mono ?_); rintro e w5 ⟨rfl, rfl⟩)
          | (go_at_call 78; (with_reducible refine hap.mono ?_); rintro e w7 ⟨rfl, hj7, hk7⟩
             have hq7 := HQ4.out.put hj7 hk7
             have hrm2 := jroom_any hq7.jn HOK2.out
             try simp only at hrm2
             rw [HN2.out] at hrm2
             have HQ7 := Lib.hid hq7
             clear hap hj7 hk7 hq7))
          go_roundg (ls.length - (k + 1))
          case measure => have := HG.out; omega
          case rel => exact ⟨k + 1, j, rfl, by omega, by simp, HQ7.out.grow (drewN_below _ q2), HON.out, HN.out, HJD.out, HOK.out, by omega, by omega⟩
        · obtain ⟨d', ha1, ha2, ha3, ha4⟩ := hao g1 g2
          have HAP := Lib.hid ha1
          have hnp : 3 ≤ needI (b.length : Int) := by unfold needI; rw [if_neg (by omega)]; omega
          have HON2 := Lib.hid ha2
          have hnd := fun W => rneed_any (b.length : Int) W
          have hnd' : ((needI (b.length : Int)).toNat : Int) = needI (b.length : Int) := by omega
          have HOK2 := Lib.hid (show Jv.ok ⟨d', j.many + 1, j.tail + (needI (b.length : Int)).toNat, false⟩ from ⟨by simp only; omega, by simp only; omega⟩)
          have HN2 := Lib.hid (show d'.n = N by omega)
          have HW2 := Lib.hid ha4
          generalize needI (b.length : Int) = nd at *
          obtain ⟨m, rfl⟩ : ∃ m : Nat, nd = (m : Int) := ⟨nd.toNat, by omega⟩
          rw [Int.toNat_natCast] at HAP HOK2
          have f1 : ((m : Int) == 0) = false := by rw [beq_eq_false_iff_ne]; omega
          have f2 : decide ((N : Int) - (j.tail : Int) < (m : Int)) = false := decide_eq_false (by omega)
          have f3 : IntKind.i64.wrap ((N : Int) - (j.tail : Int) - (m : Int)) = (N : Int) - (j.tail : Int) - (m : Int) := by rw [IntKind.wrap_i64]; omega
          clear ha1 ha2 ha3 ha4 hao hnd'
          go_wp2_with (first
          | (go_at_call 77; first
             | ((with_reducible refine hrm.mono ?_); rintro e w4 ⟨rfl, q, rfl⟩
                have hq4 := HQ.out.grow (drewN_below wr q)
                have hap := append_any hq4.jn HOK.out hq4.hi (hby' _ (drewN_below wr q)) (by omega) HWW.out
                rw [HAP.out] at hap
                unfold AppendPost at hap
                try simp only at hap
                have HQ4 := Lib.hid hq4
                clear hrm hq4)
             | ((with_reducible refine hrm2.mono ?_); rintro e w6 ⟨rfl, q2, rfl⟩))
          | (go_at_call 54; (with_reducible refine (hnd _).mono ?_); rintro e w5 ⟨rfl, rfl⟩)
          | (go_at_call 78; (with_reducible refine hap.mono ?_); rintro e w7 ⟨rfl, hj7, hk7⟩
             have hq7 := HQ4.out.put hj7 hk7
             have hrm2 := jroom_any hq7.jn HOK2.out
             try simp only at hrm2
             rw [HN2.out, show (N : Int) - ((j.tail + m : Nat) : Int) = (N : Int) - (j.tail : Int) - (m : Int) by omega] at hrm2
             have HQ7 := Lib.hid hq7
             clear hap hj7 hk7 hq7))
          go_roundg (ls.length - (k + 1))
          case measure => have := HG.out; omega
          case rel => exact ⟨k + 1, _, rfl, by omega, by simp, HQ7.out.grow (drewN_below _ q2), HON2.out, HN2.out, rfl, HOK2.out, by simp only; omega, by simp only; have := HW2.out; omega⟩
        · exact absurd HON.out.fuse g4
      · obtain rfl : k = ls.length := by omega
        have f3 : IntKind.i64.wrap ((N : Int) - (j.tail : Int) + (j.tail : Int)) = (N : Int) := by rw [IntKind.wrap_i64]; omega
        go_wp2_with (first
          | (go_at_call 77; (with_reducible refine hrm.mono ?_); rintro e w4 ⟨rfl, q, rfl⟩
             have hq4 := HQ.out.grow (drewN_below wr q)
             have htl := jtail_any hq4.jn
             have HB4 := Lib.hid hq4.below
             clear hrm hq4)
          | (go_at_call 79; (with_reducible refine htl.mono ?_); rintro e w5 ⟨rfl, rfl⟩)
          | (go_at_call 75; (with_reducible refine (lives12_any _).mono ?_); rintro e w6 ⟨rfl, hb6⟩))
        go_ret
        exact ⟨rfl, HB4.out.trans (hb6.mono HB4.out.size)⟩
end Go.Proofs.Ytmcjefdnkcpghaa
