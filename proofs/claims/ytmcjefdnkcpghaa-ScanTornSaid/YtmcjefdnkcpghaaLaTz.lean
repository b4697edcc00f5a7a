/- THE WALK OF ScanTorn. -/
import Derived.Test.YtmcjefdnkcpghaaZp
namespace Go.Proofs.Ytmcjefdnkcpghaa
open Go.RowKit
set_option maxRecDepth 100000 in
set_option maxHeartbeats 16000000 in
theorem storn_any {w : World} (many : Int) (_hmany : -9223372036854775808 ≤ many ∧ many ≤ 9223372036854775807) (v : Value) (ls : List Ptv) (hs : Parts w w.heap.size v ls) (bv : Value) (b : List UInt8) (hby : Byt w w.heap.size bv b)
    (pages : Int) (_hpages : -9223372036854775808 ≤ pages ∧ pages ≤ 9223372036854775807) (torn : Int) (_htorn : -9223372036854775808 ≤ torn ∧ torn ≤ 9223372036854775807) :
    Calls Try.prog 17 #[.int .i64 many, v, bv, .int .i64 pages, .int .i64 torn] w (LawPost11 w) := by
  have hli := light_any hs (Nat.le_refl _) many
  obtain ⟨A, c, hv, _, _⟩ := hs.form
  subst hv
  obtain ⟨Ab, cb, hv, hcb, hmb, _⟩ := id hby
  subst hv
  unfold maxLen at hmb
  cases hl : lightB many ls with
  | false =>
    rw [hl] at hli
    clear hs hby hl
    go_enter Try.func17, Try.ntmps17
    go_wp2_with (first
      | (go_at_call 63; (with_reducible refine hli.mono ?_); rintro e w1 ⟨rfl, hb1⟩)
      | (go_at_call 64; (with_reducible refine (lives11_any _).mono ?_); rintro e w2 ⟨rfl, hb2⟩))
    go_ret
    exact ⟨rfl, hb1.trans (hb2.mono hb1.size)⟩
  | true =>
    by_cases g0 : b.length < 1
    · have e0 : decide ((b.length : Int) < 1) = true := decide_eq_true (by omega)
      rw [hl] at hli
      clear hs hby hl
      go_enter Try.func17, Try.ntmps17
      go_wp2_with (first
        | (go_at_call 63; (with_reducible refine hli.mono ?_); rintro e w1 ⟨rfl, hb1⟩)
        | (go_at_call 64; (with_reducible refine (lives11_any _).mono ?_); rintro e w2 ⟨rfl, hb2⟩))
      go_ret
      exact ⟨rfl, hb1.trans (hb2.mono hb1.size)⟩
    have e0 : decide ((b.length : Int) < 1) = false := decide_eq_false (by omega)
    by_cases g1 : 500 < b.length
    · have e1 : decide ((500 : Int) < (b.length : Int)) = true := decide_eq_true (by omega)
      rw [hl] at hli
      clear hs hby hl
      go_enter Try.func17, Try.ntmps17
      go_wp2_with (first
        | (go_at_call 63; (with_reducible refine hli.mono ?_); rintro e w1 ⟨rfl, hb1⟩)
        | (go_at_call 64; (with_reducible refine (lives11_any _).mono ?_); rintro e w2 ⟨rfl, hb2⟩))
      go_ret
      exact ⟨rfl, hb1.trans (hb2.mono hb1.size)⟩
    have e1 : decide ((500 : Int) < (b.length : Int)) = false := decide_eq_false (by omega)
    by_cases g2 : pages < 0
    · have e2 : decide (pages < 0) = true := decide_eq_true (by omega)
      rw [hl] at hli
      clear hs hby hl
      go_enter Try.func17, Try.ntmps17
      go_wp2_with (first
        | (go_at_call 63; (with_reducible refine hli.mono ?_); rintro e w1 ⟨rfl, hb1⟩)
        | (go_at_call 64; (with_reducible refine (lives11_any _).mono ?_); rintro e w2 ⟨rfl, hb2⟩))
      go_ret
      exact ⟨rfl, hb1.trans (hb2.mono hb1.size)⟩
    have e2 : decide (pages < 0) = false := decide_eq_false (by omega)
    by_cases g3 : torn < 0
    · have e3 : decide (torn < 0) = true := decide_eq_true (by omega)
      rw [hl] at hli
      clear hs hby hl
      go_enter Try.func17, Try.ntmps17
      go_wp2_with (first
        | (go_at_call 63; (with_reducible refine hli.mono ?_); rintro e w1 ⟨rfl, hb1⟩)
        | (go_at_call 64; (with_reducible refine (lives11_any _).mono ?_); rintro e w2 ⟨rfl, hb2⟩))
      go_ret
      exact ⟨rfl, hb1.trans (hb2.mono hb1.size)⟩
    have e3 : decide (torn < 0) = false := decide_eq_false (by omega)
    by_cases g4 : 64 < torn
    · have e4 : decide (64 < torn) = true := decide_eq_true (by omega)
      rw [hl] at hli
      clear hs hby hl
      go_enter Try.func17, Try.ntmps17
      go_wp2_with (first
        | (go_at_call 63; (with_reducible refine hli.mono ?_); rintro e w1 ⟨rfl, hb1⟩)
        | (go_at_call 64; (with_reducible refine (lives11_any _).mono ?_); rintro e w2 ⟨rfl, hb2⟩))
      go_ret
      exact ⟨rfl, hb1.trans (hb2.mono hb1.size)⟩
    have e4 : decide (64 < torn) = false := decide_eq_false (by omega)
    obtain ⟨hm1, hm2, hl20, hlb⟩ := lightB_yes hl
    obtain ⟨N, rfl⟩ : ∃ N : Nat, many = (N : Int) := ⟨many.toNat, by omega⟩
    obtain ⟨k, rfl⟩ : ∃ k : Nat, pages = (k : Int) := ⟨pages.toNat, by omega⟩
    obtain ⟨tr, rfl⟩ : ∃ tr : Nat, torn = (tr : Int) := ⟨torn.toNat, by omega⟩
    have htr : tr ≤ 64 := by omega
    have hk63 : k ≤ 9223372036854775807 := by omega
    rw [hl] at hli
    have hpa := partsP_all ls
    have hpl : (partsP ls).length ≤ 100000 := by
      have := partsP_len ls hlb ls.length (Nat.le_refl _)
      rw [List.take_length] at this
      omega
    have hpg := fun (W : World) (hW : Below w.heap.size w W) => ppages_any (hs.below hW) hW.size hl20 hlb
    have HPG := Lib.hid hpg
    have HPA := Lib.hid hpa
    have HPL := Lib.hid hpl
    have HBY := Lib.hid hby
    clear hs hl hlb hpa hpl hpg hby g2 g3 g4
    go_enter Try.func17, Try.ntmps17
    go_wp2_with (first
      | (go_at_call 63; (with_reducible refine hli.mono ?_); rintro e w1 ⟨rfl, hb1⟩)
      | (go_at_call 66; (with_reducible refine (HPG.out _ hb1).mono ?_); rintro e w2 ⟨v2, rfl, ho2, hb2⟩
         have hla := laid_any ho2.byts (Nat.le_refl _) HPA.out HPL.out N (by omega) (by omega)
         have HB2 := Lib.hid (hb1.trans (hb2.mono hb1.size))
         clear ho2 hb2)
      | (go_at_call 65; (with_reducible refine hla.mono ?_); rintro e w3 ⟨g, v3, d, Z, rfl, hd3, hz3, hk3, hr3, hl3, hb3⟩
         obtain ⟨A3, c3, After3, Torn3, rfl⟩ := hr3.form
         have hal : Below w3.heap.size w3 (w3.alloc (.cells #[.slice A3 d.n c3, .int .i64 After3, .int .i64 Torn3, .bool d.dead, .int .i64 (d.writes : Int)] 55)) := (Below.refl _ _).alloc (Nat.le_refl _) _
         have hq3 : Dq w g d Z (w3.alloc (.cells #[.slice A3 d.n c3, .int .i64 After3, .int .i64 Torn3, .bool d.dead, .int .i64 (d.writes : Int)] 55)) := (show Dq w g d Z w3 from ⟨hd3, fun b hb => Nat.le_trans HB2.out.size (hz3 b hb), fun b hb => (hk3 b hb).lt, HB2.out.trans (hb3.mono HB2.out.size)⟩).grow hal
         have hfi := sfind_any hq3.dk hl3.dead
         have hwr3 := hl3.writes
         obtain ⟨al, t, hF⟩ : ∃ al t, findW (page d.L) d.n 0 [] = (al, t) := ⟨_, _, rfl⟩
         have hwp := wipes_plain ⟨hl3.ok, hl3.fuse, hl3.dead⟩ (by omega) hF
         rw [hF] at hfi
         unfold SFindPost at hfi
         simp only at hfi
         obtain ⟨htn, hal100, d1, m1, hW1, _, _, hon1, hn1, hww1, hf1, _, _, hz1⟩ := hwp
         have hdn := hl3.n
         have htN : t ≤ N := (by omega)
         have HW1 := Lib.hid hW1
         have HON1 := Lib.hid hon1
         have HWW := Lib.hid hww1
         have HF1 := Lib.hid hf1
         have HZ1 := Lib.hid hz1
         have HN1 := Lib.hid (show d1.n = N by omega)
         have HWR := Lib.hid (show d.writes + 5000 ≤ 1000000000 by omega)
         have HQ3 := Lib.hid hq3
         have e10 : decide (N < t) = false := decide_eq_false (by omega)
         clear hd3 hz3 hk3 hr3 hl3 hb3 hal hq3 hla hF hwr3 hW1 hon1 hn1 hww1 hf1 hz1 htn hdn)
      | (go_at_call 67; (with_reducible refine hfi.mono ?_); rintro e w4 ⟨v4, rfl, ho4, hb4⟩
         have hq4 := HQ3.out.grow hb4
         have HO4 := Lib.hid (ho4.lt.mono (D' := fun b => ¬ Z b) (fun b hb hz => by have := HQ3.out.hi b hz; have := hb.1; omega))
         have hwi := swipe_any hq4.dk hq4.hi (t : Int) HWR.out
         rw [HW1.out] at hwi
         unfold WipePost at hwi
         have HQ4 := Lib.hid hq4
         clear hfi ho4 hb4 hq4)
      | (go_at_call 68; (with_reducible refine hwi.mono ?_); rintro e w5 ⟨rfl, hd5, hk5⟩
         have hq5 := HQ4.out.wrote hd5 hk5
         have HO5 := Lib.hid (HO4.out.kept hk5 (fun _ h => h))
         obtain ⟨A4, n4, c4, hv4, hn4⟩ := HO5.out.form
         subst hv4 hn4
         have hrp := rpages_any ((al.length + 1 : Nat) : Int) _ b w.heap.size (HBY.out.below hq5.below) (by omega)
         unfold PagesPost pagesR at hrp
         have hrb : rightB ((al.length + 1 : Nat) : Int) (b.length : Int) = true := decide_eq_true (by omega)
         rw [if_pos hrb] at hrp
         simp only [Int.toNat_natCast] at hrp
         have HRB := Lib.hid hrb
         have HQ5 := Lib.hid hq5
         have i1 : IntKind.i64.wrap ((al.length : Int) + 1) = (al.length : Int) + 1 := (by rw [IntKind.wrap_i64]; omega)
         rw [show ((al.length + 1 : Nat) : Int) = (al.length : Int) + 1 by omega] at hrp
         clear hwi hd5 hk5 hq5 hrb))
    refine hrp.mono ?_
    rintro e w6 ⟨v6, rfl, ho6, hb6⟩
    have hq6 := HQ5.out.grow hb6
    obtain ⟨A6, c6, hv6, hc6, hm6, hA6⟩ := ho6.rowV.form
    subst hv6
    have HO46 := Lib.hid (HO5.out.below hb6)
    have HO6 := Lib.hid (ho6.lt.mono (D' := fun b => ¬ Z b) (fun b hb hz => by have := HQ5.out.hi b hz; have := hb.1; omega))
    have HQ6 := Lib.hid hq6
    have hpl2 : 2 ≤ (pagesL (al.length + 1) b).length := by unfold pagesL; simp
    obtain ⟨ad6, rfl⟩ := hA6 (by omega)
    have hp64 := pagesL_all (al.length + 1) b
    have HP64 := Lib.hid hp64
    clear hrp ho6 hb6 hq6 hp64 hA6
    have i2 : IntKind.i64.wrap ((N : Int) - (t : Int)) = (N : Int) - (t : Int) := by rw [IntKind.wrap_i64]; omega
    generalize hP : pagesL (al.length + 1) b = P at *
    have HPE := Lib.hid hP
    clear hP
    by_cases h5 : N - t < P.length
    · have e5 : decide ((N : Int) - (t : Int) < (P.length : Int)) = true := decide_eq_true (by omega)
      go_wp2_with (go_at_call 64; (with_reducible refine (lives11_any _).mono ?_); rintro e w7 ⟨rfl, hb7⟩)
      go_ret
      exact ⟨rfl, HQ6.out.below.trans (hb7.mono HQ6.out.below.size)⟩
    have e5 : decide ((N : Int) - (t : Int) < (P.length : Int)) = false := decide_eq_false (by omega)
    by_cases h6 : P.length ≤ k
    · have e6 : decide (P.length ≤ k) = true := decide_eq_true h6
      go_wp2_with (go_at_call 64; (with_reducible refine (lives11_any _).mono ?_); rintro e w7 ⟨rfl, hb7⟩)
      go_ret
      exact ⟨rfl, HQ6.out.below.trans (hb7.mono HQ6.out.below.size)⟩
    have e6 : decide (P.length ≤ k) = false := decide_eq_false h6
    have i3 : (k : Int) ≤ (c6 : Int) := by omega
    have i4 : (0 : Int) ≤ (k : Int) := by omega
    go_wp2
    have hhk : k < P.length := by omega
    go_loopg [21, 22, 115] k (fun gk x21 x22 x115 wr => ∃ (i : Nat) (d : Dv), gk = k - i ∧ i ≤ k ∧ x115 = .int .i64 (i : Int) ∧ Dq w g d Z wr ∧ Wrote d1 t P i d ∧ Kept (fun b => ¬ Z b) w6 wr)
    case atStart => exact ⟨0, d1, rfl, Nat.zero_le _, rfl, HQ6.out, Wrote.start HON1.out t P, Kept.refl _ _⟩
    case round =>
      obtain ⟨i, d, hgk, hik, rfl, hq, hwr, hkp⟩ := hrel
      have HG := Lib.hid hgk
      have HQ := Lib.hid hq
      have HWT := Lib.hid hwr
      have HKP := Lib.hid hkp
      have hdw := hwr.writes
      have hdn : d.n = N := hwr.n.trans HN1.out
      have hww := HWW.out
      have HDW := Lib.hid (show d.writes + 1 ≤ 1000000000 by have := HON1.out.ok.n2; have := HN1.out; omega)
      have HDN := Lib.hid hdn
      have hO6 := HO6.out.kept hkp (fun _ h => h)
      clear hgk hq hwr hkp hdw hdn hww
      by_cases h : i < k
      · obtain ⟨ad, u, hA, hadB, hcell, hbu⟩ := (show Byts wr wr.heap.size (.slice (some ad6) P.length c6) P from hO6.byts).atv i (by omega)
        cases hA
        obtain ⟨hr0, hst⟩ := HWT.out.step HDW.out (by have := HDN.out; omega) (show i < P.length by omega) (HP64.out _ (List.getElem_mem _))
        have hws := write_any HQ.out.dk ((t + i : Nat) : Int) hbu HDW.out
        rw [hr0] at hws
        rw [Int.natCast_add] at hws hst
        generalize (d.write ((t : Int) + (i : Int)) P[i]).1 = d' at *
        have i5 : IntKind.i64.wrap ((t : Int) + (i : Int)) = (t : Int) + (i : Int) := by rw [IntKind.wrap_i64]; omega
        have i6 : IntKind.i64.wrap ((i : Int) + 1) = (i : Int) + 1 := by rw [IntKind.wrap_i64]; omega
        have i7 : (0 : Int) ≤ (i : Int) := by omega
        have i8 : (i : Int) < (k : Int) := by omega
        have HST := Lib.hid hst
        clear hO6 hbu hr0 hst
        go_wp2_with (go_at_call 35; (with_reducible refine hws.mono ?_); rintro e w7 ⟨rfl, hd7, hk7⟩)
        go_roundg (k - (i + 1))
        case measure => have := HG.out; omega
        case rel => exact ⟨i + 1, d', rfl, by omega, by simp, HQ.out.wrote hd7 hk7, HST.out, HKP.out.trans hk7 (fun _ _ h => h)⟩
      · obtain rfl : i = k := by omega
        obtain ⟨hf, dw, hdw, hon3, hn3, hw3, hp3⟩ := torn_on HWT.out.on (t + i) (by have := HDN.out; omega) P[i] (HP64.out _ (List.getElem_mem _)) tr htr
        have hfu := fuse_any HQ.out.dk 0 (tr : Int) (by omega)
        rw [hf] at hfu
        unfold FusePost at hfu
        simp only at hfu
        rw [Int.natCast_add] at hdw
        have hww2 : ({ d with fuse := some (0, tr) } : Dv).writes + 1 ≤ 1000000000 := HDW.out
        have htp : findW (page dw.L) dw.n 0 [] = (al, t) ∨ (findW (page dw.L) dw.n 0 [] = (al ++ [b], t + P.length) ∧ i + 1 = P.length) := by
          have hP := HPE.out
          subst hP
          exact torn_plain (d3 := dw) HF1.out HZ1.out (by rw [HN1.out]; exact htN) HRB.out (by rw [HN1.out]; omega) HWT.out hhk hn3 hp3
        generalize ({ d with fuse := some (0, tr) } : Dv) = df at *
        have hO46 := HO46.out.kept HKP.out (fun _ h => h)
        have HO6' := Lib.hid hO6.lt
        have HO46' := Lib.hid hO46.lt
        have HDWW := Lib.hid hdw
        have HWW2 := Lib.hid hww2
        have HTP := Lib.hid htp
        have HON3 := Lib.hid hon3
        have i5 : IntKind.i64.wrap ((t : Int) + (i : Int)) = (t : Int) + (i : Int) := by rw [IntKind.wrap_i64]; omega
        have i7 : (0 : Int) ≤ (i : Int) := by omega
        have i8 : (i : Int) < (P.length : Int) := by omega
        clear hf hO6 hO46 hp3 hww2 h hdw hon3 htp hn3 hw3 HG
        go_wp2_with (first
          | (go_at_call 37; (with_reducible refine hfu.mono ?_); rintro e w8 ⟨rfl, hd8, hk8⟩
             have hq8 := HQ.out.fused hd8 hk8
             have hs8 := hk8.size
             have HO68 := Lib.hid ((HO6'.out.kept hk8 (fun b hb => hb.1)).mono (D' := fun b => ¬ (Z b ∨ (wr.heap.size ≤ b ∧ b < w8.heap.size))) (fun b hb hz => hz.elim hb.1 (fun h => by have := hb.2; omega)))
             have HO48 := Lib.hid ((HO46'.out.kept hk8 (fun b hb => hb.1)).mono (D' := fun b => ¬ (Z b ∨ (wr.heap.size ≤ b ∧ b < w8.heap.size))) (fun b hb hz => hz.elim hb.1 (fun h => by have := hb.2; omega)))
             have HQ8 := Lib.hid hq8
             obtain ⟨ad8, u8, hA8, hadB8, hcell8, hbu8⟩ := (show Byts w8 w8.heap.size (.slice (some ad6) P.length c6) P from HO68.out.byts).atv i (by omega)
             cases hA8
             have hws := write_any HQ8.out.dk ((t : Int) + (i : Int)) hbu8 HWW2.out
             rw [HDWW.out] at hws
             clear hfu hd8 hk8 hq8 hbu8)
          | (go_at_call 35; (with_reducible refine hws.mono ?_); rintro e w9 ⟨rfl, hd9, hk9⟩
             have hq9 := HQ8.out.wrote hd9 hk9
             have HO69 := Lib.hid (HO68.out.kept hk9 (fun _ h => h))
             have HO49 := Lib.hid (HO48.out.kept hk9 (fun _ h => h))
             have hpo := power_any hq9.dk
             have HQ9 := Lib.hid hq9
             clear hws hd9 hk9 hq9 hcell8)
          | (go_at_call 45; (with_reducible refine hpo.mono ?_); rintro e w10 ⟨rfl, hd10, hk10⟩
             have hq10 := HQ9.out.wrote hd10 hk10
             have HO60 := Lib.hid (HO69.out.kept hk10 (fun _ h => h))
             have HO40 := Lib.hid (HO49.out.kept hk10 (fun _ h => h))
             have hfi := sfind_any hq10.dk rfl
             have HQ10 := Lib.hid hq10
             clear hpo hd10 hk10 hq10)
          | fail)
        unfold SFindPost at hfi
        rcases HTP.out with hA | ⟨hB, hk1⟩
        · rw [hA] at hfi
          clear hA
          refine hfi.mono ?_
          rintro e w11 ⟨v11, rfl, ho11, hb11⟩
          obtain ⟨A11, n11, c11, hv11, hn11⟩ := ho11.form
          subst hv11 hn11
          have hq11 := HQ10.out.grow hb11
          have hsa := lsame11_any ho11.byts (HO40.out.below hb11).byts hal100
          rw [decide_eq_true rfl] at hsa
          have HQ11 := Lib.hid hq11
          clear hfi ho11 hb11 hq11
          go_wp2_with (first
            | (go_at_call 70; (with_reducible refine hsa.mono ?_); rintro e w12 ⟨rfl, hb12⟩
               have HQ12 := Lib.hid (HQ11.out.grow hb12)
               clear hb12)
            | (go_at_call 64; (with_reducible refine (lives11_any _).mono ?_); rintro e w13 ⟨rfl, hb13⟩))
          go_ret
          exact ⟨rfl, HQ12.out.below.trans (hb13.mono HQ12.out.below.size)⟩
        · rw [hB] at hfi
          clear hB
          refine hfi.mono ?_
          rintro e w11 ⟨v11, rfl, ho11, hb11⟩
          obtain ⟨A11, n11, c11, hv11, hn11⟩ := ho11.form
          subst hv11 hn11
          have hq11 := HQ10.out.grow hb11
          have HQ11 := Lib.hid hq11
          have HO411 := Lib.hid (HO40.out.below hb11)
          have hb11f := ho11.rowV.form
          rw [List.length_append, List.length_singleton] at hb11f
          obtain ⟨A', c', hv', hc11, hm11, hA11⟩ := hb11f
          cases hv'
          obtain ⟨ad11, rfl⟩ := hA11 (by omega)
          have HO11 := Lib.hid ho11
          simp only [List.length_append, List.length_singleton, Int.natCast_add]
          have f1 : ((al.length : Int) + 1 == (al.length : Int)) = false := by rw [beq_eq_false_iff_ne]; omega
          have hfx := fun (W : World) (hW : Below w11.heap.size w11 W) => (show Byts W w11.heap.size (.slice (some ad11) al.length c11) al ∧ Byts W w11.heap.size (.slice A4 al.length c4) al ∧ Byts W w11.heap.size (.slice (some ad11) (al.length + 1) c11) (al ++ [b]) ∧ Byt W w.heap.size (.slice Ab b.length cb) b ∧ Below w.heap.size w W from by
            have hby := ho11.byts
            rw [List.length_append, List.length_singleton] at hby
            have hb := HQ11.out.below.trans (hW.mono HQ11.out.below.size)
            have hmid := Byts.mid (ls := al ++ [b]) 0 al.length (show Byts w11 w11.heap.size (.slice (some ad11) (al ++ [b]).length c11) (al ++ [b]) by rw [List.length_append, List.length_singleton]; exact hby) (Nat.zero_le _) (by rw [List.length_append]; omega)
            rw [List.drop_zero, Nat.sub_zero, Nat.sub_zero, List.take_left' rfl, show ad11.add 0 = ad11 by simp [Addr.add]] at hmid
            exact ⟨hmid.below hW, HO411.out.byts.below hW, hby.below hW, HBY.out.below hb, hb⟩)
          obtain ⟨ad', u11, hA', hadB, hcell, hbu⟩ := (show Byts w11 w11.heap.size (.slice (some ad11) (al ++ [b]).length c11) (al ++ [b]) by rw [List.length_append, List.length_singleton]; exact (hfx w11 (Below.refl _ _)).2.2.1).atv al.length (by rw [List.length_append, List.length_singleton]; omega)
          cases hA'
          rw [show (al ++ [b])[al.length]'(by rw [List.length_append, List.length_singleton]; omega) = b by simp] at hbu
          have hsb : ∃ sb, sb = bsA b := ⟨_, rfl⟩
          obtain ⟨sb, hsb⟩ := hsb
          have hfx2 := fun (W : World) (hW : Below w11.heap.size w11 W) => (show (W.cell? (ad11.add al.length) = some u11) ∧ (convert 23 9 u11).run Try.prog W = .ok (.string sb) W ∧ (convert 23 9 (.slice Ab b.length cb)).run Try.prog W = .ok (.string sb) W ∧ True ∧ Below w.heap.size w W from by
            subst hsb
            exact ⟨(hW.cell (p := ad11.add al.length) (by rw [addr_add_block]; exact hadB)).trans hcell, (hbu.below hW).strA, (hfx W hW).2.2.2.1.strA, trivial, (hfx W hW).2.2.2.2⟩)
          have hsa := fun (W : World) (hW : Below w11.heap.size w11 W) => (show Calls Try.prog 70 #[.slice (some ad11) al.length c11, .slice A4 al.length c4] W fun e w' => e = .returned (.bool true) ∧ Below W.heap.size W w' from by
            have := lsame11_any (hfx W hW).1 (hfx W hW).2.1 hal100
            rw [decide_eq_true rfl] at this
            exact this)
          have HFX := Lib.hid hfx2
          have HSA := Lib.hid hsa
          have j1 : IntKind.i64.wrap ((P.length : Int) - 1) = (i : Int) := by rw [IntKind.wrap_i64]; omega
          have j2 : IntKind.i64.wrap ((t : Int) + (P.length : Int)) = (t : Int) + (P.length : Int) := by rw [IntKind.wrap_i64]; omega
          have j3 : (al.length : Int) ≤ (c11 : Int) := by omega
          have j4 : (0 : Int) ≤ (al.length : Int) := by omega
          have j5 : (al.length : Int) < (al.length : Int) + 1 := by omega
          clear hfi ho11 hb11 hq11 hfx hfx2 hsa hcell hbu hsb
          go_wp2
          -- region 27
          refine wp_region_sp (by kernel_rfl) [isS (.slice (some ad11) (al.length + 1) c11), isS (.int .i64 ((al.length : Int) + 1)), isS (.slice A4 al.length c4), isS (.int .i64 (al.length : Int)), isS (.int .i64 ((al.length : Int) + 1)), isS (.bool true), isS (.bool true), isS (.slice (some ad11) (al.length + 1) c11), isS (.slice A4 al.length c4), isS (.int .i64 (al.length : Int)), isS (.slice (some ad11) al.length c11), isS (.slice A4 al.length c4), isS (.bool true), isS (.bool true), isS (.bool true), isS (.slice (some ad11) (al.length + 1) c11), isS (.slice A4 al.length c4), isS (.int .i64 (al.length : Int)), isS (.pointer (some (ad11.add al.length))), isS u11, isS (.string sb), isS (.slice Ab b.length cb), isS (.string sb), isS (.bool true), isS (.bool true), isS (.bool true), isS (.int .i64 (i : Int)), isS (.slice (some ad6) P.length c6), isS (.int .i64 (P.length : Int)), isS (.int .i64 (i : Int)), isS (.bool true), isS (.bool true), isS (.bool true), isS (.int .i64 ((t : Int) + (P.length : Int))), isS (.int .i64 (t : Int)), isS (.slice (some ad6) P.length c6), isS (.int .i64 (P.length : Int)), isS (.int .i64 ((t : Int) + (P.length : Int))), isS (.bool true), isS (.bool true), isS (.bool true), isS (.bool true), isS (.bool true), isS (.bool true)] (by kernel_rfl) (by kernel_rfl) (fun q hq => ?_) (fun a' w12 hc hs => ?_)
          · match q, hq with
            | 0, _ =>
              intro a W hc hd
              have z23 := hc.same 23 (by kernel_rfl)
              simp only [List.getElem?_toArray, List.getElem?_cons_succ, List.getElem?_cons_zero, Option.getD_some] at z23
              refine obl_val rfl (wanted_none rfl) ?_ rfl
              go_simp
            | 1, _ =>
              intro a W hc hd
              have s0 : a.tmps[170]?.getD undef = (.slice (some ad11) (al.length + 1) c11) := hd 0 (by kernel_rfl)
              refine obl_val rfl (wanted_none rfl) ?_ rfl
              go_simp
            | 2, _ =>
              intro a W hc hd
              have z14 := hc.same 14 (by kernel_rfl)
              simp only [List.getElem?_toArray, List.getElem?_cons_succ, List.getElem?_cons_zero, Option.getD_some] at z14
              refine obl_val rfl (wanted_none rfl) ?_ rfl
              go_simp
            | 3, _ =>
              intro a W hc hd
              have s2 : a.tmps[172]?.getD undef = (.slice A4 al.length c4) := hd 2 (by kernel_rfl)
              refine obl_val rfl (wanted_none rfl) ?_ rfl
              go_simp
            | 4, _ =>
              intro a W hc hd
              have s3 : a.tmps[173]?.getD undef = (.int .i64 (al.length : Int)) := hd 3 (by kernel_rfl)
              refine obl_val rfl (wanted_none rfl) ?_ rfl
              go_simp
            | 5, _ =>
              intro a W hc hd
              have s1 : a.tmps[171]?.getD undef = (.int .i64 ((al.length : Int) + 1)) := hd 1 (by kernel_rfl)
              have s4 : a.tmps[174]?.getD undef = (.int .i64 ((al.length : Int) + 1)) := hd 4 (by kernel_rfl)
              refine obl_val rfl (wanted_none rfl) ?_ rfl
              go_simp
            | 6, _ =>
              intro a W hc hd
              have s5 : a.tmps[175]?.getD undef = (.bool true) := hd 5 (by kernel_rfl)
              refine obl_val rfl (wanted_none rfl) ?_ rfl
              go_simp
            | 7, _ =>
              intro a W hc hd
              have z23 := hc.same 23 (by kernel_rfl)
              have s6 : a.tmps[176]?.getD undef = (.bool true) := hd 6 (by kernel_rfl)
              simp only [List.getElem?_toArray, List.getElem?_cons_succ, List.getElem?_cons_zero, Option.getD_some] at z23
              refine obl_val rfl (wanted_some rfl rfl s6) ?_ rfl
              go_simp
            | 8, _ =>
              intro a W hc hd
              have z14 := hc.same 14 (by kernel_rfl)
              have s6 : a.tmps[176]?.getD undef = (.bool true) := hd 6 (by kernel_rfl)
              simp only [List.getElem?_toArray, List.getElem?_cons_succ, List.getElem?_cons_zero, Option.getD_some] at z14
              refine obl_val rfl (wanted_some rfl rfl s6) ?_ rfl
              go_simp
            | 9, _ =>
              intro a W hc hd
              have s8 : a.tmps[178]?.getD undef = (.slice A4 al.length c4) := hd 8 (by kernel_rfl)
              have s6 : a.tmps[176]?.getD undef = (.bool true) := hd 6 (by kernel_rfl)
              refine obl_val rfl (wanted_some rfl rfl s6) ?_ rfl
              go_simp
            | 10, _ =>
              intro a W hc hd
              have s7 : a.tmps[177]?.getD undef = (.slice (some ad11) (al.length + 1) c11) := hd 7 (by kernel_rfl)
              have s9 : a.tmps[179]?.getD undef = (.int .i64 (al.length : Int)) := hd 9 (by kernel_rfl)
              have s6 : a.tmps[176]?.getD undef = (.bool true) := hd 6 (by kernel_rfl)
              refine obl_val rfl (wanted_some rfl rfl s6) (v := .slice (some ad11) al.length c11) ?_ rfl
              go_simp
            | 11, _ =>
              intro a W hc hd
              have z14 := hc.same 14 (by kernel_rfl)
              have s6 : a.tmps[176]?.getD undef = (.bool true) := hd 6 (by kernel_rfl)
              simp only [List.getElem?_toArray, List.getElem?_cons_succ, List.getElem?_cons_zero, Option.getD_some] at z14
              refine obl_val rfl (wanted_some rfl rfl s6) ?_ rfl
              go_simp
            | 12, _ =>
              intro a W hc hd
              have s10 : a.tmps[180]?.getD undef = (.slice (some ad11) al.length c11) := hd 10 (by kernel_rfl)
              have s11 : a.tmps[181]?.getD undef = (.slice A4 al.length c4) := hd 11 (by kernel_rfl)
              have s6 : a.tmps[176]?.getD undef = (.bool true) := hd 6 (by kernel_rfl)
              refine obl_call rfl (wanted_some rfl rfl s6) (by go_simp) (HSA.out W ((Below.refl w11.heap.size w11).drew.trans hc.below)) ?_
              rintro e w8 ⟨rfl, hb8⟩
              exact ⟨_, rfl, rfl, hb8⟩
            | 13, _ =>
              intro a W hc hd
              have s6 : a.tmps[176]?.getD undef = (.bool true) := hd 6 (by kernel_rfl)
              have s12 : a.tmps[182]?.getD undef = (.bool true) := hd 12 (by kernel_rfl)
              refine obl_val rfl (wanted_none rfl) ?_ rfl
              go_simp
            | 14, _ =>
              intro a W hc hd
              have s13 : a.tmps[183]?.getD undef = (.bool true) := hd 13 (by kernel_rfl)
              refine obl_val rfl (wanted_none rfl) ?_ rfl
              go_simp
            | 15, _ =>
              intro a W hc hd
              have z23 := hc.same 23 (by kernel_rfl)
              have s14 : a.tmps[184]?.getD undef = (.bool true) := hd 14 (by kernel_rfl)
              simp only [List.getElem?_toArray, List.getElem?_cons_succ, List.getElem?_cons_zero, Option.getD_some] at z23
              refine obl_val rfl (wanted_some rfl rfl s14) ?_ rfl
              go_simp
            | 16, _ =>
              intro a W hc hd
              have z14 := hc.same 14 (by kernel_rfl)
              have s14 : a.tmps[184]?.getD undef = (.bool true) := hd 14 (by kernel_rfl)
              simp only [List.getElem?_toArray, List.getElem?_cons_succ, List.getElem?_cons_zero, Option.getD_some] at z14
              refine obl_val rfl (wanted_some rfl rfl s14) ?_ rfl
              go_simp
            | 17, _ =>
              intro a W hc hd
              have s16 : a.tmps[186]?.getD undef = (.slice A4 al.length c4) := hd 16 (by kernel_rfl)
              have s14 : a.tmps[184]?.getD undef = (.bool true) := hd 14 (by kernel_rfl)
              refine obl_val rfl (wanted_some rfl rfl s14) ?_ rfl
              go_simp
            | 18, _ =>
              intro a W hc hd
              have s15 : a.tmps[185]?.getD undef = (.slice (some ad11) (al.length + 1) c11) := hd 15 (by kernel_rfl)
              have s17 : a.tmps[187]?.getD undef = (.int .i64 (al.length : Int)) := hd 17 (by kernel_rfl)
              have s14 : a.tmps[184]?.getD undef = (.bool true) := hd 14 (by kernel_rfl)
              refine obl_val rfl (wanted_some rfl rfl s14) ?_ rfl
              go_simp
            | 19, _ =>
              intro a W hc hd
              have s18 : a.tmps[188]?.getD undef = (.pointer (some (ad11.add al.length))) := hd 18 (by kernel_rfl)
              have s14 : a.tmps[184]?.getD undef = (.bool true) := hd 14 (by kernel_rfl)
              obtain ⟨q1, q2, q3, q4, q5⟩ := HFX.out W ((Below.refl w11.heap.size w11).drew.trans hc.below)
              refine obl_val rfl (wanted_some rfl rfl s14) ?_ rfl
              go_simp
            | 20, _ =>
              intro a W hc hd
              have s19 : a.tmps[189]?.getD undef = u11 := hd 19 (by kernel_rfl)
              have s14 : a.tmps[184]?.getD undef = (.bool true) := hd 14 (by kernel_rfl)
              obtain ⟨q1, q2, q3, q4, q5⟩ := HFX.out W ((Below.refl w11.heap.size w11).drew.trans hc.below)
              refine obl_val rfl (wanted_some rfl rfl s14) ?_ rfl
              go_simp
            | 21, _ =>
              intro a W hc hd
              have z2 := hc.same 2 (by kernel_rfl)
              have s14 : a.tmps[184]?.getD undef = (.bool true) := hd 14 (by kernel_rfl)
              simp only [List.getElem?_toArray, List.getElem?_cons_succ, List.getElem?_cons_zero, Option.getD_some] at z2
              refine obl_val rfl (wanted_some rfl rfl s14) ?_ rfl
              go_simp
            | 22, _ =>
              intro a W hc hd
              have s21 : a.tmps[191]?.getD undef = (.slice Ab b.length cb) := hd 21 (by kernel_rfl)
              have s14 : a.tmps[184]?.getD undef = (.bool true) := hd 14 (by kernel_rfl)
              obtain ⟨q1, q2, q3, q4, q5⟩ := HFX.out W ((Below.refl w11.heap.size w11).drew.trans hc.below)
              refine obl_val rfl (wanted_some rfl rfl s14) ?_ rfl
              go_simp
            | 23, _ =>
              intro a W hc hd
              have s20 : a.tmps[190]?.getD undef = (.string sb) := hd 20 (by kernel_rfl)
              have s22 : a.tmps[192]?.getD undef = (.string sb) := hd 22 (by kernel_rfl)
              have s14 : a.tmps[184]?.getD undef = (.bool true) := hd 14 (by kernel_rfl)
              refine obl_val rfl (wanted_some rfl rfl s14) ?_ rfl
              go_simp
            | 24, _ =>
              intro a W hc hd
              have s14 : a.tmps[184]?.getD undef = (.bool true) := hd 14 (by kernel_rfl)
              have s23 : a.tmps[193]?.getD undef = (.bool true) := hd 23 (by kernel_rfl)
              refine obl_val rfl (wanted_none rfl) ?_ rfl
              go_simp
            | 25, _ =>
              intro a W hc hd
              have s24 : a.tmps[194]?.getD undef = (.bool true) := hd 24 (by kernel_rfl)
              refine obl_val rfl (wanted_none rfl) ?_ rfl
              go_simp
            | 26, _ =>
              intro a W hc hd
              have z3 := hc.same 3 (by kernel_rfl)
              have s25 : a.tmps[195]?.getD undef = (.bool true) := hd 25 (by kernel_rfl)
              simp only [List.getElem?_toArray, List.getElem?_cons_succ, List.getElem?_cons_zero, Option.getD_some] at z3
              refine obl_val rfl (wanted_some rfl rfl s25) ?_ rfl
              go_simp
            | 27, _ =>
              intro a W hc hd
              have z19 := hc.same 19 (by kernel_rfl)
              have s25 : a.tmps[195]?.getD undef = (.bool true) := hd 25 (by kernel_rfl)
              simp only [List.getElem?_toArray, List.getElem?_cons_succ, List.getElem?_cons_zero, Option.getD_some] at z19
              refine obl_val rfl (wanted_some rfl rfl s25) ?_ rfl
              go_simp
            | 28, _ =>
              intro a W hc hd
              have s27 : a.tmps[197]?.getD undef = (.slice (some ad6) P.length c6) := hd 27 (by kernel_rfl)
              have s25 : a.tmps[195]?.getD undef = (.bool true) := hd 25 (by kernel_rfl)
              refine obl_val rfl (wanted_some rfl rfl s25) ?_ rfl
              go_simp
            | 29, _ =>
              intro a W hc hd
              have s28 : a.tmps[198]?.getD undef = (.int .i64 (P.length : Int)) := hd 28 (by kernel_rfl)
              have s25 : a.tmps[195]?.getD undef = (.bool true) := hd 25 (by kernel_rfl)
              refine obl_val rfl (wanted_some rfl rfl s25) (v := .int .i64 (i : Int)) ?_ rfl
              go_simp
            | 30, _ =>
              intro a W hc hd
              have s26 : a.tmps[196]?.getD undef = (.int .i64 (i : Int)) := hd 26 (by kernel_rfl)
              have s29 : a.tmps[199]?.getD undef = (.int .i64 (i : Int)) := hd 29 (by kernel_rfl)
              have s25 : a.tmps[195]?.getD undef = (.bool true) := hd 25 (by kernel_rfl)
              refine obl_val rfl (wanted_some rfl rfl s25) ?_ rfl
              go_simp
            | 31, _ =>
              intro a W hc hd
              have s25 : a.tmps[195]?.getD undef = (.bool true) := hd 25 (by kernel_rfl)
              have s30 : a.tmps[200]?.getD undef = (.bool true) := hd 30 (by kernel_rfl)
              refine obl_val rfl (wanted_none rfl) ?_ rfl
              go_simp
            | 32, _ =>
              intro a W hc hd
              have s31 : a.tmps[201]?.getD undef = (.bool true) := hd 31 (by kernel_rfl)
              refine obl_val rfl (wanted_none rfl) ?_ rfl
              go_simp
            | 33, _ =>
              intro a W hc hd
              have z24 := hc.same 24 (by kernel_rfl)
              have s32 : a.tmps[202]?.getD undef = (.bool true) := hd 32 (by kernel_rfl)
              simp only [List.getElem?_toArray, List.getElem?_cons_succ, List.getElem?_cons_zero, Option.getD_some] at z24
              refine obl_val rfl (wanted_some rfl rfl s32) ?_ rfl
              go_simp
            | 34, _ =>
              intro a W hc hd
              have z15 := hc.same 15 (by kernel_rfl)
              have s32 : a.tmps[202]?.getD undef = (.bool true) := hd 32 (by kernel_rfl)
              simp only [List.getElem?_toArray, List.getElem?_cons_succ, List.getElem?_cons_zero, Option.getD_some] at z15
              refine obl_val rfl (wanted_some rfl rfl s32) ?_ rfl
              go_simp
            | 35, _ =>
              intro a W hc hd
              have z19 := hc.same 19 (by kernel_rfl)
              have s32 : a.tmps[202]?.getD undef = (.bool true) := hd 32 (by kernel_rfl)
              simp only [List.getElem?_toArray, List.getElem?_cons_succ, List.getElem?_cons_zero, Option.getD_some] at z19
              refine obl_val rfl (wanted_some rfl rfl s32) ?_ rfl
              go_simp
            | 36, _ =>
              intro a W hc hd
              have s35 : a.tmps[205]?.getD undef = (.slice (some ad6) P.length c6) := hd 35 (by kernel_rfl)
              have s32 : a.tmps[202]?.getD undef = (.bool true) := hd 32 (by kernel_rfl)
              refine obl_val rfl (wanted_some rfl rfl s32) ?_ rfl
              go_simp
            | 37, _ =>
              intro a W hc hd
              have s34 : a.tmps[204]?.getD undef = (.int .i64 (t : Int)) := hd 34 (by kernel_rfl)
              have s36 : a.tmps[206]?.getD undef = (.int .i64 (P.length : Int)) := hd 36 (by kernel_rfl)
              have s32 : a.tmps[202]?.getD undef = (.bool true) := hd 32 (by kernel_rfl)
              refine obl_val rfl (wanted_some rfl rfl s32) ?_ rfl
              go_simp
            | 38, _ =>
              intro a W hc hd
              have s33 : a.tmps[203]?.getD undef = (.int .i64 ((t : Int) + (P.length : Int))) := hd 33 (by kernel_rfl)
              have s37 : a.tmps[207]?.getD undef = (.int .i64 ((t : Int) + (P.length : Int))) := hd 37 (by kernel_rfl)
              have s32 : a.tmps[202]?.getD undef = (.bool true) := hd 32 (by kernel_rfl)
              refine obl_val rfl (wanted_some rfl rfl s32) ?_ rfl
              go_simp
            | 39, _ =>
              intro a W hc hd
              have s32 : a.tmps[202]?.getD undef = (.bool true) := hd 32 (by kernel_rfl)
              have s38 : a.tmps[208]?.getD undef = (.bool true) := hd 38 (by kernel_rfl)
              refine obl_val rfl (wanted_none rfl) ?_ rfl
              go_simp
            | 40, _ =>
              intro a W hc hd
              have s39 : a.tmps[209]?.getD undef = (.bool true) := hd 39 (by kernel_rfl)
              refine obl_val rfl (wanted_none rfl) ?_ rfl
              go_simp
            | 41, _ =>
              intro a W hc hd
              have s40 : a.tmps[210]?.getD undef = (.bool true) := hd 40 (by kernel_rfl)
              refine obl_call rfl (wanted_some rfl rfl s40) (by go_simp) (lives11_any W) ?_
              rintro e w8 ⟨rfl, hb8⟩
              exact ⟨_, rfl, rfl, hb8⟩
            | 42, _ =>
              intro a W hc hd
              have s40 : a.tmps[210]?.getD undef = (.bool true) := hd 40 (by kernel_rfl)
              have s41 : a.tmps[211]?.getD undef = (.bool true) := hd 41 (by kernel_rfl)
              refine obl_val rfl (wanted_none rfl) ?_ rfl
              go_simp
            | 43, _ =>
              intro a W hc hd
              have s42 : a.tmps[212]?.getD undef = (.bool true) := hd 42 (by kernel_rfl)
              refine obl_val rfl (wanted_none rfl) ?_ rfl
              go_simp
            | n + 44, h => exact absurd h (by simp)
          · skip
            have hfr := grow_frame hc [(170, (.slice (some ad11) (al.length + 1) c11)), (171, (.int .i64 ((al.length : Int) + 1))), (172, (.slice A4 al.length c4)), (173, (.int .i64 (al.length : Int))), (174, (.int .i64 ((al.length : Int) + 1))), (175, (.bool true)), (176, (.bool true)), (177, (.slice (some ad11) (al.length + 1) c11)), (178, (.slice A4 al.length c4)), (179, (.int .i64 (al.length : Int))), (180, (.slice (some ad11) al.length c11)), (181, (.slice A4 al.length c4)), (182, (.bool true)), (183, (.bool true)), (184, (.bool true)), (185, (.slice (some ad11) (al.length + 1) c11)), (186, (.slice A4 al.length c4)), (187, (.int .i64 (al.length : Int))), (188, (.pointer (some (ad11.add al.length)))), (189, u11), (190, (.string sb)), (191, (.slice Ab b.length cb)), (192, (.string sb)), (193, (.bool true)), (194, (.bool true)), (195, (.bool true)), (196, (.int .i64 (i : Int))), (197, (.slice (some ad6) P.length c6)), (198, (.int .i64 (P.length : Int))), (199, (.int .i64 (i : Int))), (200, (.bool true)), (201, (.bool true)), (202, (.bool true)), (203, (.int .i64 ((t : Int) + (P.length : Int)))), (204, (.int .i64 (t : Int))), (205, (.slice (some ad6) P.length c6)), (206, (.int .i64 (P.length : Int))), (207, (.int .i64 ((t : Int) + (P.length : Int)))), (208, (.bool true)), (209, (.bool true)), (210, (.bool true)), (211, (.bool true)), (212, (.bool true)), (10, (.bool true))] (by kernel_rfl) (fun p hp => by
                simp only [List.mem_cons, List.not_mem_nil, or_false] at hp
                rcases hp with rfl | rfl | rfl | rfl | rfl | rfl | rfl | rfl | rfl | rfl | rfl | rfl | rfl | rfl | rfl | rfl | rfl | rfl | rfl | rfl | rfl | rfl | rfl | rfl | rfl | rfl | rfl | rfl | rfl | rfl | rfl | rfl | rfl | rfl | rfl | rfl | rfl | rfl | rfl | rfl | rfl | rfl | rfl | rfl
                · exact hs 0 170 (by decide) (by kernel_rfl)
                · exact hs 1 171 (by decide) (by kernel_rfl)
                · exact hs 2 172 (by decide) (by kernel_rfl)
                · exact hs 3 173 (by decide) (by kernel_rfl)
                · exact hs 4 174 (by decide) (by kernel_rfl)
                · exact hs 5 175 (by decide) (by kernel_rfl)
                · exact hs 6 176 (by decide) (by kernel_rfl)
                · exact hs 7 177 (by decide) (by kernel_rfl)
                · exact hs 8 178 (by decide) (by kernel_rfl)
                · exact hs 9 179 (by decide) (by kernel_rfl)
                · exact hs 10 180 (by decide) (by kernel_rfl)
                · exact hs 11 181 (by decide) (by kernel_rfl)
                · exact hs 12 182 (by decide) (by kernel_rfl)
                · exact hs 13 183 (by decide) (by kernel_rfl)
                · exact hs 14 184 (by decide) (by kernel_rfl)
                · exact hs 15 185 (by decide) (by kernel_rfl)
                · exact hs 16 186 (by decide) (by kernel_rfl)
                · exact hs 17 187 (by decide) (by kernel_rfl)
                · exact hs 18 188 (by decide) (by kernel_rfl)
                · exact hs 19 189 (by decide) (by kernel_rfl)
                · exact hs 20 190 (by decide) (by kernel_rfl)
                · exact hs 21 191 (by decide) (by kernel_rfl)
                · exact hs 22 192 (by decide) (by kernel_rfl)
                · exact hs 23 193 (by decide) (by kernel_rfl)
                · exact hs 24 194 (by decide) (by kernel_rfl)
                · exact hs 25 195 (by decide) (by kernel_rfl)
                · exact hs 26 196 (by decide) (by kernel_rfl)
                · exact hs 27 197 (by decide) (by kernel_rfl)
                · exact hs 28 198 (by decide) (by kernel_rfl)
                · exact hs 29 199 (by decide) (by kernel_rfl)
                · exact hs 30 200 (by decide) (by kernel_rfl)
                · exact hs 31 201 (by decide) (by kernel_rfl)
                · exact hs 32 202 (by decide) (by kernel_rfl)
                · exact hs 33 203 (by decide) (by kernel_rfl)
                · exact hs 34 204 (by decide) (by kernel_rfl)
                · exact hs 35 205 (by decide) (by kernel_rfl)
                · exact hs 36 206 (by decide) (by kernel_rfl)
                · exact hs 37 207 (by decide) (by kernel_rfl)
                · exact hs 38 208 (by decide) (by kernel_rfl)
                · exact hs 39 209 (by decide) (by kernel_rfl)
                · exact hs 40 210 (by decide) (by kernel_rfl)
                · exact hs 41 211 (by decide) (by kernel_rfl)
                · exact hs 42 212 (by decide) (by kernel_rfl)
                · exact hs 43 10 (by decide) (by kernel_rfl)
                )
            simp only [List.range, List.range.loop, List.size_toArray, List.length_cons, List.length_nil, List.map_cons, List.map_nil, List.lookup_cons, List.lookup_nil, Nat.reduceAdd, Nat.reduceBEq, Option.getD_some, Option.getD_none, List.getElem?_toArray, List.getElem?_cons_succ, List.getElem?_cons_zero] at hfr
            subst hfr
          -- end 27
            go_wp2
            go_ret
            exact ⟨rfl, (HFX.out w12 ((Below.refl w11.heap.size w11).drew.trans hc.below)).2.2.2.2⟩
end Go.Proofs.Ytmcjefdnkcpghaa
