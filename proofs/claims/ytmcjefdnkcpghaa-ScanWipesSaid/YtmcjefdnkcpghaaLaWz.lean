/- THE WALK OF ScanWipes. -/
import Derived.Test.YtmcjefdnkcpghaaZp
namespace Go.Proofs.Ytmcjefdnkcpghaa
open Go.RowKit
set_option maxRecDepth 100000 in
set_option maxHeartbeats 8000000 in
theorem wipes_any {w : World} (many : Int) (_hmany : -9223372036854775808 ≤ many ∧ many ≤ 9223372036854775807) (v : Value) (ls : List Ptv) (hs : Parts w w.heap.size v ls) :
    Calls Try.prog 14 #[.int .i64 many, v] w (LawPost11 w) := by
  have hli := light_any hs (Nat.le_refl _) many
  obtain ⟨A, c, hv, _, _⟩ := hs.form
  subst hv
  cases hl : lightB many ls with
  | false =>
    rw [hl] at hli
    clear hs hl
    go_enter Try.func14, Try.ntmps14
    go_wp2_with (first
      | (go_at_call 63; (with_reducible refine hli.mono ?_); rintro e w1 ⟨rfl, hb1⟩)
      | (go_at_call 64; (with_reducible refine (lives11_any _).mono ?_); rintro e w2 ⟨rfl, hb2⟩))
    go_ret
    exact ⟨rfl, hb1.trans (hb2.mono hb1.size)⟩
  | true =>
    obtain ⟨hm1, hm2, hl20, hlb⟩ := lightB_yes hl
    obtain ⟨N, rfl⟩ : ∃ N : Nat, many = (N : Int) := ⟨many.toNat, by omega⟩
    rw [hl] at hli
    have hpa := partsP_all ls
    have hpl : (partsP ls).length ≤ 100000 := by
      have := partsP_len ls hlb ls.length (Nat.le_refl _)
      rw [List.take_length] at this
      omega
    have hpg := fun (W : World) (hW : Below w.heap.size w W) => ppages_any (hs.below hW) hW.size hl20 hlb
    have HPG := Lib.hid hpg
    have HPA := Lib.hid hpa
    have HPL := Lib.hid hpl
    clear hs hl hlb hpa hpl hpg
    go_enter Try.func14, Try.ntmps14
    go_wp2_with (first
      | (go_at_call 63; (with_reducible refine hli.mono ?_); rintro e w1 ⟨rfl, hb1⟩)
      | (go_at_call 66; (with_reducible refine (HPG.out _ hb1).mono ?_); rintro e w2 ⟨v2, rfl, ho2, hb2⟩
         have hla := laid_any ho2.byts (Nat.le_refl _) HPA.out HPL.out N (by omega) (by omega)
         have HB2 := Lib.hid (hb1.trans (hb2.mono hb1.size))
         clear ho2 hb2)
      | (go_at_call 65; (with_reducible refine hla.mono ?_); rintro e w3 ⟨g, v3, d, Z, rfl, hd3, hz3, hk3, hr3, hl3, hb3⟩
         obtain ⟨A3, c3, After3, Torn3, rfl⟩ := hr3.form
         have hal : Below w3.heap.size w3 (w3.alloc (.cells #[.slice A3 d.n c3, .int .i64 After3, .int .i64 Torn3, .bool d.dead, .int .i64 (d.writes : Int)] 55)) := (Below.refl _ _).alloc (Nat.le_refl _) _
         have hq3 : Dq w g d Z (w3.alloc (.cells #[.slice A3 d.n c3, .int .i64 After3, .int .i64 Torn3, .bool d.dead, .int .i64 (d.writes : Int)] 55)) := (show Dq w g d Z w3 from ⟨hd3, fun b hb => Nat.le_trans HB2.out.size (hz3 b hb), fun b hb => (hk3 b hb).lt, HB2.out.trans (hb3.mono HB2.out.size)⟩).grow hal
         have hfi := sfind_any hq3.dk hl3.dead
         have hwr3 := hl3.writes
         obtain ⟨a, t, hF⟩ : ∃ a t, findW (page d.L) d.n 0 [] = (a, t) := ⟨_, _, rfl⟩
         have hwp := wipes_plain ⟨hl3.ok, hl3.fuse, hl3.dead⟩ (by omega) hF
         rw [hF] at hfi
         unfold SFindPost at hfi
         simp only at hfi
         obtain ⟨_, hal100, d1, m1, hW1, hW2, hRE, hon1, hn1, hww1, hf1, hdi1, _, _⟩ := hwp
         have HW1 := Lib.hid hW1
         have HW2 := Lib.hid hW2
         have HRE := Lib.hid hRE
         have HON1 := Lib.hid hon1
         have HWW := Lib.hid hww1
         have HF1 := Lib.hid hf1
         have HDI := Lib.hid hdi1
         have HAL := Lib.hid hal100
         have HWR := Lib.hid (show d.writes + 5000 ≤ 1000000000 by omega)
         have HQ3 := Lib.hid hq3
         clear hd3 hz3 hk3 hr3 hl3 hb3 hal hq3 hla hF hwr3 hW1 hW2 hRE hon1 hn1 hww1 hf1 hdi1 hal100)
      | (go_at_call 67; first
         | ((with_reducible refine hfi.mono ?_); rintro e w4 ⟨v4, rfl, ho4, hb4⟩
            have hq4 := HQ3.out.grow hb4
            have HO4 := Lib.hid (ho4.lt.mono (D' := fun b => ¬ Z b) (fun b hb hz => by have := HQ3.out.hi b hz; have := hb.1; omega))
            have hwi := swipe_any hq4.dk hq4.hi (t : Int) HWR.out
            rw [HW1.out] at hwi
            unfold WipePost at hwi
            have HQ4 := Lib.hid hq4
            clear hfi ho4 hb4 hq4)
         | ((with_reducible refine hf2.mono ?_); rintro e w6 ⟨v6, rfl, ho6, hb6⟩
            have hq6 := HQ5.out.grow hb6
            have HO6 := Lib.hid (ho6.lt.mono (D' := fun b => ¬ Z b) (fun b hb hz => by have := HQ5.out.hi b hz; have := hb.1; omega))
            have HB6 := Lib.hid hb6
            have hws := swrites_any hq6.dk
            have HQ6 := Lib.hid hq6
            clear hf2 ho6 hb6 hq6))
      | (go_at_call 68; first
         | ((with_reducible refine hwi.mono ?_); rintro e w5 ⟨rfl, hd5, hk5⟩
            have hq5 := HQ4.out.wrote hd5 hk5
            have HO5 := Lib.hid (HO4.out.kept hk5 (fun _ h => h))
            have hf2 := sfind_any hq5.dk HON1.out.dead
            rw [HF1.out] at hf2
            unfold SFindPost at hf2
            have HQ5 := Lib.hid hq5
            clear hwi hd5 hk5 hq5)
         | ((with_reducible refine hwi2.mono ?_); rintro e w7 ⟨rfl, hd7, hk7⟩
            have hq7 := HQ6.out.wrote hd7 hk7
            have HBY47 := Lib.hid ((HO5.out.below HB6.out).kept hk7 (fun _ h => h)).byts
            have HBY67 := Lib.hid (HO6.out.kept hk7 (fun _ h => h)).byts
            have hdi := sDirty_any hq7.dk hq7.hi (t : Int)
            rw [HRE.out, if_pos rfl, Int.toNat_natCast, HDI.out] at hdi
            have HQ7 := Lib.hid hq7
            clear hwi2 hd7 hk7 hq7))
      | (go_at_call 38; first
         | ((with_reducible refine hws.mono ?_); rintro e w6' ⟨rfl, rfl⟩
            have hwi2 := swipe_any HQ6.out.dk HQ6.out.hi (t : Int) HWW.out
            rw [HW2.out] at hwi2
            unfold WipePost at hwi2
            clear hws)
         | ((with_reducible refine hws2.mono ?_); rintro e w9' ⟨rfl, rfl⟩))
      | (go_at_call 69; (with_reducible refine hdi.mono ?_); rintro e w8 ⟨rfl, hb8⟩
         have hsa := lsame11_any (HBY47.out.below hb8) (HBY67.out.below hb8) HAL.out
         rw [decide_eq_true rfl] at hsa
         have HQ8 := Lib.hid (HQ7.out.grow hb8)
         clear hdi hb8)
      | (go_at_call 70; (with_reducible refine hsa.mono ?_); rintro e w9 ⟨rfl, hb9⟩
         have hq9 := HQ8.out.grow hb9
         have hws2 := swrites_any hq9.dk
         have HB9 := Lib.hid hq9.below
         clear hsa hb9 hq9)
      | (go_at_call 64; (with_reducible refine (lives11_any _).mono ?_); rintro e w10 ⟨rfl, hb10⟩))
    go_ret
    exact ⟨rfl, HB9.out.trans (hb10.mono HB9.out.size)⟩
end Go.Proofs.Ytmcjefdnkcpghaa
