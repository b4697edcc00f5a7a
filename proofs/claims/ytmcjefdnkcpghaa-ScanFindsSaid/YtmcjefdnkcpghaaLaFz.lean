/- THE WALK OF ScanFinds. -/
import Derived.Test.YtmcjefdnkcpghaaZp
namespace Go.Proofs.Ytmcjefdnkcpghaa
open Go.RowKit
set_option maxRecDepth 100000 in
set_option maxHeartbeats 8000000 in
theorem finds_any {w : World} (many : Int) (_hmany : -9223372036854775808 ≤ many ∧ many ≤ 9223372036854775807) (v : Value) (ls : List Ptv) (hs : Parts w w.heap.size v ls) (tail : Int) (ht : -9223372036854775808 ≤ tail ∧ tail ≤ 9223372036854775807)
    (after : Int) (ha : -9223372036854775808 ≤ after ∧ after ≤ 9223372036854775807) (torn : Int) (_htn : -9223372036854775808 ≤ torn ∧ torn ≤ 9223372036854775807) :
    Calls Try.prog 16 #[.int .i64 many, v, .int .i64 tail, .int .i64 after, .int .i64 torn] w (LawPost11 w) := by
  have hli := light_any hs (Nat.le_refl _) many
  obtain ⟨A, c, hv, _, _⟩ := hs.form
  subst hv
  cases hl : lightB many ls with
  | false =>
    rw [hl] at hli
    clear hs hl
    go_enter Try.func16, Try.ntmps16
    go_wp2_with (first
      | (go_at_call 63; (with_reducible refine hli.mono ?_); rintro e w1 ⟨rfl, hb1⟩)
      | (go_at_call 64; (with_reducible refine (lives11_any _).mono ?_); rintro e w2 ⟨rfl, hb2⟩))
    go_ret
    exact ⟨rfl, hb1.trans (hb2.mono hb1.size)⟩
  | true =>
    obtain ⟨hm1, hm2, hl20, hlb⟩ := lightB_yes hl
    obtain ⟨N, rfl⟩ : ∃ N : Nat, many = (N : Int) := ⟨many.toNat, by omega⟩
    rw [hl] at hli
    have hpa := partsP_all ls
    have hpl : (partsP ls).length ≤ 100000 := by
      have := partsP_len ls hlb ls.length (Nat.le_refl _)
      rw [List.take_length] at this
      omega
    have hpg := fun (W : World) (hW : Below w.heap.size w W) => ppages_any (hs.below hW) hW.size hl20 hlb
    have HPG := Lib.hid hpg
    have HPA := Lib.hid hpa
    have HPL := Lib.hid hpl
    clear hs hl hlb hpa hpl hpg
    go_enter Try.func16, Try.ntmps16
    go_wp2_with (first
      | (go_at_call 63; (with_reducible refine hli.mono ?_); rintro e w1 ⟨rfl, hb1⟩)
      | (go_at_call 66; (with_reducible refine (HPG.out _ hb1).mono ?_); rintro e w2 ⟨v2, rfl, ho2, hb2⟩
         have hla := laid_any ho2.byts (Nat.le_refl _) HPA.out HPL.out N (by omega) (by omega)
         have HB2 := Lib.hid (hb1.trans (hb2.mono hb1.size))
         clear ho2 hb2)
      | (go_at_call 65; (with_reducible refine hla.mono ?_); rintro e w3 ⟨g, v3, d, Z, rfl, hd3, hz3, hk3, hr3, hl3, hb3⟩
         obtain ⟨A3, c3, After3, Torn3, rfl⟩ := hr3.form
         have hp3 := LaidPost.pl HB2.out hd3 hz3 hk3 hr3 hb3
         have hfi := sfind_any hp3.dk hl3.dead
         have hn3 := hp3.dk.ok.n2
         have hff := find_facts (pg := page d.L) (n := d.n) d.n 0 [] (by omega) (by omega)
         have hff2 : (findW (page d.L) d.n 0 []).1.length ≤ 100000 := (by have := hff.2.1; have := hff.2.2.2.2; simp only [List.length_nil] at this; omega)
         have hwr3 := hl3.writes
         have HFF := Lib.hid hff2
         have HP3 := Lib.hid hp3
         clear hd3 hz3 hk3 hr3 hl3 hb3 hff hff2 hp3 hla)
      | (go_at_call 67; (with_reducible refine hfi.mono ?_); rintro e w4 ⟨v4, rfl, ho4, hb4⟩
         have hp4 := HP3.out.grow hb4
         obtain ⟨A', c', a', t', hv4, hsl, _, _⟩ := id hp4.rv
         cases hv4
         obtain ⟨x0, x1, x2, x3, x4, f0, f1, f2, f3, f4⟩ := hp4.box.cells
         have hrf := rfind_any hsl.1 hn3
         have HBY4 := Lib.hid ho4.byts
         have HP4 := Lib.hid hp4
         clear hsl ho4 hb4 hp4 hfi)
      | (go_at_call 71; (with_reducible refine hrf.mono ?_); rintro e w5 ⟨v5, rfl, ho5, hb5⟩
         have hp5 := HP4.out.grow hb5
         have hdi := sDirty_any hp5.dk (fun b hb => (hp5.kd b hb).lt) tail
         have HBY5 := Lib.hid ho5.byts
         have HBY4' := Lib.hid (HBY4.out.below hb5).heap
         have HP5 := Lib.hid hp5
         clear ho5 hb5 hp5 hrf)
      | (go_at_call 69; (with_reducible refine hdi.mono ?_); rintro e w6 ⟨rfl, hb6⟩
         have hp6 := HP5.out.grow hb6
         obtain ⟨x0, x1, x2, x3, x4, f0, f1, f2, f3, f4⟩ := hp6.box.cells
         have hrd := rdirty_any hp6.rv hp6.dk.ok tail ht
         have HBY46 := Lib.hid (HBY4'.out.below hb6).heap
         have HBY56 := Lib.hid (HBY5.out.below hb6).heap
         generalize (if rightE d tail = 0 then ((dirtyL d.L d.n tail.toNat).length : Int) else 0) = NN at *
         generalize rightE d tail = RR at *
         have HP6 := Lib.hid hp6
         clear hb6 hp6 hdi)
      | (go_at_call 72; (with_reducible refine hrd.mono ?_); rintro e w7 ⟨rfl, hb7⟩
         have hp7 := HP6.out.grow hb7
         have hsa := lsame11_any (HBY46.out.below hb7) (HBY56.out.below hb7) HFF.out
         rw [decide_eq_true rfl] at hsa
         have HP7 := Lib.hid hp7
         clear hb7 hp7 hrd)
      | (go_at_call 70; (with_reducible refine hsa.mono ?_); rintro e w8 ⟨rfl, hb8⟩
         have hp8 := HP7.out.grow hb8
         have hfu := fuse_any hp8.dk after torn ha.2
         have hfw := fuses_writes d after torn
         have hfk := fuses_okk hp8.dk.ok after torn ha.2
         have hrfu : ∀ W v B, Rv W B v d → Calls Try.prog 44 #[v, .int .i64 after, .int .i64 torn] W (RPost W (d.fuses after torn).1 (d.fuses after torn).2) := (fun W v B h => rfuse_any h after torn ha.2)
         generalize d.fuses after torn = q at *
         obtain ⟨d', r'⟩ := q
         simp only at hfu hfw hfk hrfu
         have HRFU := Lib.hid hrfu
         have HFK := Lib.hid hfk
         have HFW := Lib.hid (show d'.writes + 5000 ≤ 1000000000 by omega)
         have HP8 := Lib.hid hp8
         clear hrfu hfk hfw hb8 hp8 hsa)
      | (go_at_call 37; (with_reducible refine hfu.mono ?_); rintro e w9 ⟨rfl, hd9, hk9⟩
         obtain ⟨Z9, hm9⟩ := HP8.out.wrote hd9 hk9 (fun b h => h.imp id (fun h => h.1))
         obtain ⟨x0, x1, x2, x3, x4, f0, f1, f2, f3, f4⟩ := hm9.box.cells
         have hrw := HRFU.out _ _ _ hm9.rv
         have HM9 := Lib.hid hm9
         clear hd9 hk9 hm9 hfu)
      | (go_at_call 44; (with_reducible refine hrw.mono ?_); rintro e w10 ⟨v10, rfl, hr10, hb10⟩
         obtain ⟨A10, c10, After10, Torn10, rfl⟩ := hr10.form
         have hm10 := HM9.out.grow hb10
         obtain ⟨x0, x1, x2, x3, x4, f0, f1, f2, f3, f4⟩ := hm10.box.cells
         have hp10 := hm10.put hr10
         have hwi := swipe_any hp10.dk (fun b hb => (hp10.kd b hb).lt) tail HFW.out
         have hrwi : ∀ W v B, Rv W B v d' → Calls Try.prog 73 #[v, .int .i64 tail] W (RWipePost W (wipeR d' tail)) := (fun W v B h => rwipe_any h HFK.out HFW.out tail ht)
         generalize wipeR d' tail = R at *
         obtain ⟨dw, nw, ew⟩ := R
         unfold WipePost at hwi
         unfold RWipePost at hrwi
         simp only at hwi hrwi
         have HRW := Lib.hid hrwi
         have HP10 := Lib.hid hp10
         clear hrwi hr10 hb10 hm10 hp10 hrw)
      | (go_at_call 68; (with_reducible refine hwi.mono ?_); rintro e w11 ⟨rfl, hd11, hk11⟩
         obtain ⟨Z11, hm11⟩ := HP10.out.wrote hd11 hk11 (fun b h => .inl h)
         obtain ⟨x0, x1, x2, x3, x4, f0, f1, f2, f3, f4⟩ := hm11.box.cells
         have hrw := HRW.out _ _ _ hm11.rv
         have HM11 := Lib.hid hm11
         clear hd11 hk11 hm11 hwi)
      | (go_at_call 73; (with_reducible refine hrw.mono ?_); rintro e w12 ⟨v12, rfl, hr12, hb12⟩
         obtain ⟨A12, c12, After12, Torn12, rfl⟩ := hr12.form
         have hm12 := HM11.out.grow hb12
         obtain ⟨x0, x1, x2, x3, x4, f0, f1, f2, f3, f4⟩ := hm12.box.cells
         have hp12 := hm12.put hr12
         have hlk := like_any hp12.dk (fun b hb => (hp12.kd b hb).lt) hp12.rv
         have HP12 := Lib.hid hp12
         clear hr12 hb12 hm12 hp12 hrw)
      | (go_at_call 48; (with_reducible refine hlk.mono ?_); rintro e w13 ⟨rfl, hb13⟩
         have hp13 := HP12.out.grow hb13
         have HB13 := Lib.hid hp13.below
         clear hb13 hp13 hlk)
      | (go_at_call 64; (with_reducible refine (lives11_any _).mono ?_); rintro e w14 ⟨rfl, hb14⟩))
    go_ret
    exact ⟨rfl, HB13.out.trans (hb14.mono HB13.out.size)⟩
end Go.Proofs.Ytmcjefdnkcpghaa
