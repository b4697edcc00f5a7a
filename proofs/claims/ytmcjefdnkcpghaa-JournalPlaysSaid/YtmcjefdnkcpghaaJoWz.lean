/- THE WALK OF JournalPlays. -/
import Derived.Test.YtmcjefdnkcpghaaZk
namespace Go.Proofs.Ytmcjefdnkcpghaa
open Go.RowKit
theorem fuses_dead (d : Dv) (a t : Int) : (d.fuses a t).1.dead = d.dead ∧ (d.fuses a t).1.n = d.n := by
  unfold Dv.fuses
  split <;> exact ⟨rfl, rfl⟩
set_option maxRecDepth 100000 in
set_option maxHeartbeats 8000000 in
theorem plays12_any {w : World} (many : Int) (_hmany : -9223372036854775808 ≤ many ∧ many ≤ 9223372036854775807) (v : Value) (ls : List Ptv) (hs : Parts w w.heap.size v ls) (lv : Value) (bs : List (List UInt8)) (hby : Byts w w.heap.size lv bs)
    (after : Int) (ha : -9223372036854775808 ≤ after ∧ after ≤ 9223372036854775807) (torn : Int) (_htn : -9223372036854775808 ≤ torn ∧ torn ≤ 9223372036854775807) :
    Calls Try.prog 20 #[.int .i64 many, v, lv, .int .i64 after, .int .i64 torn] w (LawPost11 w) := by
  have hli := light_any hs (Nat.le_refl _) many
  have hlb := fun (W : World) (hW : Below w.heap.size w W) => light12_any (hby.below hW).heap
  obtain ⟨A, c, hv, _, _⟩ := hs.form
  subst hv
  obtain ⟨Al, cl, rfl, hcl, hml⟩ := hby.form
  unfold maxLen at hml
  cases hl : lightB many ls with
  | false =>
    rw [hl] at hli
    clear hs hl hby hlb
    go_enter Try.func20, Try.ntmps20
    go_wp2_with (first
      | (go_at_call 63; (with_reducible refine hli.mono ?_); rintro e w1 ⟨rfl, hb1⟩)
      | (go_at_call 75; (with_reducible refine (lives12_any _).mono ?_); rintro e w2 ⟨rfl, hb2⟩))
    go_ret
    exact ⟨rfl, hb1.trans (hb2.mono hb1.size)⟩
  | true =>
    rw [hl] at hli
    cases hl2 : light12B bs with
    | false =>
      rw [hl2] at hlb
      clear hs hl hl2 hby
      go_enter Try.func20, Try.ntmps20
      go_wp2_with (first
        | (go_at_call 63; (with_reducible refine hli.mono ?_); rintro e w1 ⟨rfl, hb1⟩
           have hlb := hlb _ hb1)
        | (go_at_call 74; (with_reducible refine hlb.mono ?_); rintro e w3 ⟨rfl, hb3⟩)
        | (go_at_call 75; (with_reducible refine (lives12_any _).mono ?_); rintro e w2 ⟨rfl, hb2⟩))
      go_ret
      have hb13 := hb1.trans (hb3.mono hb1.size)
      exact ⟨rfl, hb13.trans (hb2.mono hb13.size)⟩
    | true =>
      rw [hl2] at hlb
      obtain ⟨hm1, hm2, hl20, hlw⟩ := lightB_yes hl
      obtain ⟨N, rfl⟩ : ∃ N : Nat, many = (N : Int) := ⟨many.toNat, by omega⟩
      obtain ⟨hs1, hs2⟩ := light12_yes hl2
      have hpa := partsP_all ls
      have hpl : (partsP ls).length ≤ 100000 := by
        have := partsP_len ls hlw ls.length (Nat.le_refl _)
        rw [List.take_length] at this
        omega
      have hpg := fun (W : World) (hW : Below w.heap.size w W) => ppages_any (hs.below hW) hW.size hl20 hlw
      have HPG := Lib.hid hpg
      have HPA := Lib.hid hpa
      have HPL := Lib.hid hpl
      have HBY := Lib.hid hby
      have HS1 := Lib.hid hs1
      clear hs hl hl2 hlw hpa hpl hpg hby hs1
      go_enter Try.func20, Try.ntmps20
      go_wp2_with (first
        | (go_at_call 63; (with_reducible refine hli.mono ?_); rintro e w1 ⟨rfl, hb1⟩
           have hlb := hlb _ hb1
           clear hli)
        | (go_at_call 74; (with_reducible refine hlb.mono ?_); rintro e w3 ⟨rfl, hb3⟩
           have HB3 := Lib.hid (hb1.trans (hb3.mono hb1.size))
           clear hlb hb3 hb1)
        | (go_at_call 66; (with_reducible refine (HPG.out _ HB3.out).mono ?_); rintro e w4 ⟨v4, rfl, ho4, hb4⟩
           have hla := laid_any ho4.byts (Nat.le_refl _) HPA.out HPL.out N (by omega) (by omega)
           have HB4 := Lib.hid (HB3.out.trans (hb4.mono HB3.out.size))
           clear ho4 hb4)
        | (go_at_call 65; (with_reducible refine hla.mono ?_); rintro e w5 ⟨g, v5, d, Z, rfl, hd5, hz5, hk5, hr5, hl5, hb5⟩
           obtain ⟨A5, c5, After5, Torn5, rfl⟩ := hr5.form
           have hp5 := LaidPost.pl HB4.out hd5 hz5 hk5 hr5 hb5
           have hfu := fuse_any hp5.dk after torn ha.2
           have hfw := fuses_writes d after torn
           have hfk := fuses_okk hp5.dk.ok after torn ha.2
           have hfd := fuses_dead d after torn
           have hrfu : ∀ W v B, Rv W B v d → Calls Try.prog 44 #[v, .int .i64 after, .int .i64 torn] W (RPost W (d.fuses after torn).1 (d.fuses after torn).2) := (fun W v B h => rfuse_any h after torn ha.2)
           have hwr5 := hl5.writes
           have hdd5 := hl5.dead
           generalize d.fuses after torn = q at *
           obtain ⟨d', r'⟩ := q
           simp only at hfu hfw hfk hrfu hfd
           have HRFU := Lib.hid hrfu
           have HFK := Lib.hid hfk
           have HFW := Lib.hid (show d'.writes ≤ 100000 by omega)
           have HFD := Lib.hid (hfd.1.trans hdd5)
           have HP5 := Lib.hid hp5
           generalize hB12 : w5.heap.size = b12 at HP5 hfu hp5 ⊢
           clear hd5 hz5 hk5 hr5 hl5 hb5 hp5 hla hrfu hfk hfw hfd hwr5 hdd5)
        | (go_at_call 37; (with_reducible refine hfu.mono ?_); rintro e w9 ⟨rfl, hd9, hk9⟩
           obtain ⟨Z9, hm9⟩ := HP5.out.wrote hd9 hk9 (fun b h => h.imp id (fun h => h.1))
           obtain ⟨x0, x1, x2, x3, x4, f0, f1, f2, f3, f4⟩ := hm9.box.cells
           have hrw := HRFU.out _ _ _ hm9.rv
           have HM9 := Lib.hid hm9
           clear hd9 hk9 hm9 hfu)
        | (go_at_call 44; (with_reducible refine hrw.mono ?_); rintro e w10 ⟨v10, rfl, hr10, hb10⟩
           obtain ⟨A10, c10, After10, Torn10, rfl⟩ := hr10.form
           have hm10 := HM9.out.grow hb10
           obtain ⟨x0, x1, x2, x3, x4, f0, f1, f2, f3, f4⟩ := hm10.box.cells
           have hp10 := hm10.put hr10
           have hjo := jopen_any hp10.dk (fun b hb => (hp10.kd b hb).lt) HFD.out (by have := HFW.out; omega)
           have HP10 := Lib.hid hp10
           clear hr10 hb10 hm10 hp10 hrw))
      generalize World.setCell (World.setCell _ _ _) ⟨b12, 4, none⟩ (.int .i64 (d'.writes : Int)) = wA at hjo HP10 ⊢
      have hff := find_facts (pg := page d'.L) (n := d'.n) d'.n 0 [] (by omega) (by omega)
      have hrop : ∀ W v B, Rv W B v d' → Calls Try.prog 82 #[v] W (ROpenPost W (findW (page d'.L) d'.n 0 []) (wipeR d' ((findW (page d'.L) d'.n 0 []).2 : Int))) := fun W v B h => rjopen_any h HFK.out HFD.out (by have := HFW.out; omega)
      generalize findW (page d'.L) d'.n 0 [] = F at *
      have hwf := wipeR_facts d' (F.2 : Int)
      generalize wipeR d' (F.2 : Int) = R at *
      obtain ⟨d1, mw, ef⟩ := R
      have hdn2 := HFK.out.n2
      have hfa : F.1.length ≤ 100000 := by have := hff.2.1; have := hff.2.2.2.2; simp only [List.length_nil] at this; omega
      have hfm : F.1.length ≤ 1400 := by have := hff.2.1; have := hff.2.2.2.2; simp only [List.length_nil] at this; omega
      have hft : F.2 ≤ d'.n := hff.2.1
      unfold JOpenPost at hjo
      unfold ROpenPost at hrop
      simp only at hjo hrop hwf
      have HROP := Lib.hid hrop
      have HWF := Lib.hid hwf
      clear hff hrop hwf x0 x1 x2 x3 x4 f0 f1 f2 f3 f4 hlb HB3 HB4 HP5 HM9 HRFU HPG
      refine hjo.mono ?_
      clear hjo
      rintro e w11 (⟨h0, bj, va, rfl, hj11, hbj, ho11, hk11⟩ | ⟨h0, rfl, hd11, hk11⟩)
      · subst h0
        obtain ⟨Z11, hm11⟩ := HP10.out.wrote hj11.dk hk11 (fun b h => .inl h)
        have hlt12 : b12 < wA.heap.size := by obtain ⟨a0, a1, a2, a3, a4, _, hx⟩ := HP10.out.box; exact lt_of_block hx
        obtain ⟨x0, x1, x2, x3, x4, f0, f1, f2, f3, f4⟩ := hm11.box.cells
        have hro := HROP.out _ _ _ hm11.rv
        have HM11 := Lib.hid hm11
        have HJ11 := Lib.hid hj11.hd
        have HO11 := Lib.hid ho11
        have hlobj : w.heap.size ≤ bj := Nat.le_trans HP10.out.below.size hbj
        have hs11 := hk11.size
        obtain ⟨Aa, ca, rfl, hca, hma⟩ := ho11.byts.form
        clear hj11 ho11 hk11 hm11 HP10
        go_wp2_with fail
        refine hro.mono ?_
        rintro e w12 ⟨hb12, Av, nv, cv, v1, v2, v3, v4, v5, v6, v7, vl, Au, nu, cu, u1, u2, u3, u4, rfl, hr12, hrj, hol⟩
        obtain ⟨hp13, hj13, hk12, hl13⟩ := opened_ok HM11.out HJ11.out hlobj hb12 hr12 (hrj trivial)
        rw [if_pos trivial] at hol
        obtain ⟨Ab, cb, rfl, hcb, hmb⟩ := hol.byts.form
        have ha13 := ((HO11.out.below hb12).kept hk12 (fun b hb => by have : wA.heap.size ≤ b := hb; omega)).byts
        have hb13 := (hol.kept hk12 (fun b hb => by have : w11.heap.size ≤ b := hb; omega)).byts
        obtain ⟨x0, x1, x2, x3, x4, f0, f1, f2, f3, f4⟩ := (HM11.out.grow hb12).box.cells
        have hs12 := hb12.size
        have hn12 : b12 ≠ w12.heap.size := by omega
        have hn21 : w12.heap.size ≠ b12 := by omega
        have hl12 : b12 < w12.heap.size := by omega
        clear hb12 hr12 hrj hol hk12 hl13 hro
        go_upto_region 10 with fail
        generalize World.alloc (World.setCell _ _ _) _ = w13 at hp13 hj13 ha13 hb13 ⊢
        have hsa := lsame12_any ha13 hb13 hfa
        rw [decide_eq_true rfl] at hsa
        obtain ⟨x0, x1, x2, x3, x4, f0, f1, f2, f3, f4⟩ := hp13.box.cells
        have HP13 := Lib.hid hp13
        have HJ13 := Lib.hid hj13
        clear hp13 hj13 ha13 hb13 x0 x1 x2 x3 x4 f0 f1 f2 f3 f4 
        go_wp2_with (first
          | (go_at_call 83; (with_reducible refine hsa.mono ?_); rintro e w14 ⟨rfl, hb14⟩
             have hp14 := HP13.out.grow hb14
             obtain ⟨x0, x1, x2, x3, x4, f0, f1, f2, f3, f4⟩ := hp14.box.cells
             have hlk := like_any hp14.dk (fun b hb => (hp14.kd b hb).lt) hp14.rv
             have HJ14 := Lib.hid (HJ13.out.grow hb14)
             clear hb14 hp14 hsa)
          | (go_at_call 48; (with_reducible refine hlk.mono ?_); rintro e w15 ⟨rfl, hb15⟩
             have HJ15 := Lib.hid (HJ14.out.grow hb15)
             clear hb15 hlk))
        generalize hB17 : w12.heap.size = b17 at *
        have hok1 : Jv.ok ⟨d1, F.1.length, F.2, false⟩ := ⟨by have := HWF.out.2; simp only; omega, by simp only; omega⟩
        have hwr1 : d1.writes ≤ 110000 := by have := HWF.out.1; have := HFW.out; omega
        have HOKF := Lib.hid hok1
        clear hok1
        go_loopg [21, 22, 23, 24, 25, 97] bs.length (fun gk x21 x22 x23 x24 x25 x97 wr => ∃ (k : Nat) (j : Jv) (Z : Nat → Prop) (v : Value), gk = bs.length - k ∧ k ≤ bs.length ∧ x97 = .int .i64 (k : Int) ∧ Jm w bj g b17 j j Z v wr ∧ j.ok ∧ j.many ≤ 1400 + k ∧ j.d.writes ≤ 110000 + k * 1000)
        case atStart => exact ⟨0, _, _, _, rfl, Nat.zero_le _, rfl, HJ15.out, HOKF.out, by simp only; omega, by simp only; omega⟩
        case round =>
          obtain ⟨k, j, Z, v, hgk, hk, rfl, hjm, hok, hmany, hwr⟩ := hrel
          have HG := Lib.hid hgk
          have HJM := Lib.hid hjm
          have HOK := Lib.hid hok
          clear hgk hjm hok HJ15 HOKF HP13 HJ13 HJ14 HM11 HJ11 HO11 HROP HWF x0 x1 x2 x3 x4 f0 f1 f2 f3 f4
          by_cases h : k < bs.length
          · obtain ⟨ad0, rfl⟩ : ∃ ad, Al = some ad := by obtain ⟨ad0, u0, e, _⟩ := (HBY.out.below HJM.out.below).atv k h; exact ⟨ad0, e⟩
            obtain ⟨A1, n1, c1, hcell, hn1, hc1, hm1, hby⟩ := (HBY.out.below HJM.out.below).at_ k h
            have hbl := HS1.out _ (List.getElem_mem h)
            generalize bs[k] = b at *
            subst hn1
            have i1 : (0 : Int) ≤ (k : Int) := by omega
            have i2 : (k : Int) < (bs.length : Int) := by omega
            have i3 : IntKind.i64.wrap ((k : Int) + 1) = (k : Int) + 1 := by rw [IntKind.wrap_i64]; omega
            have hap := append_any HJM.out.jn HOK.out HJM.out.hi (hby.more HJM.out.below.size) (by omega) (show j.d.writes + 5000 ≤ 1000000000 by omega)
            have hra := fun (W : World) (B : Nat) (v : Value) (h : Rjv W B v j) (hW : Below w.heap.size w W) (hx : Byt W W.heap.size (.slice A1 b.length c1) b) => rappend_any h HOK.out HJM.out.jn.dk.ok hx (by omega) (show j.d.writes + 5000 ≤ 1000000000 by omega)
            have hfa := append_facts HOK.out (b := b) (by omega)
            have HHB := Lib.hid hby
            generalize appendW j b = R1 at *
            obtain ⟨j1, n1, e1⟩ := R1
            unfold AppendPost at hap
            unfold RAppendPost at hra
            simp only at hap hra hfa
            have HRA := Lib.hid hra
            have HFA := Lib.hid hfa
            clear hra hfa hby
            go_wp2_with fail
            refine hap.mono ?_
            rintro e w17 ⟨rfl, hj17, hk17⟩
            obtain ⟨Z17, hm17⟩ := HJM.out.app hj17 hk17
            obtain ⟨u0, u1, u2, u3, u4, eu, hru⟩ := id hm17.rj
            obtain ⟨A7, c7, After7, Torn7, eg⟩ := hru.form
            cases eg
            subst eu
            obtain ⟨v0, v1, v2, v3, v4, v5, v6, v7, ev, hx17⟩ := id hm17.box
            cases ev
            obtain ⟨y0, y1, y2, y3, y4, y5, y6, y7⟩ := hx17.cells
            have hra := HRA.out _ _ _ hm17.rj hm17.below ((HHB.out.below (hk17.toBelow (B := w.heap.size) HJM.out.below.size (fun b hb => ⟨fun hz => by have := HJM.out.lo b hz; omega, fun e => by have := HJM.out.lob; omega⟩))).more hm17.below.size)
            have HM17 := Lib.hid hm17
            clear hap hj17 hk17 hm17 hru hx17
            go_wp2_with fail
            refine hra.mono ?_
            rintro e w18 ⟨v9, rfl, hrj18, hb18⟩
            have hm18 := HM17.out.grow hb18
            obtain ⟨z0, z1, z2, z3, z4, rfl, hz18⟩ := id hrj18
            obtain ⟨A9, c9, After9, Torn9, eg⟩ := hz18.form
            cases eg
            obtain ⟨v0, v1, v2, v3, v4, v5, v6, v7, ev, hx18⟩ := id hm18.box
            cases ev
            obtain ⟨y0, y1, y2, y3, y4, y5, y6, y7⟩ := hx18.cells
            obtain ⟨k0, k1, k2, k3, k4, k5, k6, k7⟩ := hx18.free
            have hm20 := hm18.put hrj18
            obtain ⟨d1, m1, t1, dd1⟩ := j1
            simp only [set8] at hm20
            simp only at hz18 ⊢
            clear hra hrj18 hb18 hm18 hx18 hz18
            go_upto_region 20 with fail
            generalize World.setCell (World.setCell _ _ _) ⟨b17, 7, none⟩ _ = w20 at hm20 ⊢
            have hX : ∀ W, Below w20.heap.size w20 W → Jm w bj g b17 ⟨d1, m1, t1, dd1⟩ ⟨d1, m1, t1, dd1⟩ Z17 (.agg #[.slice A9 d1.n c9, .int .i64 After9, .int .i64 Torn9, .bool d1.dead, .int .i64 (d1.writes : Int), .int .i64 (m1 : Int), .int .i64 (t1 : Int), .bool dd1]) W := fun W hW => hm20.grow hW
            have HX := Lib.hid hX
            have HM20 := Lib.hid hm20
            clear hX hm20
            have hd1n : d1.n ≤ 4096 := HM20.out.jn.dk.ok.n2
            have HOK1 := Lib.hid (show Jv.ok ⟨d1, m1, t1, dd1⟩ from ⟨by have := HFA.out; simp only at this ⊢; omega, by have := HFA.out; simp only at this ⊢; omega⟩)
            have HRV := Lib.hid (show ∀ W, Below w20.heap.size w20 W → Rv W W.heap.size (.agg #[.slice A9 d1.n c9, .int .i64 After9, .int .i64 Torn9, .bool d1.dead, .int .i64 (d1.writes : Int)]) d1 from fun W hW => by
              obtain ⟨z0, z1, z2, z3, z4, e, hz⟩ := (HX.out W hW).rj
              cases e
              exact hz)
            have i4 : IntKind.i64.wrap ((d1.n : Int) - (t1 : Int)) = (d1.n : Int) - (t1 : Int) := by have ht1 : t1 ≤ d1.n := HOK1.out.tail; rw [IntKind.wrap_i64]; omega
            -- region 20
            refine wp_region_sp (by kernel_rfl) [isS (.int .i64 n1), isS (.int .i64 n1), isS (.bool false), isS (.bool false), isS (.int .i64 e1), isS (.int .i64 e1), isS (.bool false), isS (.bool false), isS (.bool false), isS (.pointer (some ⟨bj, 0, none⟩)), isS (.int .i64 (m1 : Int)), isS (.pointer (some ⟨b17, 5, none⟩)), isS (.int .i64 (m1 : Int)), isS (.bool false), isS (.bool false), isS (.bool false), isS (.pointer (some ⟨bj, 0, none⟩)), isS (.int .i64 (t1 : Int)), isS (.pointer (some ⟨b17, 6, none⟩)), isS (.int .i64 (t1 : Int)), isS (.bool false), isS (.bool false), isS (.bool false), isS (.pointer (some ⟨bj, 0, none⟩)), isS (.int .i64 ((d1.n : Int) - (t1 : Int))), isS (.pointer (some ⟨b17, 0, none⟩)), isS (.pointer (some ⟨b17, 0, none⟩)), isS (.slice A9 d1.n c9), isS (.int .i64 (d1.n : Int)), isS (.pointer (some ⟨b17, 6, none⟩)), isS (.int .i64 (t1 : Int)), isS (.int .i64 ((d1.n : Int) - (t1 : Int))), isS (.bool false), isS (.bool false), isS (.bool false), isS (.pointer (some ⟨bj, 0, none⟩)), isS (.bool dd1), isS (.pointer (some ⟨b17, 7, none⟩)), isS (.bool dd1), isS (.bool false), isS (.bool false), isS (.bool false), isS (.pointer (some ⟨g, 0, none⟩)), isS (.pointer (some ⟨b17, 0, none⟩)), isS (.agg #[.slice A9 d1.n c9, .int .i64 After9, .int .i64 Torn9, .bool d1.dead, .int .i64 (d1.writes : Int)]), isS (.bool true), isS (.bool false), isS (.bool false)] (by kernel_rfl) (by kernel_rfl) (fun q hq => ?_) (fun a' w21 hc hs => ?_)
            · match q, hq with
              | 0, _ =>
                intro a W hc hd
                have z22 := hc.same 22 (by kernel_rfl)
                simp only [List.getElem?_toArray, List.getElem?_cons_succ, List.getElem?_cons_zero, Option.getD_some] at z22
                refine obl_val rfl (wanted_none rfl) ?_ rfl
                go_simp
              | 1, _ =>
                intro a W hc hd
                have z24 := hc.same 24 (by kernel_rfl)
                simp only [List.getElem?_toArray, List.getElem?_cons_succ, List.getElem?_cons_zero, Option.getD_some] at z24
                refine obl_val rfl (wanted_none rfl) ?_ rfl
                go_simp
              | 2, _ =>
                intro a W hc hd
                have s0 : a.tmps[114]?.getD undef = (.int .i64 n1) := hd 0 (by kernel_rfl)
                have s1 : a.tmps[115]?.getD undef = (.int .i64 n1) := hd 1 (by kernel_rfl)
                refine obl_val rfl (wanted_none rfl) ?_ rfl
                go_simp
              | 3, _ =>
                intro a W hc hd
                have s2 : a.tmps[116]?.getD undef = (.bool false) := hd 2 (by kernel_rfl)
                refine obl_val rfl (wanted_none rfl) ?_ rfl
                go_simp
              | 4, _ =>
                intro a W hc hd
                have z23 := hc.same 23 (by kernel_rfl)
                have s3 : a.tmps[117]?.getD undef = (.bool false) := hd 3 (by kernel_rfl)
                simp only [List.getElem?_toArray, List.getElem?_cons_succ, List.getElem?_cons_zero, Option.getD_some] at z23
                refine obl_val rfl (wanted_some rfl rfl s3) ?_ rfl
                go_simp
              | 5, _ =>
                intro a W hc hd
                have z25 := hc.same 25 (by kernel_rfl)
                have s3 : a.tmps[117]?.getD undef = (.bool false) := hd 3 (by kernel_rfl)
                simp only [List.getElem?_toArray, List.getElem?_cons_succ, List.getElem?_cons_zero, Option.getD_some] at z25
                refine obl_val rfl (wanted_some rfl rfl s3) ?_ rfl
                go_simp
              | 6, _ =>
                intro a W hc hd
                have s4 : a.tmps[118]?.getD undef = (.int .i64 e1) := hd 4 (by kernel_rfl)
                have s5 : a.tmps[119]?.getD undef = (.int .i64 e1) := hd 5 (by kernel_rfl)
                have s3 : a.tmps[117]?.getD undef = (.bool false) := hd 3 (by kernel_rfl)
                refine obl_val rfl (wanted_some rfl rfl s3) ?_ rfl
                go_simp
              | 7, _ =>
                intro a W hc hd
                have s3 : a.tmps[117]?.getD undef = (.bool false) := hd 3 (by kernel_rfl)
                have s6 : a.tmps[120]?.getD undef = (.bool false) := hd 6 (by kernel_rfl)
                refine obl_val rfl (wanted_none rfl) ?_ rfl
                go_simp
              | 8, _ =>
                intro a W hc hd
                have s7 : a.tmps[121]?.getD undef = (.bool false) := hd 7 (by kernel_rfl)
                refine obl_val rfl (wanted_none rfl) ?_ rfl
                go_simp
              | 9, _ =>
                intro a W hc hd
                have z14 := hc.same 14 (by kernel_rfl)
                have s8 : a.tmps[122]?.getD undef = (.bool false) := hd 8 (by kernel_rfl)
                simp only [List.getElem?_toArray, List.getElem?_cons_succ, List.getElem?_cons_zero, Option.getD_some] at z14
                refine obl_val rfl (wanted_some rfl rfl s8) ?_ rfl
                go_simp
              | 10, _ =>
                intro a W hc hd
                have s9 : a.tmps[123]?.getD undef = (.pointer (some ⟨bj, 0, none⟩)) := hd 9 (by kernel_rfl)
                have s8 : a.tmps[122]?.getD undef = (.bool false) := hd 8 (by kernel_rfl)
                refine obl_call rfl (wanted_some rfl rfl s8) (by go_simp) (jlen_any (HX.out W ((Below.refl w20.heap.size w20).drew.trans hc.below)).jn) ?_
                rintro e w8 ⟨rfl, rfl⟩
                exact ⟨_, rfl, rfl, Below.refl _ _⟩
              | 11, _ =>
                intro a W hc hd
                have z17 := hc.same 17 (by kernel_rfl)
                have s8 : a.tmps[122]?.getD undef = (.bool false) := hd 8 (by kernel_rfl)
                simp only [List.getElem?_toArray, List.getElem?_cons_succ, List.getElem?_cons_zero, Option.getD_some] at z17
                refine obl_val rfl (wanted_some rfl rfl s8) ?_ rfl
                go_simp
              | 12, _ =>
                intro a W hc hd
                have s11 : a.tmps[125]?.getD undef = (.pointer (some ⟨b17, 5, none⟩)) := hd 11 (by kernel_rfl)
                have s8 : a.tmps[122]?.getD undef = (.bool false) := hd 8 (by kernel_rfl)
                obtain ⟨v0, v1, v2, v3, v4, v5, v6, v7, ev, hbx⟩ := (HX.out W ((Below.refl w20.heap.size w20).drew.trans hc.below)).box
                cases ev
                obtain ⟨y0, y1, y2, y3, y4, y5, y6, y7⟩ := hbx.cells
                refine obl_val rfl (wanted_some rfl rfl s8) ?_ rfl
                go_simp
              | 13, _ =>
                intro a W hc hd
                have s10 : a.tmps[124]?.getD undef = (.int .i64 (m1 : Int)) := hd 10 (by kernel_rfl)
                have s12 : a.tmps[126]?.getD undef = (.int .i64 (m1 : Int)) := hd 12 (by kernel_rfl)
                have s8 : a.tmps[122]?.getD undef = (.bool false) := hd 8 (by kernel_rfl)
                refine obl_val rfl (wanted_some rfl rfl s8) ?_ rfl
                go_simp
              | 14, _ =>
                intro a W hc hd
                have s8 : a.tmps[122]?.getD undef = (.bool false) := hd 8 (by kernel_rfl)
                have s13 : a.tmps[127]?.getD undef = (.bool false) := hd 13 (by kernel_rfl)
                refine obl_val rfl (wanted_none rfl) ?_ rfl
                go_simp
              | 15, _ =>
                intro a W hc hd
                have s14 : a.tmps[128]?.getD undef = (.bool false) := hd 14 (by kernel_rfl)
                refine obl_val rfl (wanted_none rfl) ?_ rfl
                go_simp
              | 16, _ =>
                intro a W hc hd
                have z14 := hc.same 14 (by kernel_rfl)
                have s15 : a.tmps[129]?.getD undef = (.bool false) := hd 15 (by kernel_rfl)
                simp only [List.getElem?_toArray, List.getElem?_cons_succ, List.getElem?_cons_zero, Option.getD_some] at z14
                refine obl_val rfl (wanted_some rfl rfl s15) ?_ rfl
                go_simp
              | 17, _ =>
                intro a W hc hd
                have s16 : a.tmps[130]?.getD undef = (.pointer (some ⟨bj, 0, none⟩)) := hd 16 (by kernel_rfl)
                have s15 : a.tmps[129]?.getD undef = (.bool false) := hd 15 (by kernel_rfl)
                refine obl_call rfl (wanted_some rfl rfl s15) (by go_simp) (jtail_any (HX.out W ((Below.refl w20.heap.size w20).drew.trans hc.below)).jn) ?_
                rintro e w8 ⟨rfl, rfl⟩
                exact ⟨_, rfl, rfl, Below.refl _ _⟩
              | 18, _ =>
                intro a W hc hd
                have z17 := hc.same 17 (by kernel_rfl)
                have s15 : a.tmps[129]?.getD undef = (.bool false) := hd 15 (by kernel_rfl)
                simp only [List.getElem?_toArray, List.getElem?_cons_succ, List.getElem?_cons_zero, Option.getD_some] at z17
                refine obl_val rfl (wanted_some rfl rfl s15) ?_ rfl
                go_simp
              | 19, _ =>
                intro a W hc hd
                have s18 : a.tmps[132]?.getD undef = (.pointer (some ⟨b17, 6, none⟩)) := hd 18 (by kernel_rfl)
                have s15 : a.tmps[129]?.getD undef = (.bool false) := hd 15 (by kernel_rfl)
                obtain ⟨v0, v1, v2, v3, v4, v5, v6, v7, ev, hbx⟩ := (HX.out W ((Below.refl w20.heap.size w20).drew.trans hc.below)).box
                cases ev
                obtain ⟨y0, y1, y2, y3, y4, y5, y6, y7⟩ := hbx.cells
                refine obl_val rfl (wanted_some rfl rfl s15) ?_ rfl
                go_simp
              | 20, _ =>
                intro a W hc hd
                have s17 : a.tmps[131]?.getD undef = (.int .i64 (t1 : Int)) := hd 17 (by kernel_rfl)
                have s19 : a.tmps[133]?.getD undef = (.int .i64 (t1 : Int)) := hd 19 (by kernel_rfl)
                have s15 : a.tmps[129]?.getD undef = (.bool false) := hd 15 (by kernel_rfl)
                refine obl_val rfl (wanted_some rfl rfl s15) ?_ rfl
                go_simp
              | 21, _ =>
                intro a W hc hd
                have s15 : a.tmps[129]?.getD undef = (.bool false) := hd 15 (by kernel_rfl)
                have s20 : a.tmps[134]?.getD undef = (.bool false) := hd 20 (by kernel_rfl)
                refine obl_val rfl (wanted_none rfl) ?_ rfl
                go_simp
              | 22, _ =>
                intro a W hc hd
                have s21 : a.tmps[135]?.getD undef = (.bool false) := hd 21 (by kernel_rfl)
                refine obl_val rfl (wanted_none rfl) ?_ rfl
                go_simp
              | 23, _ =>
                intro a W hc hd
                have z14 := hc.same 14 (by kernel_rfl)
                have s22 : a.tmps[136]?.getD undef = (.bool false) := hd 22 (by kernel_rfl)
                simp only [List.getElem?_toArray, List.getElem?_cons_succ, List.getElem?_cons_zero, Option.getD_some] at z14
                refine obl_val rfl (wanted_some rfl rfl s22) ?_ rfl
                go_simp
              | 24, _ =>
                intro a W hc hd
                have s23 : a.tmps[137]?.getD undef = (.pointer (some ⟨bj, 0, none⟩)) := hd 23 (by kernel_rfl)
                have s22 : a.tmps[136]?.getD undef = (.bool false) := hd 22 (by kernel_rfl)
                refine obl_call rfl (wanted_some rfl rfl s22) (by go_simp) (jroom_any (HX.out W ((Below.refl w20.heap.size w20).drew.trans hc.below)).jn HOK1.out) ?_
                rintro e w8 ⟨rfl, q8, rfl⟩
                exact ⟨_, rfl, rfl, drewN_below _ _⟩
              | 25, _ =>
                intro a W hc hd
                have z17 := hc.same 17 (by kernel_rfl)
                have s22 : a.tmps[136]?.getD undef = (.bool false) := hd 22 (by kernel_rfl)
                simp only [List.getElem?_toArray, List.getElem?_cons_succ, List.getElem?_cons_zero, Option.getD_some] at z17
                refine obl_val rfl (wanted_some rfl rfl s22) ?_ rfl
                go_simp
              | 26, _ =>
                intro a W hc hd
                have s25 : a.tmps[139]?.getD undef = (.pointer (some ⟨b17, 0, none⟩)) := hd 25 (by kernel_rfl)
                have s22 : a.tmps[136]?.getD undef = (.bool false) := hd 22 (by kernel_rfl)
                refine obl_val rfl (wanted_some rfl rfl s22) ?_ rfl
                go_simp
              | 27, _ =>
                intro a W hc hd
                have s26 : a.tmps[140]?.getD undef = (.pointer (some ⟨b17, 0, none⟩)) := hd 26 (by kernel_rfl)
                have s22 : a.tmps[136]?.getD undef = (.bool false) := hd 22 (by kernel_rfl)
                obtain ⟨v0, v1, v2, v3, v4, v5, v6, v7, ev, hbx⟩ := (HX.out W ((Below.refl w20.heap.size w20).drew.trans hc.below)).box
                cases ev
                obtain ⟨y0, y1, y2, y3, y4, y5, y6, y7⟩ := hbx.cells
                refine obl_val rfl (wanted_some rfl rfl s22) ?_ rfl
                go_simp
              | 28, _ =>
                intro a W hc hd
                have s27 : a.tmps[141]?.getD undef = (.slice A9 d1.n c9) := hd 27 (by kernel_rfl)
                have s22 : a.tmps[136]?.getD undef = (.bool false) := hd 22 (by kernel_rfl)
                refine obl_val rfl (wanted_some rfl rfl s22) ?_ rfl
                go_simp
              | 29, _ =>
                intro a W hc hd
                have z17 := hc.same 17 (by kernel_rfl)
                have s22 : a.tmps[136]?.getD undef = (.bool false) := hd 22 (by kernel_rfl)
                simp only [List.getElem?_toArray, List.getElem?_cons_succ, List.getElem?_cons_zero, Option.getD_some] at z17
                refine obl_val rfl (wanted_some rfl rfl s22) ?_ rfl
                go_simp
              | 30, _ =>
                intro a W hc hd
                have s29 : a.tmps[143]?.getD undef = (.pointer (some ⟨b17, 6, none⟩)) := hd 29 (by kernel_rfl)
                have s22 : a.tmps[136]?.getD undef = (.bool false) := hd 22 (by kernel_rfl)
                obtain ⟨v0, v1, v2, v3, v4, v5, v6, v7, ev, hbx⟩ := (HX.out W ((Below.refl w20.heap.size w20).drew.trans hc.below)).box
                cases ev
                obtain ⟨y0, y1, y2, y3, y4, y5, y6, y7⟩ := hbx.cells
                refine obl_val rfl (wanted_some rfl rfl s22) ?_ rfl
                go_simp
              | 31, _ =>
                intro a W hc hd
                have s28 : a.tmps[142]?.getD undef = (.int .i64 (d1.n : Int)) := hd 28 (by kernel_rfl)
                have s30 : a.tmps[144]?.getD undef = (.int .i64 (t1 : Int)) := hd 30 (by kernel_rfl)
                have s22 : a.tmps[136]?.getD undef = (.bool false) := hd 22 (by kernel_rfl)
                refine obl_val rfl (wanted_some rfl rfl s22) ?_ rfl
                go_simp
              | 32, _ =>
                intro a W hc hd
                have s24 : a.tmps[138]?.getD undef = (.int .i64 ((d1.n : Int) - (t1 : Int))) := hd 24 (by kernel_rfl)
                have s31 : a.tmps[145]?.getD undef = (.int .i64 ((d1.n : Int) - (t1 : Int))) := hd 31 (by kernel_rfl)
                have s22 : a.tmps[136]?.getD undef = (.bool false) := hd 22 (by kernel_rfl)
                refine obl_val rfl (wanted_some rfl rfl s22) ?_ rfl
                go_simp
              | 33, _ =>
                intro a W hc hd
                have s22 : a.tmps[136]?.getD undef = (.bool false) := hd 22 (by kernel_rfl)
                have s32 : a.tmps[146]?.getD undef = (.bool false) := hd 32 (by kernel_rfl)
                refine obl_val rfl (wanted_none rfl) ?_ rfl
                go_simp
              | 34, _ =>
                intro a W hc hd
                have s33 : a.tmps[147]?.getD undef = (.bool false) := hd 33 (by kernel_rfl)
                refine obl_val rfl (wanted_none rfl) ?_ rfl
                go_simp
              | 35, _ =>
                intro a W hc hd
                have z14 := hc.same 14 (by kernel_rfl)
                have s34 : a.tmps[148]?.getD undef = (.bool false) := hd 34 (by kernel_rfl)
                simp only [List.getElem?_toArray, List.getElem?_cons_succ, List.getElem?_cons_zero, Option.getD_some] at z14
                refine obl_val rfl (wanted_some rfl rfl s34) ?_ rfl
                go_simp
              | 36, _ =>
                intro a W hc hd
                have s35 : a.tmps[149]?.getD undef = (.pointer (some ⟨bj, 0, none⟩)) := hd 35 (by kernel_rfl)
                have s34 : a.tmps[148]?.getD undef = (.bool false) := hd 34 (by kernel_rfl)
                refine obl_call rfl (wanted_some rfl rfl s34) (by go_simp) (jdead_any (HX.out W ((Below.refl w20.heap.size w20).drew.trans hc.below)).jn) ?_
                rintro e w8 ⟨rfl, rfl⟩
                exact ⟨_, rfl, rfl, Below.refl _ _⟩
              | 37, _ =>
                intro a W hc hd
                have z17 := hc.same 17 (by kernel_rfl)
                have s34 : a.tmps[148]?.getD undef = (.bool false) := hd 34 (by kernel_rfl)
                simp only [List.getElem?_toArray, List.getElem?_cons_succ, List.getElem?_cons_zero, Option.getD_some] at z17
                refine obl_val rfl (wanted_some rfl rfl s34) ?_ rfl
                go_simp
              | 38, _ =>
                intro a W hc hd
                have s37 : a.tmps[151]?.getD undef = (.pointer (some ⟨b17, 7, none⟩)) := hd 37 (by kernel_rfl)
                have s34 : a.tmps[148]?.getD undef = (.bool false) := hd 34 (by kernel_rfl)
                obtain ⟨v0, v1, v2, v3, v4, v5, v6, v7, ev, hbx⟩ := (HX.out W ((Below.refl w20.heap.size w20).drew.trans hc.below)).box
                cases ev
                obtain ⟨y0, y1, y2, y3, y4, y5, y6, y7⟩ := hbx.cells
                refine obl_val rfl (wanted_some rfl rfl s34) ?_ rfl
                go_simp
              | 39, _ =>
                intro a W hc hd
                have s36 : a.tmps[150]?.getD undef = (.bool dd1) := hd 36 (by kernel_rfl)
                have s38 : a.tmps[152]?.getD undef = (.bool dd1) := hd 38 (by kernel_rfl)
                have s34 : a.tmps[148]?.getD undef = (.bool false) := hd 34 (by kernel_rfl)
                refine obl_val rfl (wanted_some rfl rfl s34) ?_ rfl
                go_simp
              | 40, _ =>
                intro a W hc hd
                have s34 : a.tmps[148]?.getD undef = (.bool false) := hd 34 (by kernel_rfl)
                have s39 : a.tmps[153]?.getD undef = (.bool false) := hd 39 (by kernel_rfl)
                refine obl_val rfl (wanted_none rfl) ?_ rfl
                go_simp
              | 41, _ =>
                intro a W hc hd
                have s40 : a.tmps[154]?.getD undef = (.bool false) := hd 40 (by kernel_rfl)
                refine obl_val rfl (wanted_none rfl) ?_ rfl
                go_simp
              | 42, _ =>
                intro a W hc hd
                have z11 := hc.same 11 (by kernel_rfl)
                have s41 : a.tmps[155]?.getD undef = (.bool false) := hd 41 (by kernel_rfl)
                simp only [List.getElem?_toArray, List.getElem?_cons_succ, List.getElem?_cons_zero, Option.getD_some] at z11
                refine obl_val rfl (wanted_some rfl rfl s41) ?_ rfl
                go_simp
              | 43, _ =>
                intro a W hc hd
                have z17 := hc.same 17 (by kernel_rfl)
                have s41 : a.tmps[155]?.getD undef = (.bool false) := hd 41 (by kernel_rfl)
                simp only [List.getElem?_toArray, List.getElem?_cons_succ, List.getElem?_cons_zero, Option.getD_some] at z17
                refine obl_val rfl (wanted_some rfl rfl s41) ?_ rfl
                go_simp
              | 44, _ =>
                intro a W hc hd
                have s43 : a.tmps[157]?.getD undef = (.pointer (some ⟨b17, 0, none⟩)) := hd 43 (by kernel_rfl)
                have s41 : a.tmps[155]?.getD undef = (.bool false) := hd 41 (by kernel_rfl)
                obtain ⟨v0, v1, v2, v3, v4, v5, v6, v7, ev, hbx⟩ := (HX.out W ((Below.refl w20.heap.size w20).drew.trans hc.below)).box
                cases ev
                obtain ⟨y0, y1, y2, y3, y4, y5, y6, y7⟩ := hbx.cells
                refine obl_val rfl (wanted_some rfl rfl s41) ?_ rfl
                go_simp
              | 45, _ =>
                intro a W hc hd
                have s42 : a.tmps[156]?.getD undef = (.pointer (some ⟨g, 0, none⟩)) := hd 42 (by kernel_rfl)
                have s44 : a.tmps[158]?.getD undef = (.agg #[.slice A9 d1.n c9, .int .i64 After9, .int .i64 Torn9, .bool d1.dead, .int .i64 (d1.writes : Int)]) := hd 44 (by kernel_rfl)
                have s41 : a.tmps[155]?.getD undef = (.bool false) := hd 41 (by kernel_rfl)
                refine obl_call rfl (wanted_some rfl rfl s41) (by go_simp) (like_any (HX.out W ((Below.refl w20.heap.size w20).drew.trans hc.below)).jn.dk (HX.out W ((Below.refl w20.heap.size w20).drew.trans hc.below)).hi (HRV.out W ((Below.refl w20.heap.size w20).drew.trans hc.below))) ?_
                rintro e w8 ⟨rfl, hb8⟩
                exact ⟨_, rfl, rfl, hb8⟩
              | 46, _ =>
                intro a W hc hd
                have s45 : a.tmps[159]?.getD undef = (.bool true) := hd 45 (by kernel_rfl)
                have s41 : a.tmps[155]?.getD undef = (.bool false) := hd 41 (by kernel_rfl)
                refine obl_val rfl (wanted_some rfl rfl s41) ?_ rfl
                go_simp
              | 47, _ =>
                intro a W hc hd
                have s41 : a.tmps[155]?.getD undef = (.bool false) := hd 41 (by kernel_rfl)
                have s46 : a.tmps[160]?.getD undef = (.bool false) := hd 46 (by kernel_rfl)
                refine obl_val rfl (wanted_none rfl) ?_ rfl
                go_simp
              | n + 48, h => exact absurd h (by simp)
            · skip
              have hfr := grow_frame hc [(114, (.int .i64 n1)), (115, (.int .i64 n1)), (116, (.bool false)), (117, (.bool false)), (118, (.int .i64 e1)), (119, (.int .i64 e1)), (120, (.bool false)), (121, (.bool false)), (122, (.bool false)), (123, (.pointer (some ⟨bj, 0, none⟩))), (124, (.int .i64 (m1 : Int))), (125, (.pointer (some ⟨b17, 5, none⟩))), (126, (.int .i64 (m1 : Int))), (127, (.bool false)), (128, (.bool false)), (129, (.bool false)), (130, (.pointer (some ⟨bj, 0, none⟩))), (131, (.int .i64 (t1 : Int))), (132, (.pointer (some ⟨b17, 6, none⟩))), (133, (.int .i64 (t1 : Int))), (134, (.bool false)), (135, (.bool false)), (136, (.bool false)), (137, (.pointer (some ⟨bj, 0, none⟩))), (138, (.int .i64 ((d1.n : Int) - (t1 : Int)))), (139, (.pointer (some ⟨b17, 0, none⟩))), (140, (.pointer (some ⟨b17, 0, none⟩))), (141, (.slice A9 d1.n c9)), (142, (.int .i64 (d1.n : Int))), (143, (.pointer (some ⟨b17, 6, none⟩))), (144, (.int .i64 (t1 : Int))), (145, (.int .i64 ((d1.n : Int) - (t1 : Int)))), (146, (.bool false)), (147, (.bool false)), (148, (.bool false)), (149, (.pointer (some ⟨bj, 0, none⟩))), (150, (.bool dd1)), (151, (.pointer (some ⟨b17, 7, none⟩))), (152, (.bool dd1)), (153, (.bool false)), (154, (.bool false)), (155, (.bool false)), (156, (.pointer (some ⟨g, 0, none⟩))), (157, (.pointer (some ⟨b17, 0, none⟩))), (158, (.agg #[.slice A9 d1.n c9, .int .i64 After9, .int .i64 Torn9, .bool d1.dead, .int .i64 (d1.writes : Int)])), (159, (.bool true)), (160, (.bool false)), (161, (.bool false))] (by kernel_rfl) (fun p hp => by
                  simp only [List.mem_cons, List.not_mem_nil, or_false] at hp
                  rcases hp with rfl | rfl | rfl | rfl | rfl | rfl | rfl | rfl | rfl | rfl | rfl | rfl | rfl | rfl | rfl | rfl | rfl | rfl | rfl | rfl | rfl | rfl | rfl | rfl | rfl | rfl | rfl | rfl | rfl | rfl | rfl | rfl | rfl | rfl | rfl | rfl | rfl | rfl | rfl | rfl | rfl | rfl | rfl | rfl | rfl | rfl | rfl | rfl
                  · exact hs 0 114 (by decide) (by kernel_rfl)
                  · exact hs 1 115 (by decide) (by kernel_rfl)
                  · exact hs 2 116 (by decide) (by kernel_rfl)
                  · exact hs 3 117 (by decide) (by kernel_rfl)
                  · exact hs 4 118 (by decide) (by kernel_rfl)
                  · exact hs 5 119 (by decide) (by kernel_rfl)
                  · exact hs 6 120 (by decide) (by kernel_rfl)
                  · exact hs 7 121 (by decide) (by kernel_rfl)
                  · exact hs 8 122 (by decide) (by kernel_rfl)
                  · exact hs 9 123 (by decide) (by kernel_rfl)
                  · exact hs 10 124 (by decide) (by kernel_rfl)
                  · exact hs 11 125 (by decide) (by kernel_rfl)
                  · exact hs 12 126 (by decide) (by kernel_rfl)
                  · exact hs 13 127 (by decide) (by kernel_rfl)
                  · exact hs 14 128 (by decide) (by kernel_rfl)
                  · exact hs 15 129 (by decide) (by kernel_rfl)
                  · exact hs 16 130 (by decide) (by kernel_rfl)
                  · exact hs 17 131 (by decide) (by kernel_rfl)
                  · exact hs 18 132 (by decide) (by kernel_rfl)
                  · exact hs 19 133 (by decide) (by kernel_rfl)
                  · exact hs 20 134 (by decide) (by kernel_rfl)
                  · exact hs 21 135 (by decide) (by kernel_rfl)
                  · exact hs 22 136 (by decide) (by kernel_rfl)
                  · exact hs 23 137 (by decide) (by kernel_rfl)
                  · exact hs 24 138 (by decide) (by kernel_rfl)
                  · exact hs 25 139 (by decide) (by kernel_rfl)
                  · exact hs 26 140 (by decide) (by kernel_rfl)
                  · exact hs 27 141 (by decide) (by kernel_rfl)
                  · exact hs 28 142 (by decide) (by kernel_rfl)
                  · exact hs 29 143 (by decide) (by kernel_rfl)
                  · exact hs 30 144 (by decide) (by kernel_rfl)
                  · exact hs 31 145 (by decide) (by kernel_rfl)
                  · exact hs 32 146 (by decide) (by kernel_rfl)
                  · exact hs 33 147 (by decide) (by kernel_rfl)
                  · exact hs 34 148 (by decide) (by kernel_rfl)
                  · exact hs 35 149 (by decide) (by kernel_rfl)
                  · exact hs 36 150 (by decide) (by kernel_rfl)
                  · exact hs 37 151 (by decide) (by kernel_rfl)
                  · exact hs 38 152 (by decide) (by kernel_rfl)
                  · exact hs 39 153 (by decide) (by kernel_rfl)
                  · exact hs 40 154 (by decide) (by kernel_rfl)
                  · exact hs 41 155 (by decide) (by kernel_rfl)
                  · exact hs 42 156 (by decide) (by kernel_rfl)
                  · exact hs 43 157 (by decide) (by kernel_rfl)
                  · exact hs 44 158 (by decide) (by kernel_rfl)
                  · exact hs 45 159 (by decide) (by kernel_rfl)
                  · exact hs 46 160 (by decide) (by kernel_rfl)
                  · exact hs 47 161 (by decide) (by kernel_rfl)
                  )
              simp only [List.range, List.range.loop, List.size_toArray, List.length_cons, List.length_nil, List.map_cons, List.map_nil, List.lookup_cons, List.lookup_nil, Nat.reduceAdd, Nat.reduceBEq, Option.getD_some, Option.getD_none, List.getElem?_toArray, List.getElem?_cons_succ, List.getElem?_cons_zero] at hfr
              subst hfr
            -- end 20
              have hb20 : Below w20.heap.size w20 w21 := (Below.refl w20.heap.size w20).drew.trans hc.below
              have HJ21 := Lib.hid (HX.out w21 hb20)
              clear hb20 hc hs
              go_wp2
              go_roundg (bs.length - (k + 1))
              case measure => have := HG.out; omega
              case rel => exact ⟨k + 1, _, _, _, rfl, by omega, by simp, HJ21.out, HOK1.out, by have := HFA.out.2.2.1; simp only; omega, by have := HFA.out.2.1; simp only; omega⟩
          · obtain rfl : k = bs.length := by omega
            have HB := Lib.hid HJM.out.below
            go_wp2_with (go_at_call 75; (with_reducible refine (lives12_any _).mono ?_); rintro e w6 ⟨rfl, hb6⟩)
            go_ret
            exact ⟨rfl, HB.out.trans (hb6.mono HB.out.size)⟩
      · obtain ⟨Z11, hm11⟩ := HP10.out.wrote hd11 hk11 (fun b h => .inl h)
        have hlt12 : b12 < wA.heap.size := by obtain ⟨a0, a1, a2, a3, a4, _, hx⟩ := HP10.out.box; exact lt_of_block hx
        obtain ⟨x0, x1, x2, x3, x4, f0, f1, f2, f3, f4⟩ := hm11.box.cells
        have hro := HROP.out _ _ _ hm11.rv
        have HM11 := Lib.hid hm11
        have hs11 := hk11.size
        have e2 : (ef == 0) = false := by rw [beq_eq_false_iff_ne]; exact h0
        have e3 : (ef != 0) = true := by simp [e2, bne]
        have H0 := Lib.hid h0
        clear hd11 hk11 hm11 HP10 h0
        go_wp2_with fail
        refine hro.mono ?_
        rintro e w12 ⟨hb12, Av, nv, cv, v1, v2, v3, v4, v5, v6, v7, vl, Au, nu, cu, u1, u2, u3, u4, rfl, hr12, hrj, hol⟩
        rw [if_neg H0.out] at hol
        obtain ⟨Ab, cb, rfl, hcb, hmb⟩ := hol.byts.form
        have hm12 := HM11.out.grow hb12
        have hp12 := hm12.put hr12
        obtain ⟨_, hkk⟩ := hm12.box.set (.slice Au nu cu) (.int .i64 u1) (.int .i64 u2) (.bool u3) (.int .i64 u4)
        have hal : Below (set5 w12 b12 (.slice Au nu cu) (.int .i64 u1) (.int .i64 u2) (.bool u3) (.int .i64 u4)).heap.size (set5 w12 b12 (.slice Au nu cu) (.int .i64 u1) (.int .i64 u2) (.bool u3) (.int .i64 u4)) ((set5 w12 b12 (.slice Au nu cu) (.int .i64 u1) (.int .i64 u2) (.bool u3) (.int .i64 u4)).alloc (.cells #[.slice Av nv cv, .int .i64 v1, .int .i64 v2, .bool v3, .int .i64 v4, .int .i64 v5, .int .i64 v6, .bool v7] 123)) := (Below.refl _ _).alloc (Nat.le_refl _) _
        have hp13 := hp12.grow hal
        have hsz : (set5 w12 b12 (.slice Au nu cu) (.int .i64 u1) (.int .i64 u2) (.bool u3) (.int .i64 u4)).heap.size = w12.heap.size := by simp
        obtain ⟨x0, x1, x2, x3, x4, f0, f1, f2, f3, f4⟩ := hm12.box.cells
        have hs12 := hb12.size
        have hn12 : b12 ≠ w12.heap.size := by omega
        have hn21 : w12.heap.size ≠ b12 := by omega
        have hl12 : b12 < w12.heap.size := by omega
        clear hb12 hr12 hrj hkk hro hp12 hm12 hal hsz
        go_upto_region 10 with fail
        generalize World.alloc (World.setCell _ _ _) _ = w13 at hp13 ⊢
        have hb13 : Byts w13 w13.heap.size (.slice Ab ([] : List (List UInt8)).length cb) [] := ⟨Ab, cb, rfl, hcb, hmb, fun h => absurd h (by simp)⟩
        have ha13 : Byts w13 w13.heap.size (.slice none ([] : List (List UInt8)).length 0) [] := ⟨none, 0, rfl, Nat.zero_le _, by unfold maxLen; omega, fun h => absurd h (by simp)⟩
        have hsa := lsame12_any ha13 hb13 (by simp)
        rw [decide_eq_true rfl] at hsa
        simp only [List.length_nil] at hsa
        obtain ⟨x0, x1, x2, x3, x4, f0, f1, f2, f3, f4⟩ := hp13.box.cells
        have HP13 := Lib.hid hp13
        clear hp13 ha13 hb13 x0 x1 x2 x3 x4 f0 f1 f2 f3 f4 hol
        simp only [List.length_nil] at hcb hmb ⊢
        go_wp2_with (first
          | (go_at_call 83; (with_reducible refine hsa.mono ?_); rintro e w14 ⟨rfl, hb14⟩
             have hp14 := HP13.out.grow hb14
             obtain ⟨x0, x1, x2, x3, x4, f0, f1, f2, f3, f4⟩ := hp14.box.cells
             have hlk := like_any hp14.dk (fun b hb => (hp14.kd b hb).lt) hp14.rv
             have HP14 := Lib.hid hp14
             clear hb14 hp14 hsa)
          | (go_at_call 48; (with_reducible refine hlk.mono ?_); rintro e w15 ⟨rfl, hb15⟩
             have HB15 := Lib.hid (HP14.out.grow hb15).below
             clear hb15 hlk)
          | (go_at_call 75; (with_reducible refine (lives12_any _).mono ?_); rintro e w6 ⟨rfl, hb6⟩))
        go_ret
        exact ⟨rfl, HB15.out.trans (hb6.mono HB15.out.size)⟩
end Go.Proofs.Ytmcjefdnkcpghaa
