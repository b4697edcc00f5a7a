/- THE WALK OF JournalCrash. -/
import Derived.Test.YtmcjefdnkcpghaaJoKz
import Derived.Test.YtmcjefdnkcpghaaCuAz
import Derived.Deep.CutBlock
namespace Go.Proofs.Ytmcjefdnkcpghaa
open Go.RowKit
set_option maxRecDepth 100000 in
set_option maxHeartbeats 8000000 in
theorem crash12_any {w : World} (many : Int) (_hmany : -9223372036854775808 ≤ many ∧ many ≤ 9223372036854775807) (lv : Value) (ls : List (List UInt8)) (hs : Byts w w.heap.size lv ls) (fv : Value) (fo : Int × Int) (hfo : CutOk fo ∧ fv = .agg #[.int .i64 fo.1, .int .i64 fo.2]) (cv : Value) (cs : List (Int × Int)) (hcs : Cuts w w.heap.size cv cs) :
    Calls Try.prog 21 #[.int .i64 many, lv, fv, cv] w (LawPost11 w) := by
  obtain ⟨hfo, rfl⟩ := hfo
  obtain ⟨fa, ft⟩ := fo
  have hfa2 : fa ≤ 9223372036854775807 := hfo.a.2
  clear hfo
  obtain ⟨A, c, rfl, hc, hm⟩ := hs.form
  unfold maxLen at hm
  obtain ⟨Ac, cc, rfl, hcc, hmc⟩ := hcs.form
  have hal := (Below.refl w.heap.size w).alloc (Nat.le_refl _) (.cells #[.int .i64 fa, .int .i64 ft] 130)
  have hbx := heap_alloc_new w (.cells #[.int .i64 fa, .int .i64 ft] 130 (0, 0))
  have hs1 := (hs.below hal).heap
  have hcs1 := (hcs.below hal).more hal.size
  clear hs hcs
  go_enter Try.func21, Try.ntmps21
  go_upto_region 1 with fail
  generalize World.alloc w _ = w1 at hal hbx hs1 hcs1 ⊢
  have hli := light12_any hs1
  have HAL := Lib.hid hal
  have HS := Lib.hid hs1
  have HC := Lib.hid hcs1
  have HBX := Lib.hid (fun (W : World) (hW : Below w1.heap.size w1 W) => (show W.cell? ⟨w.heap.size, 0, none⟩ = some (.int .i64 fa) ∧ W.cell? ⟨w.heap.size, 1, none⟩ = some (.int .i64 ft) from by
    have hb := (hW.block _ (lt_of_block hbx)).trans hbx
    exact ⟨cells_of hb 0 _ rfl, cells_of hb 1 _ rfl⟩))
  clear hal hs1 hcs1 hbx
  by_cases h1 : many < 1
  · have e1 : decide (many < 1) = true := decide_eq_true h1
    clear hli
    go_wp2_with (go_at_call 75; (with_reducible refine (lives12_any _).mono ?_); rintro e w2 ⟨rfl, hb2⟩)
    go_ret
    exact ⟨rfl, HAL.out.trans (hb2.mono HAL.out.size)⟩
  have e1 : decide (many < 1) = false := decide_eq_false h1
  by_cases h2 : 60 < many
  · have e2 : decide (60 < many) = true := decide_eq_true h2
    clear hli
    go_wp2_with (go_at_call 75; (with_reducible refine (lives12_any _).mono ?_); rintro e w2 ⟨rfl, hb2⟩)
    go_ret
    exact ⟨rfl, HAL.out.trans (hb2.mono HAL.out.size)⟩
  have e2 : decide (60 < many) = false := decide_eq_false h2
  cases hl : light12B ls with
  | false =>
    rw [hl] at hli
    go_wp2_with (first
      | (go_at_call 74; (with_reducible refine hli.mono ?_); rintro e w3 ⟨rfl, hb3⟩)
      | (go_at_call 75; (with_reducible refine (lives12_any _).mono ?_); rintro e w2 ⟨rfl, hb2⟩))
    go_ret
    exact ⟨rfl, HAL.out.trans ((hb3.trans (hb2.mono hb3.size)).mono HAL.out.size)⟩
  | true =>
  rw [hl] at hli
  by_cases h3 : 10 < cs.length
  · have e3 : decide ((10 : Int) < (cs.length : Int)) = true := decide_eq_true (by omega)
    clear hl
    go_wp2_with (first
      | (go_at_call 74; (with_reducible refine hli.mono ?_); rintro e w3 ⟨rfl, hb3⟩)
      | (go_at_call 75; (with_reducible refine (lives12_any _).mono ?_); rintro e w2 ⟨rfl, hb2⟩))
    go_ret
    exact ⟨rfl, HAL.out.trans ((hb3.trans (hb2.mono hb3.size)).mono HAL.out.size)⟩
  have e3 : decide ((10 : Int) < (cs.length : Int)) = false := decide_eq_false (by omega)
  obtain ⟨hl1, hl2⟩ := light12_yes hl
  obtain ⟨N, rfl⟩ : ∃ N : Nat, many = (N : Int) := ⟨many.toNat, by omega⟩
  have HNEW := Lib.hid (fun W => new_any N (by omega) (by omega) W)
  have HL1 := Lib.hid hl1
  have hnf := new_fused N (by omega) (by omega) fa ft hfa2
  have HNF := Lib.hid hnf
  clear hl hl1 hnf
  go_upto_block 0 with (first
    | (go_at_call 74; (with_reducible refine hli.mono ?_); rintro e w2 ⟨rfl, hb2⟩
       clear hli)
    | (go_at_call 34; (with_reducible refine (HNEW.out _).mono ?_); rintro e w3 ⟨g, rfl, hd3, hb3⟩
       have hop := jopen_new (w0 := w1) (N := N) (by omega) (by omega) ⟨hd3, fun b hb => Nat.le_trans hb2.size hb.1, fun b hb => hb.2, hb2.trans (hb3.mono hb2.size)⟩
       clear hd3 hb3)
    | (go_at_call 76; (with_reducible refine hop.mono ?_); rintro e w4 ⟨bj, A4, c4, rfl, hq4⟩
       obtain ⟨c0, c1⟩ := HBX.out _ hq4.below
       have hfu := fuse_any hq4.jn.dk fa ft hfa2
       have HQ4 := Lib.hid hq4
       clear hop hq4)
    | (go_at_call 37; (with_reducible refine hfu.mono ?_); rintro e w5 ⟨rfl, hd5, hk5⟩
       obtain ⟨Z5, hj5⟩ := HQ4.out.fused hd5 hk5
       have HJ5 := Lib.hid hj5
       clear hfu hd5 hk5 hj5 c0 c1))
  generalize hd5 : ((Dv.new N).fuses fa ft).1 = d5 at *
  clear hd5 HQ4 HNEW HBX
  go_cut [13, 14, 16, 17, 18] from 72 (fun x13 x14 x16 x17 x18 wc => ∃ d Z Aa ac t b, Behind w1 g d Z x13 x14 Aa ac t b wc)
  case first =>
    go_wp2_with fail
    go_loopg [13, 14, 16, 17, 18, 72] ls.length (fun gk x13 x14 x16 x17 x18 x72 wr => ∃ (k : Nat) (j : Jv) (Z : Nat → Prop) (ac : List (List UInt8)), gk = ls.length - k ∧ k ≤ ls.length ∧ x72 = .int .i64 (k : Int) ∧ x14 = .slice none 0 0 ∧ Jc w1 bj g j Z wr ∧ OwO wr w1.heap.size x13 ac ∧ Stands j.d ac j.tail ∧ (∀ i, j.tail ≤ i → i < j.d.n → page j.d.L i = z64) ∧ j.many = ac.length ∧ j.d.dead = false ∧ j.dead = false ∧ j.ok ∧ ac.length ≤ k ∧ j.d.writes ≤ k * 1000)
    case atStart => exact ⟨0, _, Z5, [], rfl, Nat.zero_le _, rfl, rfl, HJ5.out, OwO.nil_ _ _, HNF.out.1, HNF.out.2.1, rfl, HNF.out.2.2.1, rfl, ⟨Nat.zero_le _, Nat.zero_le _⟩, Nat.zero_le _, by have := HNF.out.2.2.2; simp only; omega⟩
    case round =>
      obtain ⟨k, j, Z, ac, hgk, hk, rfl, rfl, hjc, hot, hst, hbl, hmany, hdd, hjd, hok, hack, hwr⟩ := hrel
      have HG := Lib.hid hgk
      have HJ := Lib.hid hjc
      have HO := Lib.hid hot
      have HST := Lib.hid hst
      have HBL := Lib.hid hbl
      have HMY := Lib.hid hmany
      have HDD := Lib.hid hdd
      have HJD := Lib.hid hjd
      have HOK := Lib.hid hok
      clear hgk hjc hot hst hbl hmany hdd hjd hok HJ5 HNF
      by_cases h : k < ls.length
      · obtain ⟨ad0, rfl⟩ : ∃ ad, A = some ad := by obtain ⟨ad0, u0, e, _⟩ := (HS.out.below HJ.out.below).atv k h; exact ⟨ad0, e⟩
        obtain ⟨A1, n1, c1, hcell, hn1, hc1, hm1, hby⟩ := (HS.out.below HJ.out.below).at_ k h
        have hbl := HL1.out _ (List.getElem_mem h)
        generalize ls[k] = b at *
        subst hn1
        have i1 : (0 : Int) ≤ (k : Int) := by omega
        have i2 : (k : Int) < (ls.length : Int) := by omega
        have i3 : IntKind.i64.wrap ((k : Int) + 1) = (k : Int) + 1 := by rw [IntKind.wrap_i64]; omega
        have HWW := Lib.hid (show j.d.writes + 5000 ≤ 1000000000 by omega)
        have hap := append_any HJ.out.jn HOK.out HJ.out.hi hby (by omega) HWW.out
        have hca := crash_append (b := b) HOK.out HST.out HBL.out HMY.out HDD.out HJD.out (by omega) HWW.out
        have HBY := Lib.hid hby
        clear hby
        rcases hca with ⟨e, ha, he⟩ | ⟨d', t', ha, h1, h2, h3, h4, h5, h6⟩ | ⟨d', A', t', ha, h1, h2, h3, h4, h5⟩
        · rw [ha] at hap
          unfold AppendPost at hap
          simp only at hap
          have e1 : (e == 32) = false := by rcases he with rfl | rfl <;> decide
          have e2 : (e != 0) = true := by rcases he with rfl | rfl <;> decide
          clear ha he
          go_wp2_with fail
          refine hap.mono ?_
          rintro e' w7 ⟨rfl, hj7, hk7⟩
          obtain ⟨Z7, hjc7⟩ := HJ.out.app hj7 hk7
          have HJ7 := Lib.hid hjc7
          have HO7 := Lib.hid (HO.out.app HJ.out hk7)
          clear hap hj7 hk7 hjc7
          go_wp2
          go_roundg (ls.length - (k + 1))
          case measure => have := HG.out; omega
          case rel => exact ⟨k + 1, j, Z7, ac, rfl, by omega, by simp, rfl, HJ7.out, HO7.out, HST.out, HBL.out, HMY.out, HDD.out, HJD.out, HOK.out, by omega, by omega⟩
        · rw [ha] at hap
          unfold AppendPost at hap
          simp only at hap
          have hmy := HMY.out
          have H1 := Lib.hid h1
          have H2 := Lib.hid h2
          have H3 := Lib.hid h3
          have H5 := Lib.hid h5
          have H6 := Lib.hid h6
          have e3 : ((j.many : Int) + 1 == ((ac.length + 1 : Nat) : Int)) = true := by rw [beq_iff_eq]; omega
          clear ha h1 h2 h3 h4 h5 h6 hmy
          go_wp2_with fail
          refine hap.mono ?_
          rintro e' w7 ⟨rfl, hj7, hk7⟩
          obtain ⟨Z7, hjc7⟩ := HJ.out.app hj7 hk7
          have hb7 := HBY.out.below (hk7.toBelow (B := w1.heap.size) HJ.out.below.size (fun b hb => ⟨fun hz => by have := HJ.out.lo b hz; omega, fun e => by have := HJ.out.lob; omega⟩))
          have hs7 := hjc7.below.size
          have HJ7 := Lib.hid hjc7
          have HO7 := Lib.hid (HO.out.app HJ.out hk7)
          have HB7 := Lib.hid hb7
          clear hap hj7 hk7 hjc7 hb7
          go_wp2_with ((with_reducible show wpList _ _ _ (⟨some 90, _, _, _, _, _⟩ :: _) _ _); go_must (refine wpList_append_old rfl (.tmp 87) (.tmp 89) rfl rfl HO7.out A1 _ c1 HB7.out rfl (by omega) hs7 ?_); intro v' w8 ho8 hg8 hb8; have hjc8 := HJ7.out.grown hg8 hb8 (by obtain ⟨ts, o1, _, _⟩ := HO7.out; exact o1.kind); obtain ⟨A8, c8, rfl⟩ := ho8.form; rw [List.length_append, List.length_singleton] at ho8 ⊢; have HO8 := Lib.hid ho8; have HJ8 := Lib.hid hjc8; clear ho8 hg8 hb8 hjc8)
          go_roundg (ls.length - (k + 1))
          case measure => have := HG.out; omega
          case rel => exact ⟨k + 1, _, Z7, ac ++ [b], rfl, by omega, by simp, rfl, HJ8.out, HO8.out, H1.out, H2.out, by rw [List.length_append, List.length_singleton]; have := HMY.out; simp only; omega, H3.out, rfl, ⟨H6.out, by have := HMY.out; simp only; omega⟩, by rw [List.length_append, List.length_singleton]; omega, by have := H5.out; simp only; omega⟩
        · rw [ha] at hap
          unfold AppendPost at hap
          simp only at hap
          have H1 := Lib.hid h1
          have H2 := Lib.hid h2
          have H3 := Lib.hid h3
          have H5 := Lib.hid h5
          clear ha h1 h2 h3 h4 h5
          go_wp2_with fail
          refine hap.mono ?_
          rintro e' w7 ⟨rfl, hj7, hk7⟩
          obtain ⟨Z7, hjc7⟩ := HJ.out.app hj7 hk7
          have HJ7 := Lib.hid hjc7
          have HO7 := Lib.hid (HO.out.app HJ.out hk7)
          clear hap hj7 hk7 hjc7
          go_wp2
          go_meet
          exact ⟨d', Z7, A', ac, t', b, HJ7.out.disk, HO7.out, by omega, HBY.out.keep (fun p hp => (HJ.out.below.cell hp).symm), H2.out.imp id (fun h => ⟨h, H1.out⟩), H3.out, by have := H5.out; omega⟩
      · obtain rfl : k = ls.length := by omega
        go_wp2
        go_meet
        exact ⟨j.d, Z, ac, ac, j.tail, [], HJ.out.disk, HO.out, by omega, ⟨none, 0, rfl, Nat.zero_le _, by unfold maxLen; omega, fun h => absurd h (by simp)⟩, .inl rfl, HST.out, by omega⟩
  case rest =>
    obtain ⟨d6, Z6, Aa, ac, t, b, hbe⟩ := hcut
    have HBE := Lib.hid hbe
    have hacl := hbe.len
    clear hbe HJ5 HNF
    go_wp2
    go_loopg [20, 98] cs.length (fun gk x20 x98 wr => ∃ (k : Nat) (d : Dv) (Z : Nat → Prop), gk = cs.length - k ∧ k ≤ cs.length ∧ x98 = .int .i64 (k : Int) ∧ Dc w1 g d Z wr ∧ OwO wr w1.heap.size u13 ac ∧ Stands d Aa t ∧ d.writes ≤ 40000 + k * 4096)
    case atStart => exact ⟨0, d6, Z6, rfl, Nat.zero_le _, rfl, HBE.out.dc, HBE.out.ow, HBE.out.st, HBE.out.wr⟩
    case round =>
      obtain ⟨k, d, Z, hgk, hk, rfl, hdc, hot, hst, hwr⟩ := hrel
      have HG := Lib.hid hgk
      have HDC := Lib.hid hdc
      have HO := Lib.hid hot
      have HST := Lib.hid hst
      have hpw := hst.power
      clear hgk hdc hot hst
      by_cases h : k < cs.length
      · obtain ⟨adc, rfl, hoc, c0, c1⟩ := (HC.out.below HDC.out.below).at_ k h
        generalize cs[k] = o at *
        obtain ⟨oa, ot⟩ := o
        have hoa : oa ≤ 9223372036854775807 := hoc.a.2
        simp only at c0 c1
        have i1 : (0 : Int) ≤ (k : Int) := by omega
        have i2 : (k : Int) < (cs.length : Int) := by omega
        have i3 : IntKind.i64.wrap ((k : Int) + 1) = (k : Int) + 1 := by rw [IntKind.wrap_i64]; omega
        have hal2 : Below wr.heap.size wr (wr.alloc (.cells #[.int .i64 oa, .int .i64 ot] 130)) := (Below.refl _ _).alloc (Nat.le_refl _) _
        have hbx2 := heap_alloc_new wr (.cells #[.int .i64 oa, .int .i64 ot] 130 (0, 0))
        have hdc2 := HDC.out.grow hal2
        have hpo := power_any hdc2.dk
        unfold DkPost at hpo
        have HZ2 := Lib.hid (show ¬ Z wr.heap.size from fun hz => by have := HDC.out.hi _ hz; omega)
        have HDC2 := Lib.hid hdc2
        have HBX2 := Lib.hid hbx2
        have HO2 := Lib.hid (HO.out.below hal2 HDC.out.below.size)
        have hfs := hpw.fuses oa ot hoa
        have hfd := fuses_dead2 { d with fuse := none, dead := false } oa ot
        have hfw := fuses_writes { d with fuse := none, dead := false } oa ot
        have hfu : ∀ W Z, Dk W Z g { d with fuse := none, dead := false } → Calls Try.prog 37 #[.pointer (some ⟨g, 0, none⟩), .int .i64 oa, .int .i64 ot] W (FusePost W Z g (({ d with fuse := none, dead := false } : Dv).fuses oa ot).1 (({ d with fuse := none, dead := false } : Dv).fuses oa ot).2) := fun W Z h => fuse_any h oa ot hoa
        simp only at hfd hfw
        generalize ({ d with fuse := none, dead := false } : Dv).fuses oa ot = q at *
        obtain ⟨d8, r8⟩ := q
        simp only at hfs hfd hfw hfu
        have hop : ∀ W Z, Dk W Z g d8 → (∀ b, Z b → b < W.heap.size) → Calls Try.prog 76 #[.pointer (some ⟨g, 0, none⟩)] W fun e w' => ∃ p v e', e = .returned (.tuple #[p, v, .int .i64 e']) ∧ Dk w' Z g (wipeR d8 (t : Int)).1 ∧ Kept (fun b => ¬ Z b) W w' := fun W Z h1 h2 => jopen_dk h1 h2 hfd.1 (by omega) hfs
        obtain ⟨hs9, _, hw9, _⟩ := hfs.wipe hfd.1 (by omega)
        generalize (wipeR d8 (t : Int)).1 = d9 at *
        have HFU := Lib.hid hfu
        have HOP := Lib.hid hop
        have HS9 := Lib.hid hs9
        have HW9 := Lib.hid (show d9.writes ≤ 40000 + (k + 1) * 4096 by omega)
        clear hfs hfd hfw hfu hop hs9 hw9 hal2 hbx2 hdc2 hpw hoc
        go_wp2_with (first
          | (go_at_call 45; (with_reducible refine hpo.mono ?_); rintro e w7 ⟨rfl, hd7, hk7⟩
             obtain ⟨Z7, hdc7⟩ := HDC2.out.wrote hd7 hk7 (fun b h => .inl h)
             have hbx7 := hk7.heap HBX2.out HZ2.out
             have y0 := cells_of hbx7 0 _ rfl
             have y1 := cells_of hbx7 1 _ rfl
             have hfu7 := HFU.out _ _ hdc7.dk
             unfold FusePost at hfu7
             have HO7 := Lib.hid (HO2.out.wrote HDC2.out hk7)
             have HDC7 := Lib.hid hdc7
             clear hpo hd7 hk7 hdc7 hbx7)
          | (go_at_call 37; (with_reducible refine hfu7.mono ?_); rintro e w8 ⟨rfl, hd8, hk8⟩
             obtain ⟨Z8, hdc8⟩ := HDC7.out.wrote hd8 hk8 (fun b h => h.imp id (fun h => h.1))
             have hop8 := HOP.out _ _ hdc8.dk hdc8.hi
             have HO8 := Lib.hid (HO7.out.wrote HDC7.out hk8)
             have HDC8 := Lib.hid hdc8
             clear hfu7 hd8 hk8 hdc8 y0 y1)
          | (go_at_call 76; (with_reducible refine hop8.mono ?_); rintro e w9 ⟨p9, v9, e9, rfl, hd9, hk9⟩
             obtain ⟨Z9, hdc9⟩ := HDC8.out.wrote hd9 hk9 (fun b h => .inl h)
             have HO9 := Lib.hid (HO8.out.wrote HDC8.out hk9)
             have HDC9 := Lib.hid hdc9
             clear hop8 hd9 hk9 hdc9))
        go_roundg (cs.length - (k + 1))
        case measure => have := HG.out; omega
        case rel => exact ⟨k + 1, d9, Z9, rfl, by omega, by simp, HDC9.out, HO9.out, HS9.out, HW9.out⟩
      · obtain rfl : k = cs.length := by omega
        have hpo := power_any HDC.out.dk
        unfold DkPost at hpo
        have hop : ∀ W Z, Dk W Z g { d with fuse := none, dead := false } → (∀ b, Z b → b < W.heap.size) → _ := fun W Z h1 h2 => jopen_last h1 h2 rfl rfl (show d.writes + 5000 ≤ 1000000000 by omega) hpw
        have HOP := Lib.hid hop
        clear hop hpw
        go_wp2_with fail
        refine hpo.mono ?_
        rintro e w7 ⟨rfl, hd7, hk7⟩
        obtain ⟨Z7, hdc7⟩ := HDC.out.wrote hd7 hk7 (fun b h => .inl h)
        have hop7 := HOP.out _ _ hdc7.dk hdc7.hi
        have HO7 := Lib.hid (HO.out.wrote HDC.out hk7)
        have HNZ := Lib.hid (show ∀ g, u13.ownBlock = some g → ¬ Z7 g from fun g hg hz => by
          obtain ⟨ts, o1, _⟩ := HO7.out
          obtain ⟨cs', fr', hh⟩ := o1.kind g hg
          exact (hdc7.kd _ hz).ne hh (by decide) (by decide) (by decide) rfl)
        have HDC7 := Lib.hid hdc7
        clear hpo hd7 hk7 hdc7
        go_wp2_with fail
        refine hop7.mono ?_
        rintro e w8 ⟨bk, v8, d8, rfl, hj8, ho8, hk8, hst8, hon8, hw8, hz8⟩
        have h9 : d8.writes ≤ d.writes + 4096 := hw8
        have hwr8 := swrites_any hj8.dk
        have hop8 := jopen_again (d := d8) hj8.dk (fun b hb => Nat.lt_of_lt_of_le (HDC7.out.hi b hb) hk8.size) hon8.dead (by omega) hst8 hz8
        have hlen8 := hst8.len
        have HO8 := Lib.hid (HO7.out.wrote HDC7.out hk8)
        have HJ8 := Lib.hid hj8
        obtain ⟨A8, c8, rfl, _, _⟩ := ho8.byts.form
        have HG8 := Lib.hid ho8
        have HBL8 := Lib.hid (HDC7.out.below.trans (hk8.toBelow (B := w1.heap.size) HDC7.out.below.size (fun b hb hz => by have := HDC7.out.lo b hz; omega)))
        clear hop7 hj8 ho8 hk8 hst8 hon8 hz8 hw8 h9
        go_wp2_with (go_at_call 38; (with_reducible refine hwr8.mono ?_); rintro e w8' ⟨rfl, rfl⟩)
        clear hwr8
        refine hop8.mono ?_
        rintro e w9 ⟨bm, v9, rfl, hj9, ho9, hk9⟩
        have hwr9 := swrites_any hj9.dk
        have hg9 := HG8.out.kept hk9 (fun b hb hz => by have := HDC7.out.hi b hz; have h2 : w7.heap.size ≤ b := hb; omega)
        obtain ⟨A9, c9, rfl, _, _⟩ := ho9.byts.form
        have hsa := lsame12_any hg9.byts ho9.byts (by omega)
        rw [decide_eq_true rfl] at hsa
        have HJ9 := Lib.hid hj9
        have HK9 := Lib.hid (show Jn w9 Z7 bk g ⟨d8, Aa.length, t, false⟩ from ⟨hk9.heap HJ8.out.hd HJ8.out.nz, hj9.dk, HJ8.out.nz⟩)
        have HG9 := Lib.hid hg9.byts
        have HBL9 := Lib.hid (HBL8.out.trans (hk9.toBelow (B := w1.heap.size) HBL8.out.size (fun b hb hz => by have := HDC7.out.lo b hz; omega)))
        have HO9 := Lib.hid (HO8.out.kept hk9 (hk9.toBelow (B := w1.heap.size) HBL8.out.size (fun b hb hz => by have := HDC7.out.lo b hz; omega)) (fun g _ _ hg _ => HNZ.out g hg))
        clear hop8 hj9 ho9 hk9 hg9
        go_upto_region 34 with (first
          | (go_at_call 38; (with_reducible refine hwr9.mono ?_); rintro e w9' ⟨rfl, rfl⟩
             clear hwr9)
          | (go_at_call 83; (with_reducible refine hsa.mono ?_); rintro e w10 ⟨rfl, hb10⟩
             have htm := jtail_any (HJ9.out.below hb10)
             have htk := jtail_any (HK9.out.below hb10)
             have HB10 := Lib.hid hb10
             clear hsa hb10)
          | (go_at_call 79; (with_reducible refine htm.mono ?_); rintro e w10' ⟨rfl, rfl⟩
             clear htm)
          | (go_at_call 79; (with_reducible refine htk.mono ?_); rintro e w10' ⟨rfl, rfl⟩
             clear htk))
        have hbl10 : Below w.heap.size w w10 := HAL.out.trans ((HBL9.out.trans (HB10.out.mono HBL9.out.size)).mono HAL.out.size)
        have hg10 := HG9.out.below HB10.out
        have ho10 := (HO9.out.below HB10.out HBL9.out.size).byts (Nat.le_trans HBL9.out.size HB10.out.size)
        have hbb := HBE.out.by_.below (HBL9.out.trans (HB10.out.mono HBL9.out.size))
        have hon := HBE.out.on
        have hw910 := HB10.out.size
        have hw110 := Nat.le_trans HBL9.out.size HB10.out.size
        obtain ⟨A13, c13, rfl, hc13, hm13⟩ := ho10.form
        unfold maxLen at hm13
        have i4 : IntKind.i64.wrap ((ac.length : Int) + 1) = (ac.length : Int) + 1 := by rw [IntKind.wrap_i64]; omega
        clear HB10 HG9 HBL9 HO9 HJ9 HK9 HG8 HJ8 HO8 HBL8 HO7 HNZ HDC7 HBE HOP HO HST HDC HG
        rcases hon with hon | ⟨hon, hb1⟩
        · obtain rfl := hon
          have f1 : ((Aa.length : Int) == (Aa.length : Int) + 1) = false := by rw [beq_eq_false_iff_ne]; omega
          have hsa2 := lsame12_any hg10 ho10 (by omega)
          rw [decide_eq_true rfl] at hsa2
          clear hg10 ho10 hbb
          have HBL := Lib.hid hbl10
          clear hbl10
          go_wp2_with (first
            | (go_at_call 83; (with_reducible refine hsa2.mono ?_); rintro e w11 ⟨rfl, hb11⟩)
            | (go_at_call 75; (with_reducible refine (lives12_any _).mono ?_); rintro e w12 ⟨rfl, hb12⟩))
          go_ret
          exact ⟨rfl, HBL.out.trans ((hb11.trans (hb12.mono hb11.size)).mono HBL.out.size)⟩
        · subst hon
          simp only [List.length_append, List.length_singleton] at hlen8 ⊢
          obtain ⟨Ab, cb, rfl, hcb, hmb, hrb⟩ := id hbb
          obtain ⟨adb, rfl, _⟩ := hrb (by omega)
          unfold maxLen at hmb
          have hgf := hg10.form
          rw [List.length_append, List.length_singleton] at hgf hg10
          obtain ⟨A', c', hv', hc8, hm8⟩ := hgf
          cases hv'
          unfold maxLen at hm8
          have f1 : ((ac.length : Int) + 1 == (ac.length : Int) + 1) = true := beq_self_eq_true _
          obtain ⟨ad8, rfl⟩ : ∃ ad, A8 = some ad := by
            obtain ⟨ad, u, e, _⟩ := (show Byts w10 _ (.slice A8 (ac ++ [b]).length c8) (ac ++ [b]) by rw [List.length_append, List.length_singleton]; exact hg10).atv ac.length (by simp)
            exact ⟨ad, e⟩
          obtain ⟨ad', u11, hA', hadB, hcell, hbu⟩ := (show Byts w10 w9.heap.size (.slice (some ad8) (ac ++ [b]).length c8) (ac ++ [b]) by rw [List.length_append, List.length_singleton]; exact hg10).atv ac.length (by simp)
          cases hA'
          rw [show (ac ++ [b])[ac.length]'(by simp) = b by simp] at hbu
          have hmid := Byts.mid (ls := ac ++ [b]) 0 ac.length (show Byts w10 w9.heap.size (.slice (some ad8) (ac ++ [b]).length c8) (ac ++ [b]) by rw [List.length_append, List.length_singleton]; exact hg10) (Nat.zero_le _) (by rw [List.length_append]; omega)
          rw [List.drop_zero, Nat.sub_zero, Nat.sub_zero, List.take_left' rfl, show ad8.add 0 = ad8 by simp [Addr.add]] at hmid
          have hsb : ∃ sb, sb = bsA b := ⟨_, rfl⟩
          obtain ⟨sb, hsb⟩ := hsb
          have hfx2 := fun (W : World) (hW : Below w10.heap.size w10 W) => (show (W.cell? (ad8.add ac.length) = some u11) ∧ (convert 23 9 u11).run Try.prog W = .ok (.string sb) W ∧ (convert 23 9 (.slice (some adb) b.length cb)).run Try.prog W = .ok (.string sb) W ∧ Below w.heap.size w W from by
            subst hsb
            exact ⟨((hW.mono hw910).cell (p := ad8.add ac.length) (by rw [addr_add_block]; exact hadB)).trans hcell, (hbu.below (hW.mono hw910)).strA, (hbb.below (hW.mono hw110)).strA, hbl10.trans (hW.mono hbl10.size)⟩)
          have hsa2 := fun (W : World) (hW : Below w10.heap.size w10 W) => (show Calls Try.prog 83 #[.slice (some ad8) ac.length c8, .slice A13 ac.length c13] W fun e w' => e = .returned (.bool true) ∧ Below W.heap.size W w' from by
            have := lsame12_any (hmid.below (hW.mono hw910)) (ho10.below hW) (by omega)
            rw [decide_eq_true rfl] at this
            exact this)
          have HFX := Lib.hid hfx2
          have HSA := Lib.hid hsa2
          have j3 : (ac.length : Int) ≤ (c8 : Int) := by omega
          have j4 : (0 : Int) ≤ (ac.length : Int) := by omega
          have j5 : (ac.length : Int) < (ac.length : Int) + 1 := by omega
          clear hfx2 hsa2 hcell hbu hsb hmid ho10 hg10 hbb hbl10 hrb
          go_upto_region 35 with fail
          -- region 35
          refine wp_region_sp (by kernel_rfl) [isS (.slice (some adb) b.length cb), isS (.bool true), isS (.bool true), isS (.slice (some ad8) (ac.length + 1) c8), isS (.slice A13 ac.length c13), isS (.int .i64 (ac.length : Int)), isS (.pointer (some (ad8.add ac.length))), isS u11, isS (.string sb), isS (.slice (some adb) b.length cb), isS (.string sb), isS (.bool true), isS (.bool true), isS (.bool true), isS (.slice (some ad8) (ac.length + 1) c8), isS (.slice A13 ac.length c13), isS (.int .i64 (ac.length : Int)), isS (.slice (some ad8) ac.length c8), isS (.slice A13 ac.length c13), isS (.bool true), isS (.bool true), isS (.bool true), isS (.bool true), isS (.bool true), isS (.bool true)] (by kernel_rfl) (by kernel_rfl) (fun q hq => ?_) (fun a' w12 hc hs => ?_)
          · match q, hq with
            | 0, _ =>
              intro a W hc hd
              have z14 := hc.same 14 (by kernel_rfl)
              simp only [List.getElem?_toArray, List.getElem?_cons_succ, List.getElem?_cons_zero, Option.getD_some] at z14
              refine obl_val rfl (wanted_none rfl) ?_ rfl
              go_simp
            | 1, _ =>
              intro a W hc hd
              have s0 : a.tmps[168]?.getD undef = (.slice (some adb) b.length cb) := hd 0 (by kernel_rfl)
              refine obl_val rfl (wanted_none rfl) ?_ rfl
              go_simp
            | 2, _ =>
              intro a W hc hd
              have s1 : a.tmps[169]?.getD undef = (.bool true) := hd 1 (by kernel_rfl)
              refine obl_val rfl (wanted_none rfl) ?_ rfl
              go_simp
            | 3, _ =>
              intro a W hc hd
              have z22 := hc.same 22 (by kernel_rfl)
              have s2 : a.tmps[170]?.getD undef = (.bool true) := hd 2 (by kernel_rfl)
              simp only [List.getElem?_toArray, List.getElem?_cons_succ, List.getElem?_cons_zero, Option.getD_some] at z22
              refine obl_val rfl (wanted_some rfl rfl s2) ?_ rfl
              go_simp
            | 4, _ =>
              intro a W hc hd
              have z13 := hc.same 13 (by kernel_rfl)
              have s2 : a.tmps[170]?.getD undef = (.bool true) := hd 2 (by kernel_rfl)
              simp only [List.getElem?_toArray, List.getElem?_cons_succ, List.getElem?_cons_zero, Option.getD_some] at z13
              refine obl_val rfl (wanted_some rfl rfl s2) ?_ rfl
              go_simp
            | 5, _ =>
              intro a W hc hd
              have s4 : a.tmps[172]?.getD undef = (.slice A13 ac.length c13) := hd 4 (by kernel_rfl)
              have s2 : a.tmps[170]?.getD undef = (.bool true) := hd 2 (by kernel_rfl)
              refine obl_val rfl (wanted_some rfl rfl s2) ?_ rfl
              go_simp
            | 6, _ =>
              intro a W hc hd
              have s3 : a.tmps[171]?.getD undef = (.slice (some ad8) (ac.length + 1) c8) := hd 3 (by kernel_rfl)
              have s5 : a.tmps[173]?.getD undef = (.int .i64 (ac.length : Int)) := hd 5 (by kernel_rfl)
              have s2 : a.tmps[170]?.getD undef = (.bool true) := hd 2 (by kernel_rfl)
              refine obl_val rfl (wanted_some rfl rfl s2) ?_ rfl
              go_simp
            | 7, _ =>
              intro a W hc hd
              have s6 : a.tmps[174]?.getD undef = (.pointer (some (ad8.add ac.length))) := hd 6 (by kernel_rfl)
              have s2 : a.tmps[170]?.getD undef = (.bool true) := hd 2 (by kernel_rfl)
              obtain ⟨q1, q2, q3, q4⟩ := HFX.out W ((Below.refl w10.heap.size w10).drew.trans hc.below)
              refine obl_val rfl (wanted_some rfl rfl s2) ?_ rfl
              go_simp
            | 8, _ =>
              intro a W hc hd
              have s7 : a.tmps[175]?.getD undef = u11 := hd 7 (by kernel_rfl)
              have s2 : a.tmps[170]?.getD undef = (.bool true) := hd 2 (by kernel_rfl)
              obtain ⟨q1, q2, q3, q4⟩ := HFX.out W ((Below.refl w10.heap.size w10).drew.trans hc.below)
              refine obl_val rfl (wanted_some rfl rfl s2) ?_ rfl
              go_simp
            | 9, _ =>
              intro a W hc hd
              have z14 := hc.same 14 (by kernel_rfl)
              have s2 : a.tmps[170]?.getD undef = (.bool true) := hd 2 (by kernel_rfl)
              simp only [List.getElem?_toArray, List.getElem?_cons_succ, List.getElem?_cons_zero, Option.getD_some] at z14
              refine obl_val rfl (wanted_some rfl rfl s2) ?_ rfl
              go_simp
            | 10, _ =>
              intro a W hc hd
              have s9 : a.tmps[177]?.getD undef = (.slice (some adb) b.length cb) := hd 9 (by kernel_rfl)
              have s2 : a.tmps[170]?.getD undef = (.bool true) := hd 2 (by kernel_rfl)
              obtain ⟨q1, q2, q3, q4⟩ := HFX.out W ((Below.refl w10.heap.size w10).drew.trans hc.below)
              refine obl_val rfl (wanted_some rfl rfl s2) ?_ rfl
              go_simp
            | 11, _ =>
              intro a W hc hd
              have s8 : a.tmps[176]?.getD undef = (.string sb) := hd 8 (by kernel_rfl)
              have s10 : a.tmps[178]?.getD undef = (.string sb) := hd 10 (by kernel_rfl)
              have s2 : a.tmps[170]?.getD undef = (.bool true) := hd 2 (by kernel_rfl)
              refine obl_val rfl (wanted_some rfl rfl s2) ?_ rfl
              go_simp
            | 12, _ =>
              intro a W hc hd
              have s2 : a.tmps[170]?.getD undef = (.bool true) := hd 2 (by kernel_rfl)
              have s11 : a.tmps[179]?.getD undef = (.bool true) := hd 11 (by kernel_rfl)
              refine obl_val rfl (wanted_none rfl) ?_ rfl
              go_simp
            | 13, _ =>
              intro a W hc hd
              have s12 : a.tmps[180]?.getD undef = (.bool true) := hd 12 (by kernel_rfl)
              refine obl_val rfl (wanted_none rfl) ?_ rfl
              go_simp
            | 14, _ =>
              intro a W hc hd
              have z22 := hc.same 22 (by kernel_rfl)
              have s13 : a.tmps[181]?.getD undef = (.bool true) := hd 13 (by kernel_rfl)
              simp only [List.getElem?_toArray, List.getElem?_cons_succ, List.getElem?_cons_zero, Option.getD_some] at z22
              refine obl_val rfl (wanted_some rfl rfl s13) ?_ rfl
              go_simp
            | 15, _ =>
              intro a W hc hd
              have z13 := hc.same 13 (by kernel_rfl)
              have s13 : a.tmps[181]?.getD undef = (.bool true) := hd 13 (by kernel_rfl)
              simp only [List.getElem?_toArray, List.getElem?_cons_succ, List.getElem?_cons_zero, Option.getD_some] at z13
              refine obl_val rfl (wanted_some rfl rfl s13) ?_ rfl
              go_simp
            | 16, _ =>
              intro a W hc hd
              have s15 : a.tmps[183]?.getD undef = (.slice A13 ac.length c13) := hd 15 (by kernel_rfl)
              have s13 : a.tmps[181]?.getD undef = (.bool true) := hd 13 (by kernel_rfl)
              refine obl_val rfl (wanted_some rfl rfl s13) ?_ rfl
              go_simp
            | 17, _ =>
              intro a W hc hd
              have s14 : a.tmps[182]?.getD undef = (.slice (some ad8) (ac.length + 1) c8) := hd 14 (by kernel_rfl)
              have s16 : a.tmps[184]?.getD undef = (.int .i64 (ac.length : Int)) := hd 16 (by kernel_rfl)
              have s13 : a.tmps[181]?.getD undef = (.bool true) := hd 13 (by kernel_rfl)
              refine obl_val rfl (wanted_some rfl rfl s13) (v := .slice (some ad8) ac.length c8) ?_ rfl
              go_simp
            | 18, _ =>
              intro a W hc hd
              have z13 := hc.same 13 (by kernel_rfl)
              have s13 : a.tmps[181]?.getD undef = (.bool true) := hd 13 (by kernel_rfl)
              simp only [List.getElem?_toArray, List.getElem?_cons_succ, List.getElem?_cons_zero, Option.getD_some] at z13
              refine obl_val rfl (wanted_some rfl rfl s13) ?_ rfl
              go_simp
            | 19, _ =>
              intro a W hc hd
              have s17 : a.tmps[185]?.getD undef = (.slice (some ad8) ac.length c8) := hd 17 (by kernel_rfl)
              have s18 : a.tmps[186]?.getD undef = (.slice A13 ac.length c13) := hd 18 (by kernel_rfl)
              have s13 : a.tmps[181]?.getD undef = (.bool true) := hd 13 (by kernel_rfl)
              refine obl_call rfl (wanted_some rfl rfl s13) (by go_simp) (HSA.out W ((Below.refl w10.heap.size w10).drew.trans hc.below)) ?_
              rintro e w8 ⟨rfl, hb8⟩
              exact ⟨_, rfl, rfl, hb8⟩
            | 20, _ =>
              intro a W hc hd
              have s13 : a.tmps[181]?.getD undef = (.bool true) := hd 13 (by kernel_rfl)
              have s19 : a.tmps[187]?.getD undef = (.bool true) := hd 19 (by kernel_rfl)
              refine obl_val rfl (wanted_none rfl) ?_ rfl
              go_simp
            | 21, _ =>
              intro a W hc hd
              have s20 : a.tmps[188]?.getD undef = (.bool true) := hd 20 (by kernel_rfl)
              refine obl_val rfl (wanted_none rfl) ?_ rfl
              go_simp
            | 22, _ =>
              intro a W hc hd
              have s21 : a.tmps[189]?.getD undef = (.bool true) := hd 21 (by kernel_rfl)
              refine obl_call rfl (wanted_some rfl rfl s21) (by go_simp) (lives12_any W) ?_
              rintro e w8 ⟨rfl, hb8⟩
              exact ⟨_, rfl, rfl, hb8⟩
            | 23, _ =>
              intro a W hc hd
              have s21 : a.tmps[189]?.getD undef = (.bool true) := hd 21 (by kernel_rfl)
              have s22 : a.tmps[190]?.getD undef = (.bool true) := hd 22 (by kernel_rfl)
              refine obl_val rfl (wanted_none rfl) ?_ rfl
              go_simp
            | 24, _ =>
              intro a W hc hd
              have s23 : a.tmps[191]?.getD undef = (.bool true) := hd 23 (by kernel_rfl)
              refine obl_val rfl (wanted_none rfl) ?_ rfl
              go_simp
            | n + 25, h => exact absurd h (by simp)
          · skip
            have hfr := grow_frame hc [(168, (.slice (some adb) b.length cb)), (169, (.bool true)), (170, (.bool true)), (171, (.slice (some ad8) (ac.length + 1) c8)), (172, (.slice A13 ac.length c13)), (173, (.int .i64 (ac.length : Int))), (174, (.pointer (some (ad8.add ac.length)))), (175, u11), (176, (.string sb)), (177, (.slice (some adb) b.length cb)), (178, (.string sb)), (179, (.bool true)), (180, (.bool true)), (181, (.bool true)), (182, (.slice (some ad8) (ac.length + 1) c8)), (183, (.slice A13 ac.length c13)), (184, (.int .i64 (ac.length : Int))), (185, (.slice (some ad8) ac.length c8)), (186, (.slice A13 ac.length c13)), (187, (.bool true)), (188, (.bool true)), (189, (.bool true)), (190, (.bool true)), (191, (.bool true)), (8, (.bool true))] (by kernel_rfl) (fun p hp => by
                simp only [List.mem_cons, List.not_mem_nil, or_false] at hp
                rcases hp with rfl | rfl | rfl | rfl | rfl | rfl | rfl | rfl | rfl | rfl | rfl | rfl | rfl | rfl | rfl | rfl | rfl | rfl | rfl | rfl | rfl | rfl | rfl | rfl | rfl
                · exact hs 0 168 (by decide) (by kernel_rfl)
                · exact hs 1 169 (by decide) (by kernel_rfl)
                · exact hs 2 170 (by decide) (by kernel_rfl)
                · exact hs 3 171 (by decide) (by kernel_rfl)
                · exact hs 4 172 (by decide) (by kernel_rfl)
                · exact hs 5 173 (by decide) (by kernel_rfl)
                · exact hs 6 174 (by decide) (by kernel_rfl)
                · exact hs 7 175 (by decide) (by kernel_rfl)
                · exact hs 8 176 (by decide) (by kernel_rfl)
                · exact hs 9 177 (by decide) (by kernel_rfl)
                · exact hs 10 178 (by decide) (by kernel_rfl)
                · exact hs 11 179 (by decide) (by kernel_rfl)
                · exact hs 12 180 (by decide) (by kernel_rfl)
                · exact hs 13 181 (by decide) (by kernel_rfl)
                · exact hs 14 182 (by decide) (by kernel_rfl)
                · exact hs 15 183 (by decide) (by kernel_rfl)
                · exact hs 16 184 (by decide) (by kernel_rfl)
                · exact hs 17 185 (by decide) (by kernel_rfl)
                · exact hs 18 186 (by decide) (by kernel_rfl)
                · exact hs 19 187 (by decide) (by kernel_rfl)
                · exact hs 20 188 (by decide) (by kernel_rfl)
                · exact hs 21 189 (by decide) (by kernel_rfl)
                · exact hs 22 190 (by decide) (by kernel_rfl)
                · exact hs 23 191 (by decide) (by kernel_rfl)
                · exact hs 24 8 (by decide) (by kernel_rfl)
                )
            simp only [List.range, List.range.loop, List.size_toArray, List.length_cons, List.length_nil, List.map_cons, List.map_nil, List.lookup_cons, List.lookup_nil, Nat.reduceAdd, Nat.reduceBEq, Option.getD_some, Option.getD_none, List.getElem?_toArray, List.getElem?_cons_succ, List.getElem?_cons_zero] at hfr
            subst hfr
          -- end 35
            go_wp2
            go_ret
            exact ⟨rfl, (HFX.out w12 ((Below.refl w10.heap.size w10).drew.trans hc.below)).2.2.2⟩
end Go.Proofs.Ytmcjefdnkcpghaa
