/- THE WALK OF SectorPlays. -/
import Derived.Test.YtmcjefdnkcpghaaSeR
namespace Go.Proofs.Ytmcjefdnkcpghaa
open Go.RowKit
def LawPost (w : World) (e : Ending) (w' : World) : Prop := e = .returned (.bool true) ∧ Below w.heap.size w w'
/-- the head of a round of SectorPlays -/
def PlRel (w0 : World) (b6 n : Nat) (k : Nat) (g : Nat) (wr : World) : Prop := ∃ d Z v, Pl w0 b6 g d Z v wr ∧ d.writes ≤ k ∧ k ≤ n
theorem Byt.strA {w : World} {B : Nat} {v : Value} {l : List UInt8} (h : Byt w B v l) : (convert 23 9 v).run Try.prog w = .ok (.string (bsA l)) w := h.str
set_option maxRecDepth 100000 in
set_option maxHeartbeats 8000000 in
theorem plays_any {w : World} (many : Int) (hmany : -9223372036854775808 ≤ many ∧ many ≤ 9223372036854775807) (v : Value) (ls : List Stv) (hs : Steps w w.heap.size v ls) : Calls Try.prog 9 #[.int .i64 many, v] w (LawPost w) := by
  obtain ⟨A, c, rfl, hc, hm, hr⟩ := id hs
  unfold maxLen at hm
  have HR := Lib.hid hr
  clear hr hs
  by_cases h60 : 60 < ls.length
  · have e60 : decide ((60 : Int) < (ls.length : Int)) = true := decide_eq_true (by omega)
    go_enter Try.func9, Try.ntmps9
    go_wp2_with (first
      | (go_at_call 33; refine (lives_any _).mono ?_; rintro e w9 ⟨rfl, hb9⟩))
    go_ret
    exact ⟨rfl, hb9⟩
  have h60' : ls.length ≤ 60 := by omega
  have e60 : decide ((60 : Int) < (ls.length : Int)) = false := decide_eq_false (by omega)
  clear h60
  by_cases h40 : 40 < many ∧ many ≤ 4096
  · obtain ⟨h1, h2⟩ := h40
    go_enter Try.func9, Try.ntmps9
    go_wp2_with (first
      | (go_at_call 33; refine (lives_any _).mono ?_; rintro e w9 ⟨rfl, hb9⟩))
    go_ret
    exact ⟨rfl, hb9⟩
  by_cases hbad : many < 1 ∨ 4096 < many
  · have hn := new_bad many hbad w
    rcases hbad with h1 | h1
    all_goals
      clear h40
      first | (have e1 : decide (many < 1) = false := decide_eq_false (by omega)) | skip
      go_enter Try.func9, Try.ntmps9
      go_wp2_with (first
        | (go_at_call 34; refine hn.mono ?_; rintro e w1 ⟨rfl, rfl⟩)
        | (go_at_call 33; refine (lives_any _).mono ?_; rintro e w9 ⟨rfl, hb9⟩))
      go_ret
      exact ⟨rfl, hb9⟩
  obtain ⟨N, rfl⟩ : ∃ N : Nat, many = (N : Int) := ⟨many.toNat, by omega⟩
  have hN1 : 1 ≤ N := by omega
  have hN2 : N ≤ 40 := by omega
  clear h40 hbad hmany
  have hnew := new_any N hN1 (by omega) w
  have e2 : decide ((40 : Int) < (N : Int)) = false := decide_eq_false (by omega)
  have e3 : decide ((4096 : Int) < (N : Int)) = false := decide_eq_false (by omega)
  have e4 : decide ((N : Int) < 1) = false := decide_eq_false (by omega)
  go_enter Try.func9, Try.ntmps9
  go_wp2_with (first
    | (go_at_call 34; (with_reducible refine hnew.mono ?_); rintro e w1 ⟨g, rfl, hd1, hb1⟩)
    | (go_at_call 41; (with_reducible refine (rnew_any N (by omega) _).mono ?_); rintro e w2 ⟨v2, rfl, hr2, hb2⟩; obtain ⟨A2, c2, After2, Torn2, rfl⟩ := hr2.form))
  have hstart : ∃ Z, Pl w w2.heap.size g (Dv.new N) Z (.agg #[.slice A2 (Dv.new N).n c2, .int .i64 After2, .int .i64 Torn2, .bool (Dv.new N).dead, .int .i64 ((Dv.new N).writes : Int)]) (w2.alloc (.cells #[.slice A2 (Dv.new N).n c2, .int .i64 After2, .int .i64 Torn2, .bool (Dv.new N).dead, .int .i64 ((Dv.new N).writes : Int)] 55)) := by
    obtain ⟨Z0, hz1, hz2, hz3⟩ := hd1.tight
    have hal : Below w2.heap.size w2 (w2.alloc (.cells #[.slice A2 (Dv.new N).n c2, .int .i64 After2, .int .i64 Torn2, .bool (Dv.new N).dead, .int .i64 ((Dv.new N).writes : Int)] 55)) := (Below.refl _ _).alloc (Nat.le_refl _) _
    have hbb := hb2.trans (hal.mono hb2.size)
    refine ⟨Z0, hz1.below hbb, fun b hb => (hz2 b hb).1, fun b hb => (hz3 b hb).below hbb, ⟨_, _, _, _, _, rfl, heap_alloc_new w2 _⟩, Nat.le_trans hb1.size hb2.size, (hr2.below hal).heap, hb1.trans (hbb.mono hb1.size)⟩
  generalize w2.heap.size = b6 at *
  have hB0 : ∀ wr d Z v, Pl w b6 g d Z v wr → Below w.heap.size w wr := fun _ _ _ _ h => h.below
  go_loopg [5, 47] ls.length (fun gk x5 x47 wr => ∃ (k g' : Nat), gk = ls.length - k ∧ x5 = .pointer (some ⟨g', 0, none⟩) ∧ x47 = .int .i64 (k : Int) ∧ PlRel w b6 ls.length k g' wr)
  case atStart =>
    obtain ⟨Z, hp⟩ := hstart
    exact ⟨0, g, rfl, rfl, rfl, _, Z, _, hp, Nat.le_refl _, Nat.zero_le _⟩
  case round =>
    obtain ⟨k, g', hgk, rfl, rfl, d, Z, v, hpl, hwr, hk⟩ := hrel
    have HG := Lib.hid hgk
    clear hgk hstart hnew hB0
    by_cases h : k < ls.length
    · obtain ⟨ad, rfl, hadB, hrow⟩ := HR.out (by omega)
      obtain ⟨hok, hat⟩ := hrow k ls[k] (List.getElem?_eq_getElem h)
      have hat' : StAt wr w.heap.size (ad.add (k * 4)) ls[k] := by
        have hp : (ad.add (k * 4)).block < w.heap.size := by rw [addr_add_block]; exact hadB
        have hkk : ∀ p : Addr, p.block < w.heap.size → wr.cell? p = w.cell? p := fun p hp => hpl.below.cell hp
        exact ⟨(hkk _ hp).trans hat.c0, (hkk ⟨_, _, none⟩ hp).trans hat.c1, (hkk ⟨_, _, none⟩ hp).trans hat.c2, (hkk ⟨_, _, none⟩ hp).trans hat.c3, hat.by_.keep hkk⟩
      clear hrow hat
      generalize ls[k] = o at *
      obtain ⟨kd, oi, on, bv, ob⟩ := o
      obtain ⟨c0, c1, c2', c3, hby⟩ := hat'
      obtain ⟨hka, hkb, hi1, hi2, hn1, hn2⟩ := hok
      simp only at c0 c1 c2' c3 hby hka hkb hi1 hi2 hn1 hn2
      obtain ⟨Ab, cb, rfl, hcb, hmb, _⟩ := id hby
      unfold maxLen at hmb
      obtain ⟨A', c', After, Torn, rfl⟩ := hpl.rv.form
      have hpA := hpl.grow ((Below.refl _ _).alloc (Nat.le_refl _) (.cells #[.int .i64 kd, .int .i64 oi, .int .i64 on, .slice Ab ob.length cb] 58))
      have hbyA := hby.alloc hpl.below.size (.cells #[.int .i64 kd, .int .i64 oi, .int .i64 on, .slice Ab ob.length cb] 58)
      have hsb := heap_alloc_new wr (.cells #[.int .i64 kd, .int .i64 oi, .int .i64 on, .slice Ab ob.length cb] 58)
      have hlt6 := lt_of_block hsb
      have hns : ∀ b, Z b → b ≠ wr.heap.size := fun b hb e => by have := (hpl.kd b hb).lt; omega
      obtain ⟨q0, q1, q2, q3, q4, r0, r1, r2, r3, r4⟩ := hpA.box.cells
      have HW1 := Lib.hid (show d.writes + 1 ≤ 1000000000 by omega)
      by_cases k0 : kd = 0
      · have t0 : (kd == 0) = true := by simp [k0]
        by_cases hb1000 : 1000 < ob.length
        · have e1000 : decide ((1000 : Int) < (ob.length : Int)) = true := decide_eq_true (by omega)
          have hbel := hpA.below
          clear hpA hsb hbyA hby q0 q1 q2 q3 q4 r0 r1 r2 r3 r4 k0
          go_wp2_with (first
            | (go_at_call 33; (with_reducible refine (lives_any _).mono ?_); rintro e w9 ⟨rfl, hb9⟩))
          go_ret
          exact ⟨rfl, hbel.trans (hb9.mono hbel.size)⟩
        · have e1000 : decide ((1000 : Int) < (ob.length : Int)) = false := decide_eq_false (by omega)
          have hwri := write_any hpA.dk oi hbyA HW1.out
          have hq := write_writes d oi ob
          have hrwr : ∀ W v B, Rv W B v d → Calls Try.prog 42 #[v, .int .i64 oi, .string (bsA ob)] W (RPost W (d.write oi ob).1 (d.write oi ob).2) := fun W v B h => rwrite_any h hpl.dk.ok HW1.out oi
          generalize d.write oi ob = q at *
          obtain ⟨d', r⟩ := q
          simp only at hwri hq hrwr
          have HRW := Lib.hid hrwr
          have HBA := Lib.hid hbyA
          have HPA := Lib.hid hpA
          have HSB := Lib.hid hsb
          clear hrwr hbyA hpA hsb hby
          clear k0
          go_wp2_with (first
            | (go_at_call 35; (with_reducible refine hwri.mono ?_); rintro e w2 ⟨rfl, hd2, hk2⟩
               obtain ⟨Z2, hm2⟩ := HPA.out.wrote hd2 hk2 (fun b h => .inl h)
               have hs2 := hk2.heap HSB.out (fun hz => hns _ hz rfl)
               have x1 := cells_of hs2 1 _ rfl
               have x3 := cells_of hs2 3 _ rfl
               have hcv := (HBA.out.below (hk2.toBelow (B := w.heap.size) HPA.out.below.size (fun b hb hz => by have := HPA.out.hi b hz; omega))).strA
               obtain ⟨y0, y1, y2, y3, y4, z0, z1, z2, z3, z4⟩ := hm2.box.cells
               have hrw := HRW.out _ _ _ hm2.rv
               have HM2 := Lib.hid hm2
               clear hd2 hk2 hs2 hm2)
            | (go_at_call 42; (with_reducible refine hrw.mono ?_); rintro e w3 ⟨v3, rfl, hr3, hb3⟩
               obtain ⟨A3, c3, After3, Torn3, rfl⟩ := hr3.form
               have hm3 := HM2.out.grow hb3
               obtain ⟨y0, y1, y2, y3, y4, z0, z1, z2, z3, z4⟩ := hm3.box.cells
               have hp4 := hm3.put hr3
               have HP4 := Lib.hid hp4
               have hli := like_any hp4.dk (fun b hb => (hp4.kd b hb).lt) hp4.rv
               clear hp4 hm3 hr3)
            | (go_at_call 48; (with_reducible refine hli.mono ?_); rintro e w5 ⟨rfl, hb5⟩)
            | fail)
          go_roundg (ls.length - (k + 1))
          case measure => have := HG.out; omega
          case rel => exact ⟨k + 1, g', rfl, rfl, by go_num, d', Z2, _, HP4.out.grow hb5, by omega, by omega⟩
      have t0 : (kd == 0) = false := beq_eq_false_iff_ne.2 k0
      clear k0
      by_cases k1 : kd = 1
      · have t1 : (kd == 1) = true := by simp [k1]
        have hre := read_any hpA.dk oi
        have hrr : ∀ W v B, Rv W B v d → Calls Try.prog 43 #[v, .int .i64 oi] W (RReadPost W d oi) := fun W v B h => rread_any h hpl.dk.ok oi
        unfold ReadPost at hre
        unfold RReadPost at hrr
        obtain ⟨pg, hpg⟩ : ∃ pg, pg = (if d.can oi = 0 then page d.L oi.toNat else []) := ⟨_, rfl⟩
        rw [← hpg] at hre
        rw [show (if d.can oi = 0 then bsA (page d.L oi.toNat) else (⟨#[]⟩ : ByteArray)) = bsA pg from by rw [hpg]; split <;> rfl] at hrr
        generalize d.can oi = r at *
        have HRR := Lib.hid hrr
        have HPA := Lib.hid hpA
        have HSB := Lib.hid hsb
        clear hrr hbyA hpA hsb hby hpg k1
        go_wp2_with (first
          | (go_at_call 39; (with_reducible refine hre.mono ?_); rintro e w2 ⟨rs, rfl, ho2, hb2'⟩
             have hp2 := HPA.out.grow hb2'
             have hs2 := (hb2'.block _ hlt6).trans HSB.out
             have x1 := cells_of hs2 1 _ rfl
             obtain ⟨y0, y1, y2, y3, y4, z0, z1, z2, z3, z4⟩ := hp2.box.cells
             have hrw := HRR.out _ _ _ hp2.rv
             have HP2 := Lib.hid hp2
             have HO2 := Lib.hid ho2
             clear hs2 hp2 ho2)
          | (go_at_call 43; (with_reducible refine hrw.mono ?_); rintro e w3 ⟨rfl, hb3⟩
             have hp3 := HP2.out.grow hb3
             have hcv := (HO2.out.byt.below hb3).strA
             obtain ⟨y0, y1, y2, y3, y4, z0, z1, z2, z3, z4⟩ := hp3.box.cells
             have HP3 := Lib.hid hp3
             have hli := like_any hp3.dk (fun b hb => (hp3.kd b hb).lt) hp3.rv
             clear hp3)
          | (go_at_call 48; (with_reducible refine hli.mono ?_); rintro e w5 ⟨rfl, hb5⟩)
          | fail)
        go_roundg (ls.length - (k + 1))
        case measure => have := HG.out; omega
        case rel => exact ⟨k + 1, g', rfl, rfl, by go_num, d, Z, _, HP3.out.grow hb5, by omega, by omega⟩
      have t1 : (kd == 1) = false := beq_eq_false_iff_ne.2 k1
      clear k1
      by_cases k2 : kd = 2
      · have t2 : (kd == 2) = true := by simp [k2]
        have hwri := fuse_any hpA.dk oi on hi2
        have hq := fuses_writes d oi on
        have hrwr : ∀ W v B, Rv W B v d → Calls Try.prog 44 #[v, .int .i64 oi, .int .i64 on] W (RPost W (d.fuses oi on).1 (d.fuses oi on).2) := fun W v B h => rfuse_any h oi on hi2
        generalize d.fuses oi on = q at *
        obtain ⟨d', r⟩ := q
        simp only at hwri hq hrwr
        have HQ := Lib.hid hq
        have HRW := Lib.hid hrwr
        have HPA := Lib.hid hpA
        have HSB := Lib.hid hsb
        clear hrwr hbyA hpA hsb hby k2 hq
        go_wp2_with (first
          | (go_at_call 37; (with_reducible refine hwri.mono ?_); rintro e w2 ⟨rfl, hd2, hk2⟩
             obtain ⟨Z2, hm2⟩ := HPA.out.wrote hd2 hk2 (fun b h => h.imp id (fun h => h.1))
             have hs2 := hk2.heap HSB.out (fun hz => hns _ hz rfl)
             have x1 := cells_of hs2 1 _ rfl
             have x2 := cells_of hs2 2 _ rfl
             obtain ⟨y0, y1, y2, y3, y4, z0, z1, z2, z3, z4⟩ := hm2.box.cells
             have hrw := HRW.out _ _ _ hm2.rv
             have HM2 := Lib.hid hm2
             clear hd2 hk2 hs2 hm2)
          | (go_at_call 44; (with_reducible refine hrw.mono ?_); rintro e w3 ⟨v3, rfl, hr3, hb3⟩
             obtain ⟨A3, c3, After3, Torn3, rfl⟩ := hr3.form
             have hm3 := HM2.out.grow hb3
             obtain ⟨y0, y1, y2, y3, y4, z0, z1, z2, z3, z4⟩ := hm3.box.cells
             have hp4 := hm3.put hr3
             have HP4 := Lib.hid hp4
             have hli := like_any hp4.dk (fun b hb => (hp4.kd b hb).lt) hp4.rv
             clear hp4 hm3 hr3)
          | (go_at_call 48; (with_reducible refine hli.mono ?_); rintro e w5 ⟨rfl, hb5⟩)
          | fail)
        go_roundg (ls.length - (k + 1))
        case measure => have := HG.out; omega
        case rel => exact ⟨k + 1, g', rfl, rfl, by go_num, d', Z2, _, HP4.out.grow hb5, by have := HQ.out; omega, by omega⟩
      have t2 : (kd == 2) = false := beq_eq_false_iff_ne.2 k2
      clear k2
      by_cases k3 : kd = 3
      · have t3 : (kd == 3) = true := by simp [k3]
        have hwri := power_any hpA.dk
        have hrwr : ∀ W v B, Rv W B v d → Calls Try.prog 46 #[v] W fun e w' => ∃ v', e = .returned v' ∧ Rv w' w'.heap.size v' { d with fuse := none, dead := false } ∧ Below W.heap.size W w' := fun W v B h => rpower_any h
        have hq : ({ d with fuse := none, dead := false } : Dv).writes = d.writes := rfl
        generalize ({ d with fuse := none, dead := false } : Dv) = d' at *
        have HQ := Lib.hid hq
        have HRW := Lib.hid hrwr
        have HPA := Lib.hid hpA
        have HSB := Lib.hid hsb
        clear hrwr hbyA hpA hsb hby k3 hq
        go_wp2_with (first
          | (go_at_call 45; (with_reducible refine hwri.mono ?_); rintro e w2 ⟨rfl, hd2, hk2⟩
             obtain ⟨Z2, hm2⟩ := HPA.out.wrote hd2 hk2 (fun b h => .inl h)
             obtain ⟨y0, y1, y2, y3, y4, z0, z1, z2, z3, z4⟩ := hm2.box.cells
             have hrw := HRW.out _ _ _ hm2.rv
             have HM2 := Lib.hid hm2
             clear hd2 hk2 hm2)
          | (go_at_call 46; (with_reducible refine hrw.mono ?_); rintro e w3 ⟨v3, rfl, hr3, hb3⟩
             obtain ⟨A3, c3, After3, Torn3, rfl⟩ := hr3.form
             have hm3 := HM2.out.grow hb3
             obtain ⟨y0, y1, y2, y3, y4, z0, z1, z2, z3, z4⟩ := hm3.box.cells
             have hp4 := hm3.put hr3
             have HP4 := Lib.hid hp4
             have hli := like_any hp4.dk (fun b hb => (hp4.kd b hb).lt) hp4.rv
             clear hp4 hm3 hr3)
          | (go_at_call 48; (with_reducible refine hli.mono ?_); rintro e w5 ⟨rfl, hb5⟩)
          | fail)
        go_roundg (ls.length - (k + 1))
        case measure => have := HG.out; omega
        case rel => exact ⟨k + 1, g', rfl, rfl, by go_num, d', Z2, _, HP4.out.grow hb5, by have := HQ.out; omega, by omega⟩
      have t3 : (kd == 3) = false := beq_eq_false_iff_ne.2 k3
      clear k3
      have hcl := clone_any hpA.dk
      have hfi : ∀ w, Calls Try.prog 36 #[.int .u8 7] w (FillPost w 7) := fill_any 7
      have HPA := Lib.hid hpA
      clear hbyA hpA hsb hby
      go_wp2_with (first
        | (go_at_call 47; (with_reducible refine hcl.mono ?_); rintro e w2 ⟨g2, rfl, hd2, hb2'⟩)
        | (go_at_call 36; (with_reducible refine (hfi _).mono ?_); rintro e w3 ⟨v3, rfl, hv3, hb3⟩
           have hp3 := (HPA.out.grow hb2').grow hb3
           have hw3 := write_any hp3.dk 0 hv3 HW1.out)
        | (go_at_call 35; (with_reducible refine hw3.mono ?_); rintro e w4 ⟨rfl, hd4, hk4⟩
           have hpo := power_any hd4)
        | (go_at_call 45; (with_reducible refine hpo.mono ?_); rintro e w6 ⟨rfl, hd6, hk6⟩
           have hkk := (((Kept.ofBelow (S := fun b => ¬ Z b) hb2').trans (Kept.ofBelow (S := fun b => ¬ Z b) hb3) (fun _ _ h => h)).trans hk4 (fun _ _ h => h)).trans hk6 (fun _ _ h => h)
           have hdz : ∀ b, ((wr.alloc (.cells #[.int .i64 kd, .int .i64 oi, .int .i64 on, .slice Ab ob.length cb] 58)).heap.size ≤ b ∧ b < w2.heap.size) → ¬ Z b := fun b hb hz => (by have := (HPA.out.kd b hz).lt; omega)
           obtain ⟨Z6, hm6⟩ := HPA.out.wrote (((hd2.below hb3).kept hk4 hdz).kept hk6 hdz) hkk (fun b h => .inr h.1)
           have hp6 := hm6.same
           obtain ⟨y0, y1, y2, y3, y4, z0, z1, z2, z3, z4⟩ := hp6.box.cells
           have HP6 := Lib.hid hp6
           have hli := like_any hp6.dk (fun b hb => (hp6.kd b hb).lt) hp6.rv
           clear hp6 hm6 hd6 hd4 hd2)
        | (go_at_call 48; (with_reducible refine hli.mono ?_); rintro e w5 ⟨rfl, hb5⟩)
        | fail)
      go_roundg (ls.length - (k + 1))
      case measure => have := HG.out; omega
      case rel => exact ⟨k + 1, g2, rfl, rfl, by go_num, d, Z6, _, HP6.out.grow hb5, by omega, by omega⟩
    · obtain rfl : k = ls.length := by omega
      go_wp2_with (first
        | (go_at_call 33; (with_reducible refine (lives_any _).mono ?_); rintro e w9 ⟨rfl, hb9⟩))
      go_ret
      exact ⟨rfl, hpl.below.trans (hb9.mono hpl.below.size)⟩
end Go.Proofs.Ytmcjefdnkcpghaa
