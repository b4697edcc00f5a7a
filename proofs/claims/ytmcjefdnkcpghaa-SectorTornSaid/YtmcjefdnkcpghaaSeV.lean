/- THE WALK OF SectorTorn. -/
import Derived.Test.YtmcjefdnkcpghaaSeU
import Derived.Deep.RegionHeld3
import Derived.Test.YtmcjefdnkcpghaaGr4
import Derived.Test.YtmcjefdnkcpghaaGrowB
namespace Go.Proofs.Ytmcjefdnkcpghaa
open Go.RowKit Go.Shelf
attribute [local go_sem] Oper.semAt_some
theorem fill_sum (av : UInt8) (k : Nat) (w : World) : Calls Try.prog 36 #[.int .u8 (((av.toNat : Int) + (k : Int)) % 256)] w (FillPost w (av + UInt8.ofNat k)) := by
  have h : (((av.toNat : Int) + (k : Int)) % 256) = ((av + UInt8.ofNat k).toNat : Int) := by
    simp only [UInt8.toNat_add, UInt8.toNat_ofNat']
    omega
  rw [h]
  exact fill_any _ w
theorem fill_sumw (av : UInt8) (k : Nat) (w : World) : Calls Try.prog 36 #[.int .u8 (IntKind.u8.wrap ((av.toNat : Int) + IntKind.u8.wrap (k : Int)))] w (FillPost w (av + UInt8.ofNat k)) := by
  have h : IntKind.u8.wrap ((av.toNat : Int) + IntKind.u8.wrap (k : Int)) = ((av + UInt8.ofNat k).toNat : Int) := by
    simp only [IntKind.wrap, IntKind.bits, IntKind.signed, UInt8.toNat_add, UInt8.toNat_ofNat']
    simp only [Bool.false_and, Bool.false_eq_true, if_false]
    omega
  rw [h]
  exact fill_any _ w
theorem keeps_below {W W' : World} {B : Nat} (h : Below W.heap.size W W') : KeepsFrom B W W' := ⟨h.size, fun b _ _ ho _ => (h.block b (lt_of_block ho)).trans ho⟩
theorem byt_head {W : World} {B : Nat} {v : Value} {l : List UInt8} (h : Byt W B v l) (t : Nat) (h0 : 0 < l.length) (h2 : t ≤ l.length) : ∃ v', (Instr.slice 23 v none (some (.int .i64 (t : Int))) none).run Try.prog W = .ok v' W ∧ Byt W B v' (l.take t) := by
  obtain ⟨A, c, rfl, hc, hm, hx⟩ := h
  unfold maxLen at hm
  obtain ⟨ad, rfl, hb, hj⟩ := hx h0
  refine ⟨.slice (some ad) t c, ?_, some ad, c, by rw [List.length_take, Nat.min_eq_left h2], by rw [List.length_take]; omega, by unfold maxLen; omega, fun _ => ⟨_, rfl, hb, fun j x hjx => ?_⟩⟩
  · have h3 : (t : Int) ≤ (c : Int) := by omega
    have h4 : (0 : Int) ≤ (t : Int) := by omega
    go_simp
  · rw [List.getElem?_take] at hjx
    split at hjx
    · exact hj _ _ hjx
    · cases hjx
theorem run_str_tail (W : World) (s : ByteArray) (t : Nat) (_h1 : s.size ≤ 9223372036854775807) (h2 : t ≤ s.size) : (Instr.slice 9 (.string s) (some (.int .i64 (t : Int))) none none).run Try.prog W = .ok (.string (s.extract t s.size)) W := by
  have h3 : (t : Int) ≤ (s.size : Int) := by omega
  have h4 : (0 : Int) ≤ (t : Int) := by omega
  go_simp
theorem bsA_tail (l : List UInt8) (t : Nat) : (bsA l).extract t l.length = bsA (l.drop t) := by
  rw [extr_bsA, List.take_of_length_le (by rw [List.length_drop]; exact Nat.le_refl _)]
set_option maxRecDepth 100000 in
set_option maxHeartbeats 4000000 in
theorem torn_in {w : World} (N i after torn : Nat) (av bv : UInt8) (hN1 : 1 ≤ N) (hN2 : N ≤ 40) (hi : i < N) (ha : after ≤ 40) (ht : torn ≤ 64) :
    Calls Try.prog 8 #[.int .i64 (N : Int), .int .i64 (i : Int), .int .i64 (after : Int), .int .i64 (torn : Int), .int .u8 (av.toNat : Int), .int .u8 (bv.toNat : Int)] w (TornPost w) := by
  refine (callsIn_wide (n := 3)).1 ?_
  refine callsIn_of_wp_marks Try.func8 rfl trivial ?_ rfl
  simp only [Try.ntmps8, List.size_toArray, List.length_cons, List.length_nil, Nat.reduceAdd, Nat.reduceSub, Array.replicate_succ, Array.replicate_zero, List.push_toArray, List.append_toArray, List.nil_append, List.cons_append]
  have e1 : decide ((N : Int) < 1) = false := decide_eq_false (by omega)
  have e2 : decide ((40 : Int) < (N : Int)) = false := decide_eq_false (by omega)
  have e3 : decide ((i : Int) < 0) = false := decide_eq_false (by omega)
  have e4 : decide (N ≤ i) = false := decide_eq_false (by omega)
  have e5 : decide ((after : Int) < 0) = false := decide_eq_false (by omega)
  have e6 : decide ((40 : Int) < (after : Int)) = false := decide_eq_false (by omega)
  have e7 : decide ((torn : Int) < 0) = false := decide_eq_false (by omega)
  have e8 : decide ((64 : Int) < (torn : Int)) = false := decide_eq_false (by omega)
  refine wpIn_wide.2 ?_
  go_wp2_with (first
    | (go_at_call 34; (with_reducible refine (tp_new N hN1 (by omega)).mono ?_); rintro e w1 ⟨g, rfl, hp1⟩))
  have hp1' : Tp (tW w (i : Int) (torn : Int) (av.toNat : Int) (bv.toNat : Int)) g (Dv.new N) w1 := hp1
  clear hp1
  obtain ⟨T5, hT5⟩ : ∃ T5, T5 = tW w (i : Int) (torn : Int) (av.toNat : Int) (bv.toNat : Int) := ⟨_, rfl⟩
  have HBB := Lib.hid (fun wr (h : Below (tW w (i : Int) (torn : Int) (av.toNat : Int) (bv.toNat : Int)).heap.size (tW w (i : Int) (torn : Int) (av.toNat : Int) (bv.toNat : Int)) wr) => tW_boxes h)
  have HBX := Lib.hid (fun wr d (h : Tp (tW w (i : Int) (torn : Int) (av.toNat : Int) (bv.toNat : Int)) g d wr) => h.boxes)
  have hT5s : w.heap.size ≤ T5.heap.size := by rw [hT5, tW_size]; omega
  rw [← hT5] at hp1' HBX HBB
  clear hT5
  go_loopg [58] N (fun gk x58 wr => ∃ (k : Nat) (d : Dv), gk = N - k ∧ k ≤ N ∧ x58 = .int .i64 (k : Int) ∧ Laid N av k d ∧ Tp T5 g d wr)
  case atStart => exact ⟨0, _, rfl, Nat.zero_le _, rfl, Laid.start N av, hp1'⟩
  case round =>
    obtain ⟨k, d, hgk, hkN, rfl, hl, hp⟩ := hrel
    have HG := Lib.hid hgk
    clear hgk
    obtain ⟨b0, b1, b2, b3, b4, hB⟩ := HBX.out _ _ hp
    by_cases h : k < N
    · obtain ⟨d', hd', hl'⟩ := hl.next h
      have hwm : d.writes + 1 ≤ 1000000000 := by rw [hl.writes]; omega
      have HL := Lib.hid hl'
      have HP := Lib.hid hp
      have HD := Lib.hid hd'
      clear hl hl' hd' hp b4
      go_wp2_with (first
        | (go_at_call 36; (with_reducible refine (fill_sum av k _).mono ?_); rintro e w2 ⟨v2, rfl, hv2, hb2⟩
           have hp2 := HP.out.grow hb2
           have hw3 := tp_write hp2 (k : Int) hv2 hwm HD.out)
        | (go_at_call 35; (with_reducible refine hw3.mono ?_); rintro e w3 ⟨rfl, hp3⟩)
        | fail)
      go_roundg (N - (k + 1))
      case measure => have := HG.out; omega
      case rel => exact ⟨k + 1, d', rfl, by omega, by go_num, HL.out, hp3⟩
    · obtain rfl : N = k := by omega
      obtain ⟨d', hd', hl'⟩ := hl.lit ht (after := after)
      have hfu := tp_fuse hp (after : Int) (torn : Int) (by omega) hd'
      have HL := Lib.hid hl'
      clear hl hl' hd' b4 HG hp1' hp
      go_wp2_with (first
        | (go_at_call 37; (with_reducible refine hfu.mono ?_); rintro e w4 ⟨rfl, hp4⟩)
        | fail)
      go_loopg [77] after (fun gk x77 wr => ∃ (k : Nat) (d : Dv), gk = after - k ∧ k ≤ after ∧ x77 = .int .i64 (k : Int) ∧ Lit N after torn av k d ∧ Tp T5 g d wr)
      case atStart => exact ⟨0, _, rfl, Nat.zero_le _, rfl, HL.out, hp4⟩
      case round =>
        clear HL hp4 hfu
        clear d d'
        obtain ⟨k, d, hgk, hka, rfl, hl, hp⟩ := hrel
        have HG := Lib.hid hgk
        clear hgk
        obtain ⟨b0, b1, b2, b3, b4, hB⟩ := HBX.out _ _ hp
        by_cases h : k < after
        · obtain ⟨d', hd', hl'⟩ := hl.next hi h
          have hwm : d.writes + 1 ≤ 1000000000 := by rw [hl.writes]; omega
          have HL := Lib.hid hl'
          have HP := Lib.hid hp
          have HD := Lib.hid hd'
          clear hl hl' hd' hp b4
          go_wp2
          go_region_held3 (fun w' => w'.cell? ⟨w.heap.size, 0, none⟩ = some (.int .i64 (i : Int)) ∧ w'.cell? ⟨w.heap.size + 1 + 1, 0, none⟩ = some (.int .u8 (av.toNat : Int))) (go_keep)
            (first
              | (go_at_call 36; (with_reducible refine (fill_sumw av i _).mono ?_); rintro e w2 ⟨v2, rfl, hv2, hb2⟩
                 have hp2 := (HP.out.grow ((Below.refl _ _).drew)).grow hb2
                 obtain ⟨b0, b1, b2, b3, b4, hB⟩ := HBX.out _ _ hp2
                 have hw3 := tp_write hp2 (i : Int) hv2 hwm HD.out)
              | (go_at_call 35; (with_reducible refine hw3.mono ?_); rintro e w3 ⟨rfl, hp3⟩
                 obtain ⟨b0, b1, b2, b3, b4, hB⟩ := HBX.out _ _ hp3)
              | fail)
          all_goals go_wp2
          all_goals go_roundg (after - (k + 1))
          case measure => have := HG.out; omega
          case rel => exact ⟨k + 1, d', rfl, by omega, by go_num, HL.out, hp3⟩
        · obtain rfl : after = k := by omega
          obtain ⟨d', hd', hl'⟩ := hl.torn (b := bv) hi ht
          have hag := hl'.again (fl bv) (i : Int)
          have hwm : d.writes + 1 ≤ 1000000000 := by rw [hl.writes]; omega
          have hwm' : d'.writes + 1 ≤ 1000000000 := by rw [hl'.writes]; omega
          have hww := hl'.writes
          have hfi := fun w => fill_any bv w
          have hde := hl'.dead
          have HL := Lib.hid hl'
          have HP := Lib.hid hp
          have HD := Lib.hid hd'
          have HA := Lib.hid hag
          have HDE := Lib.hid hde
          have hws : ∀ wr, Tp T5 g d' wr → Calls Try.prog 38 #[.pointer (some ⟨g, 0, none⟩)] wr fun e w' => e = .returned (.int .i64 ((N : Int) + (after : Int))) ∧ wr = w' := fun wr h => (tp_writes h).mono fun e w' ⟨h1, h2⟩ => ⟨by rw [h1, hww]; simp, h2⟩
          have HWS := Lib.hid hws
          have HFI := Lib.hid hfi
          clear hl hl' hd' hp b4 hag hww hws HG hfi hde
          have hadd : IntKind.i64.wrap ((N : Int) + (after : Int)) = (N : Int) + (after : Int) := IntWalk.i64_in _ (by omega)
          go_wp2
          go_region_held3 (fun w' => w'.cell? ⟨w.heap.size, 0, none⟩ = some (.int .i64 (i : Int)) ∧ w'.cell? ⟨w.heap.size + 1 + 1 + 1, 0, none⟩ = some (.int .u8 (bv.toNat : Int))) (go_keep)
            (first
              | (go_at_call 36; (with_reducible refine (HFI.out _).mono ?_); rintro e w2 ⟨v2, rfl, hv2, hb2⟩
                 have hp2 := (HP.out.grow ((Below.refl _ _).drew)).grow hb2
                 obtain ⟨b0, b1, b2, b3, b4, hB⟩ := HBX.out _ _ hp2
                 have hw3 := tp_write hp2 (i : Int) hv2 hwm HD.out)
              | (go_at_call 36; (with_reducible refine (HFI.out _).mono ?_); rintro e w4 ⟨v4, rfl, hv4, hb4⟩
                 have hp4 := hp3.grow hb4
                 obtain ⟨b0, b1, b2, b3, b4, hB⟩ := HBX.out _ _ hp4
                 have hw5 := tp_write hp4 (i : Int) hv4 hwm' HA.out)
              | (go_at_call 35; (with_reducible refine hw5.mono ?_); rintro e w5 ⟨rfl, hp5⟩
                 obtain ⟨b0, b1, b2, b3, b4, hB⟩ := HBX.out _ _ hp5)
              | (go_at_call 35; (with_reducible refine hw3.mono ?_); rintro e w3 ⟨rfl, hp3⟩
                 obtain ⟨b0, b1, b2, b3, b4, hB⟩ := HBX.out _ _ hp3)
              | (go_at_call 38; (with_reducible refine (HWS.out _ hp5).mono ?_); rintro e w6 ⟨rfl, rfl⟩)
              | fail)
          have hre := tp_read_dead hp5 HDE.out (i : Int)
          have hq := run_eql_func_nil
          go_wp2_with (first
            | (go_at_call 39; (with_reducible refine hre.mono ?_); rintro e w7 ⟨r7, rfl, hb7⟩
               have hp7 := hp5.grow hb7
               obtain ⟨b0, b1, b2, b3, b4, hB⟩ := HBX.out _ _ hp7)
            | (go_at_call 40; (with_reducible refine (all_any g _).mono ?_); rintro e w8 ⟨rfl, rfl⟩)
            | fail)
          have hp8 := hp7.grow ((Below.refl _ _).alloc (Nat.le_refl _) (.cells #[.pointer (some ⟨g, 0, none⟩)] 41))
          have hP8 := heap_alloc_new w7 (.cells #[.pointer (some ⟨g, 0, none⟩)] 41 (0, 0))
          have hsz8 : (w7.alloc (.cells #[.pointer (some ⟨g, 0, none⟩)] 41)).heap.size = w7.heap.size + 1 := by simp
          have hP8' : (w7.alloc (.cells #[.pointer (some ⟨g, 0, none⟩)] 41)).cell? ⟨w7.heap.size, 0, none⟩ = some (.pointer (some ⟨g, 0, none⟩)) := cells_of hP8 0 _ rfl
          clear hP8
          generalize w7.alloc (.cells #[.pointer (some ⟨g, 0, none⟩)] 41) = W8 at *
          generalize w7.heap.size = b8 at *
          obtain ⟨Z8, hd8, hz8⟩ := hp8.dk
          refine (wpIn_wide (n := 3)).1 ?_
          refine wpIn_range rfl (by omega) (gf := 92) (lb := #[.pointer (some ⟨b8, 0, none⟩)]) rfl trivial (enters_of Try.func92 (by kernel_rfl) rfl)
            (all1_seq hd8 (3 - 1) (by omega) (T := fun b => b < W8.heap.size) hP8' (by show b8 < _; omega) (fun b hb => (hz8 b hb).2))
            (fun _ _ => trivial) (fun b hb => hb) (Below.refl _ _) (fun _ => rfl)
            (fun _ W => Below T5.heap.size T5 W) (fun _ _ _ => False) (ownFrom_below (Nat.le_refl _) hp8.below.size) (fun _ _ _ _ _ h _ _ => h) (fun _ A B h hk => h.trans (hk.toBelow (B := T5.heap.size) h.size (fun _ _ => trivial))) (fun _ _ _ _ h _ => h) (fun pre x => argA_own d' _ pre x) hp8.below ?a1 ?assign ?body ?done ?stop
          case assign =>
            intro l x W K hK
            have HK := Lib.hid hK
            clear hK
            simp only [encA]
            gi_wp2
            exact HK.out
          case stop =>
            rintro D c pre W _ _ h _
            exact h.elim
          case body =>
            rintro l pre ⟨k, v⟩ W hl hrec hBW ⟨hx1, hx2, hx3⟩
            simp only at hx1 hx2 hx3
            subst hx1
            obtain ⟨x0, x1, x2, x3, _, _⟩ := HBB.out W hBW
            generalize pre.length = k at *
            have hkN : k < N := by have := HL.out.n; omega
            have hpk := HL.out.pages k hkN
            rw [hpk] at hx3
            have HX3 := Lib.hid hx3
            clear hx3 hpk b0 b1 b2 b3 b4 hB hP8'
            by_cases hki : k = i
            · subst hki
              have eki : (k == k) = true := beq_self_eq_true k
              gi_wp2_with fail
              refine ⟨trivial, ?_⟩
              refine (CallsIn.inRound _ (callsIn_wide.2 (fill_sum av k _))).mono ?_
              rintro e w2 ⟨v2, rfl, hv2, hb2⟩
              have hcv2 := (show Byt w2 w2.heap.size v2 (fl (av + UInt8.ofNat k)) from hv2).strA
              have hB2 := hBW.trans (hb2.mono hBW.size)
              obtain ⟨x0, x1, x2, x3, _, _⟩ := HBB.out w2 hB2
              have HB2 := Lib.hid hB2
              clear hB2
              gi_wp2
              -- region 32
              refine wpIn_round_tailN 9 (by kernel_rfl) [isS (.int .u8 (bv.toNat : Int)), bytS (fl bv), isS (.int .i64 (torn : Int)), bytS ((fl bv).take torn), isS (.string (bsA ((fl bv).take torn))), isS (.string (bsA (fl (av + UInt8.ofNat k)))), isS (.int .i64 (torn : Int)), isS (.string (bsA ((fl (av + UInt8.ofNat k)).drop torn))), isS (.string (bsA ((fl bv).take torn) ++ bsA ((fl (av + UInt8.ofNat k)).drop torn)))] (by kernel_rfl) (by kernel_rfl) (by kernel_rfl) (by kernel_rfl) (by decide) (by kernel_rfl) (by kernel_rfl) ?_ (fun i hi => ?_) (fun a w5 hc hs => ?_)
              · rintro ⟨a, w, h⟩
                exact h
              · match i, hi with
                | 0, _ =>
                  intro a W hc hd
                  have z11 := hc.same 11 (by kernel_rfl)
                  simp only [List.getElem?_toArray, List.getElem?_cons_succ, List.getElem?_cons_zero, Option.getD_some] at z11
                  obtain ⟨q0, q1, q2, q3, _, _⟩ := HBB.out W (HB2.out.drew.trans (hc.below.mono HB2.out.size))
                  refine obl_val rfl (wanted_none rfl) ?_ rfl
                  go_simp
                | 1, _ =>
                  intro a W hc hd
                  have s0 : a.tmps[135]?.getD undef = (.int .u8 (bv.toNat : Int)) := hd 0 (by decide) (by kernel_rfl)
                  refine obl_call rfl (wanted_none rfl) (by go_simp) (HFI.out W) ?_
                  rintro e w8 ⟨v8, rfl, hv8, hb8⟩
                  exact ⟨_, rfl, hv8, hb8⟩
                | 2, _ =>
                  intro a W hc hd
                  have z9 := hc.same 9 (by kernel_rfl)
                  simp only [List.getElem?_toArray, List.getElem?_cons_succ, List.getElem?_cons_zero, Option.getD_some] at z9
                  obtain ⟨q0, q1, q2, q3, _, _⟩ := HBB.out W (HB2.out.drew.trans (hc.below.mono HB2.out.size))
                  refine obl_val rfl (wanted_none rfl) ?_ rfl
                  go_simp
                | 3, _ =>
                  intro a W hc hd
                  have s1 : (bytS (fl bv)).f (a.tmps[136]?.getD undef) W := hd 1 (by decide) (by kernel_rfl)
                  have s2 : a.tmps[137]?.getD undef = (.int .i64 (torn : Int)) := hd 2 (by decide) (by kernel_rfl)
                  obtain ⟨v3, e3, hb3⟩ := byt_head (show Byt W W.heap.size _ (fl bv) from s1) torn (by rw [fl_len]; omega) (by rw [fl_len]; exact ht)
                  refine obl_val rfl (wanted_none rfl) ?_ hb3
                  go_simp
                | 4, _ =>
                  intro a W hc hd
                  have s3 : (bytS ((fl bv).take torn)).f (a.tmps[138]?.getD undef) W := hd 3 (by decide) (by kernel_rfl)
                  have e4 := (show Byt W W.heap.size _ _ from s3).strA
                  refine obl_val rfl (wanted_none rfl) ?_ rfl
                  go_simp
                | 5, _ =>
                  intro a W hc hd
                  have z20 := hc.same 20 (by kernel_rfl)
                  simp only [List.getElem?_toArray, List.getElem?_cons_succ, List.getElem?_cons_zero, Option.getD_some] at z20
                  refine obl_val rfl (wanted_none rfl) ?_ rfl
                  go_simp
                | 6, _ =>
                  intro a W hc hd
                  have z9 := hc.same 9 (by kernel_rfl)
                  simp only [List.getElem?_toArray, List.getElem?_cons_succ, List.getElem?_cons_zero, Option.getD_some] at z9
                  obtain ⟨q0, q1, q2, q3, _, _⟩ := HBB.out W (HB2.out.drew.trans (hc.below.mono HB2.out.size))
                  refine obl_val rfl (wanted_none rfl) ?_ rfl
                  go_simp
                | 7, _ =>
                  intro a W hc hd
                  have s5 : a.tmps[140]?.getD undef = (.string (bsA (fl (av + UInt8.ofNat k)))) := hd 5 (by decide) (by kernel_rfl)
                  have s6 : a.tmps[141]?.getD undef = (.int .i64 (torn : Int)) := hd 6 (by decide) (by kernel_rfl)
                  have e7 := run_str_tail W (bsA (fl (av + UInt8.ofNat k))) torn (by rw [bsA_size, fl_len]; omega) (by rw [bsA_size, fl_len]; exact ht)
                  rw [bsA_size, bsA_tail] at e7
                  refine obl_val rfl (wanted_none rfl) ?_ rfl
                  go_simp
                | 8, _ =>
                  intro a W hc hd
                  have s4 : a.tmps[139]?.getD undef = (.string (bsA ((fl bv).take torn))) := hd 4 (by decide) (by kernel_rfl)
                  have s7 : a.tmps[142]?.getD undef = (.string (bsA ((fl (av + UInt8.ofNat k)).drop torn))) := hd 7 (by decide) (by kernel_rfl)
                  refine obl_val rfl (wanted_none rfl) ?_ rfl
                  go_simp
                  rw [bsA_size, bsA_size, List.length_take, List.length_drop, fl_len, fl_len]; omega
                | n + 9, h => exact absurd h (by omega)
              · have hfr := grow_frameN hc [(135, .int .u8 (bv.toNat : Int)), (136, a.tmps[136]?.getD undef), (137, .int .i64 (torn : Int)), (138, a.tmps[138]?.getD undef), (139, .string (bsA ((fl bv).take torn))), (140, .string (bsA (fl (av + UInt8.ofNat k)))), (141, .int .i64 (torn : Int)), (142, .string (bsA ((fl (av + UInt8.ofNat k)).drop torn))), (143, .string (bsA ((fl bv).take torn) ++ bsA ((fl (av + UInt8.ofNat k)).drop torn)))] (by kernel_rfl) (fun p hp => by
                  simp only [List.mem_cons, List.not_mem_nil, or_false] at hp
                  rcases hp with rfl | rfl | rfl | rfl | rfl | rfl | rfl | rfl | rfl
                  · exact hs 0 135 (by decide) (by kernel_rfl)
                  · rfl
                  · exact hs 2 137 (by decide) (by kernel_rfl)
                  · rfl
                  · exact hs 4 139 (by decide) (by kernel_rfl)
                  · exact hs 5 140 (by decide) (by kernel_rfl)
                  · exact hs 6 141 (by decide) (by kernel_rfl)
                  · exact hs 7 142 (by decide) (by kernel_rfl)
                  · exact hs 8 143 (by decide) (by kernel_rfl)
                  )
                generalize a.tmps[136]?.getD undef = z136 at hfr
                generalize a.tmps[138]?.getD undef = z138 at hfr
                simp only [List.range, List.range.loop, List.size_toArray, List.length_cons, List.length_nil, List.map_cons, List.map_nil, List.lookup_cons, List.lookup_nil, Nat.reduceAdd, Nat.reduceBEq, Option.getD_some, Option.getD_none, List.getElem?_toArray, List.getElem?_cons_succ, List.getElem?_cons_zero] at hfr
                subst hfr
              -- end 32
                simp only [List.drop_succ_cons, List.drop_zero]
                have hB5 := HB2.out.drew.trans (hc.below.mono HB2.out.size)
                have hb5 : Below W.heap.size W w5 := hb2.drew.trans (hc.below.mono hb2.size)
                obtain ⟨x0, x1, x2, x3, _, _⟩ := HBB.out w5 hB5
                have hx3 := HX3.out
                rw [if_pos trivial] at hx3
                have hcv3 := (hx3.below hb5).strA
                rw [← bsA_app] at hcv3
                have HB5 := Lib.hid hB5
                have Hb5 := Lib.hid hb5
                clear hs hc hx3 hB5 hb5 hcv2
                go_wp2
                gi_wp2
                exact ⟨keeps_below Hb5.out, Kept.ofBelow Hb5.out, HB5.out⟩
            · have eki : (k == i) = false := beq_eq_false_iff_ne.2 hki
              gi_wp2_with fail
              refine ⟨trivial, ?_⟩
              refine (CallsIn.inRound _ (callsIn_wide.2 (fill_sum av k _))).mono ?_
              rintro e w2 ⟨v2, rfl, hv2, hb2⟩
              have hcv2 := (show Byt w2 w2.heap.size v2 (fl (av + UInt8.ofNat k)) from hv2).strA
              have hx3 := HX3.out
              rw [if_neg hki] at hx3
              have hcv3 := (hx3.below hb2).strA
              have hB2 := hBW.trans (hb2.mono hBW.size)
              obtain ⟨x0, x1, x2, x3, _, _⟩ := HBB.out w2 hB2
              have HB2 := Lib.hid hB2
              clear hB2 hx3
              gi_wp2
              exact ⟨keeps_below hb2, Kept.ofBelow hb2, HB2.out⟩
          case done =>
            rintro D ys W hD hys hBW hK
            have hsz5 := hp8.below.size
            have H8 := Lib.hid hp8
            clear hp8 b0 b1 b2 b3 b4 hB hP8'
            go_wp2_with (go_at_call 33; refine (lives_any _).mono ?_; rintro e w9 ⟨rfl, hb9⟩
                         have hB9 := hBW.trans (hb9.mono hBW.size)
                         obtain ⟨_, _, _, _, x4, hBw⟩ := HBB.out w9 hB9
                         have e5 := cells_of x4 0 _ rfl
                         have f5 := free_of x4 0)
            have hDl := lt_of_block hK
            have hK9 := (hb9.block D hDl).trans hK
            have hK6 := (KeepsOthers.setCell w9 ⟨w.heap.size + 1 + 1 + 1 + 1, 0, none⟩ (.bool true)).same D _ hK9 rfl
            refine ⟨by simp, .inl ⟨_, _, rfl, run_takeDeferred hK6, ?_⟩⟩
            have hE6 : (w9.setCell ⟨w.heap.size + 1 + 1 + 1 + 1, 0, none⟩ (.bool true)).cell? ⟨w.heap.size + 1 + 1 + 1 + 1, 0, none⟩ = some (.bool true) := World.cell?_setCell_same' _ _ _ (by rw [e5]; rfl)
            have hc6 := cell_kept hE6 (grownBy_putObj' _ D (.deferred none)) (fun r e => by cases e; exact ⟨_, hK6, rfl⟩)
            refine ⟨.bool true, ?_, rfl, (hBw.setCell (p := ⟨w.heap.size + 1 + 1 + 1 + 1, 0, none⟩) (by show w.heap.size ≤ w.heap.size + 1 + 1 + 1 + 1; omega) _).trans (belowK_b (w := w) (Nat.le_refl _) _ D _ _ (by have := H8.out.below.size; omega) hK6 rfl rfl)⟩
            simp [results, Try.results8, go_sem, hc6]
theorem torn_any {w : World} (many : Int) (_h0 : -9223372036854775808 ≤ many ∧ many ≤ 9223372036854775807) (i : Int) (_h1 : -9223372036854775808 ≤ i ∧ i ≤ 9223372036854775807) (after : Int) (_h2 : -9223372036854775808 ≤ after ∧ after ≤ 9223372036854775807)
    (torn : Int) (_h3 : -9223372036854775808 ≤ torn ∧ torn ≤ 9223372036854775807) (a : Nat) (ha : a < 256) (b : Nat) (hb : b < 256) :
    Calls Try.prog 8 #[.int .i64 many, .int .i64 i, .int .i64 after, .int .i64 torn, .int .u8 (a : Int), .int .u8 (b : Int)] w (TornPost w) := by
  by_cases h : many < 1 ∨ 40 < many ∨ i < 0 ∨ many ≤ i ∨ after < 0 ∨ 40 < after ∨ torn < 0 ∨ 64 < torn
  · exact torn_out many i after torn a b h
  · obtain ⟨N, rfl⟩ : ∃ N : Nat, many = (N : Int) := ⟨many.toNat, by omega⟩
    obtain ⟨i, rfl⟩ : ∃ k : Nat, i = (k : Int) := ⟨i.toNat, by omega⟩
    obtain ⟨af, rfl⟩ : ∃ k : Nat, after = (k : Int) := ⟨after.toNat, by omega⟩
    obtain ⟨t, rfl⟩ : ∃ k : Nat, torn = (k : Int) := ⟨torn.toNat, by omega⟩
    have e1 : a = (UInt8.ofNat a).toNat := by simp; omega
    have e2 : b = (UInt8.ofNat b).toNat := by simp; omega
    rw [e1, e2]
    exact torn_in N i af t (UInt8.ofNat a) (UInt8.ofNat b) (by omega) (by omega) (by omega) (by omega) (by omega)
end Go.Proofs.Ytmcjefdnkcpghaa
