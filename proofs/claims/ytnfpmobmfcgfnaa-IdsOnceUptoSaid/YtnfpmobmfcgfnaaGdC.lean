/- THE WALK OF octroiref08.GoodDoc (printed by gen/gengdc.py). -/
import Derived.Test.YtnfpmobmfcgfnaaGdB
import Derived.Test.YtnfpmobmfcgfnaaGr2
namespace Go.Proofs.Ytnfpmobmfcgfnaa
open Go.RowKit
set_option maxRecDepth 100000 in
set_option maxHeartbeats 8000000 in
theorem rgooddoc_any {w : World} {B : Nat} {v : Value} {o : Dm} (h : DmV w B v o) (hB : B ≤ w.heap.size) (hn : o.num.size ≤ 9223372036854775807) (hl : o.ls.length ≤ 100000) :
    Calls Try.prog 14 #[v] w fun e w' => e = .returned (.bool (goodDocB o)) ∧ Below w.heap.size w w' := by
  obtain ⟨lv, rfl, hls, hok⟩ := h
  have hal := (Below.refl w.heap.size w).alloc (Nat.le_refl _) (.cells (o.vs lv) 25)
  have hbx := DBox.made w o lv
  obtain ⟨A, c, rfl, hcl, hcm⟩ := hls.form
  obtain ⟨id, sale, cred, ref, day, cty, num, cur, ls⟩ := o
  unfold goodDocB
  simp only [Dm.vs] at *
  have k1 := fun W => rin_any (id.size : Int) 1 64 W
  have k4 := fun W => rin_any day 0 2932896 W
  have k5 := fun W => rcountry_any cty W
  have k6 := fun W => rright_any cty num hn W
  have k7 := fun W => rcur_any cur W
  have k8 := fun W => rin_any (ls.length : Int) 1 64 W
  unfold RightPost at k6
  generalize inB (id.size : Int) 1 64 = b1 at *
  generalize inB day 0 2932896 = b4 at *
  generalize countryL cty.data.toList = b5 at *
  generalize rightL cty.data.toList num.data.toList = b6 at *
  generalize curL cur.data.toList = b7 at *
  generalize inB (ls.length : Int) 1 64 = b8 at *
  generalize hR : (ls.all fun l => goodLineB l sale) = R at *
  have HR := Lib.hid hR
  have hG : ∀ G, (b1 && decide (ref.size ≤ 64) && (cred == !ref.toList.isEmpty) && b4 && b5 && b8 && (num.toList.isEmpty || b6) && (cur.toList.isEmpty || b7) && R) = G → ((b1 && decide (ref.size ≤ 64) && (cred == !ref.toList.isEmpty) && b4 && b5 && b8) && (((num.toList.isEmpty || b6) && (cur.toList.isEmpty || b7)) && R)) = G := fun G h => by rw [← h]; simp only [Bool.and_assoc]
  generalize hG1 : (b1 && decide (ref.size ≤ 64) && (cred == !ref.toList.isEmpty) && b4 && b5 && b8 && (num.toList.isEmpty || b6) && (cur.toList.isEmpty || b7) && R) = G at *
  have HG := Lib.hid (hG G rfl)
  have HLS := Lib.hid hls
  have K1 := Lib.hid k1
  have K4 := Lib.hid k4
  have K5 := Lib.hid k5
  have K6 := Lib.hid k6
  have K7 := Lib.hid k7
  have K8 := Lib.hid k8
  have HAL := Lib.hid hal
  have HBX := Lib.hid hbx
  clear hG hG1 hR k1 k4 k5 k6 k7 k8 hal hbx hls hok
  go_enter Try.func14, Try.ntmps14
  go_upto_region 1 with fail
  generalize World.alloc w _ = w1 at HAL HBX ⊢
  have hb0 := HBX.out
  obtain ⟨c0, c1, c2, c3, c4, c5, c6, c7, c8⟩ := hb0
  simp only at c0 c1 c2 c3 c4 c5 c6 c7 c8
  go_cut [41] from 4 (fun x41 wx => x41 = .bool (!(b1 && decide (ref.size ≤ 64) && (cred == !ref.toList.isEmpty) && b4 && b5 && b8)) ∧ w1 = wx)
  case first =>
    cases b1
    · skip
      go_wp2_with (first
        | (go_at_call 40; first | ((with_reducible refine (K1.out _).mono ?_); rintro e w' ⟨rfl, rfl⟩) | ((with_reducible refine (K4.out _).mono ?_); rintro e w' ⟨rfl, rfl⟩) | ((with_reducible refine (K8.out _).mono ?_); rintro e w' ⟨rfl, rfl⟩))
        | (go_at_call 41; first | ((with_reducible refine (K5.out _).mono ?_); rintro e w' ⟨rfl, rfl⟩)))
      go_meet
      exact ⟨congrArg Value.bool (by simp []), rfl⟩
    by_cases h2 : ref.size ≤ 64
    case neg =>
      have e2 : decide ((64 : Int) < (ref.size : Int)) = true := decide_eq_true (by omega)
      go_wp2_with (first
        | (go_at_call 40; first | ((with_reducible refine (K1.out _).mono ?_); rintro e w' ⟨rfl, rfl⟩) | ((with_reducible refine (K4.out _).mono ?_); rintro e w' ⟨rfl, rfl⟩) | ((with_reducible refine (K8.out _).mono ?_); rintro e w' ⟨rfl, rfl⟩))
        | (go_at_call 41; first | ((with_reducible refine (K5.out _).mono ?_); rintro e w' ⟨rfl, rfl⟩)))
      go_meet
      exact ⟨congrArg Value.bool (by simp [h2]), rfl⟩
    have e2 : decide ((64 : Int) < (ref.size : Int)) = false := decide_eq_false (by omega)
    have H2 := Lib.hid h2
    clear h2
    cases cred
    · cases hre : ref.toList.isEmpty
      · skip
        go_wp2_with (first
          | (go_at_call 40; first | ((with_reducible refine (K1.out _).mono ?_); rintro e w' ⟨rfl, rfl⟩) | ((with_reducible refine (K4.out _).mono ?_); rintro e w' ⟨rfl, rfl⟩) | ((with_reducible refine (K8.out _).mono ?_); rintro e w' ⟨rfl, rfl⟩))
          | (go_at_call 41; first | ((with_reducible refine (K5.out _).mono ?_); rintro e w' ⟨rfl, rfl⟩)))
        go_meet
        exact ⟨congrArg Value.bool (by simp [hre]), rfl⟩
      · skip
        cases b4
        · skip
          go_wp2_with (first
            | (go_at_call 40; first | ((with_reducible refine (K1.out _).mono ?_); rintro e w' ⟨rfl, rfl⟩) | ((with_reducible refine (K4.out _).mono ?_); rintro e w' ⟨rfl, rfl⟩) | ((with_reducible refine (K8.out _).mono ?_); rintro e w' ⟨rfl, rfl⟩))
            | (go_at_call 41; first | ((with_reducible refine (K5.out _).mono ?_); rintro e w' ⟨rfl, rfl⟩)))
          go_meet
          exact ⟨congrArg Value.bool (by simp [hre]), rfl⟩
        cases b5
        · skip
          go_wp2_with (first
            | (go_at_call 40; first | ((with_reducible refine (K1.out _).mono ?_); rintro e w' ⟨rfl, rfl⟩) | ((with_reducible refine (K4.out _).mono ?_); rintro e w' ⟨rfl, rfl⟩) | ((with_reducible refine (K8.out _).mono ?_); rintro e w' ⟨rfl, rfl⟩))
            | (go_at_call 41; first | ((with_reducible refine (K5.out _).mono ?_); rintro e w' ⟨rfl, rfl⟩)))
          go_meet
          exact ⟨congrArg Value.bool (by simp [hre]), rfl⟩
        go_wp2_with (first
          | (go_at_call 40; first | ((with_reducible refine (K1.out _).mono ?_); rintro e w' ⟨rfl, rfl⟩) | ((with_reducible refine (K4.out _).mono ?_); rintro e w' ⟨rfl, rfl⟩) | ((with_reducible refine (K8.out _).mono ?_); rintro e w' ⟨rfl, rfl⟩))
          | (go_at_call 41; first | ((with_reducible refine (K5.out _).mono ?_); rintro e w' ⟨rfl, rfl⟩)))
        go_meet
        exact ⟨congrArg Value.bool (by simp [hre, H2.out]), rfl⟩
    · cases hre : ref.toList.isEmpty
      · skip
        cases b4
        · skip
          go_wp2_with (first
            | (go_at_call 40; first | ((with_reducible refine (K1.out _).mono ?_); rintro e w' ⟨rfl, rfl⟩) | ((with_reducible refine (K4.out _).mono ?_); rintro e w' ⟨rfl, rfl⟩) | ((with_reducible refine (K8.out _).mono ?_); rintro e w' ⟨rfl, rfl⟩))
            | (go_at_call 41; first | ((with_reducible refine (K5.out _).mono ?_); rintro e w' ⟨rfl, rfl⟩)))
          go_meet
          exact ⟨congrArg Value.bool (by simp [hre]), rfl⟩
        cases b5
        · skip
          go_wp2_with (first
            | (go_at_call 40; first | ((with_reducible refine (K1.out _).mono ?_); rintro e w' ⟨rfl, rfl⟩) | ((with_reducible refine (K4.out _).mono ?_); rintro e w' ⟨rfl, rfl⟩) | ((with_reducible refine (K8.out _).mono ?_); rintro e w' ⟨rfl, rfl⟩))
            | (go_at_call 41; first | ((with_reducible refine (K5.out _).mono ?_); rintro e w' ⟨rfl, rfl⟩)))
          go_meet
          exact ⟨congrArg Value.bool (by simp [hre]), rfl⟩
        go_wp2_with (first
          | (go_at_call 40; first | ((with_reducible refine (K1.out _).mono ?_); rintro e w' ⟨rfl, rfl⟩) | ((with_reducible refine (K4.out _).mono ?_); rintro e w' ⟨rfl, rfl⟩) | ((with_reducible refine (K8.out _).mono ?_); rintro e w' ⟨rfl, rfl⟩))
          | (go_at_call 41; first | ((with_reducible refine (K5.out _).mono ?_); rintro e w' ⟨rfl, rfl⟩)))
        go_meet
        exact ⟨congrArg Value.bool (by simp [hre, H2.out]), rfl⟩
      · skip
        go_wp2_with (first
          | (go_at_call 40; first | ((with_reducible refine (K1.out _).mono ?_); rintro e w' ⟨rfl, rfl⟩) | ((with_reducible refine (K4.out _).mono ?_); rintro e w' ⟨rfl, rfl⟩) | ((with_reducible refine (K8.out _).mono ?_); rintro e w' ⟨rfl, rfl⟩))
          | (go_at_call 41; first | ((with_reducible refine (K5.out _).mono ?_); rintro e w' ⟨rfl, rfl⟩)))
        go_meet
        exact ⟨congrArg Value.bool (by simp [hre]), rfl⟩
  case rest =>
  obtain ⟨rfl, rfl⟩ := hcut
  generalize (b1 && decide (ref.size ≤ 64) && (cred == !ref.toList.isEmpty) && b4 && b5 && b8) = C at *
  have hG := HG.out
  cases C
  · simp only [Bool.false_and] at hG
    subst hG
    go_wp2
    go_ret
    exact ⟨rfl, HAL.out⟩
  simp only [Bool.true_and] at hG
  have HG2 := Lib.hid hG
  clear hG HG
  go_upto_region 3 with fail
  go_cut [63] from 42 (fun x63 wx => x63 = .bool (!((num.toList.isEmpty || b6) && (cur.toList.isEmpty || b7))) ∧ Below w1.heap.size w1 wx)
  case first =>
    have k6 := K6.out w1
    cases hne : num.toList.isEmpty
    · skip
      cases b6
      · skip
        go_wp2_with (first
            | (go_at_call 42; (with_reducible refine k6.mono ?_); rintro e w2 ⟨rfl, hb2⟩
               have hy := HBX.out.below hb2
               obtain ⟨y0, y1, y2, y3, y4, y5, y6, y7, y8⟩ := hy
               simp only at y0 y1 y2 y3 y4 y5 y6 y7 y8)
            | (go_at_call 43; (with_reducible refine (K7.out _).mono ?_); rintro e w3 ⟨rfl, rfl⟩))
        go_meet
        exact ⟨congrArg Value.bool (by simp [hne]), hb2⟩
      cases hce : cur.toList.isEmpty
      · skip
        go_wp2_with (first
            | (go_at_call 42; (with_reducible refine k6.mono ?_); rintro e w2 ⟨rfl, hb2⟩
               have hy := HBX.out.below hb2
               obtain ⟨y0, y1, y2, y3, y4, y5, y6, y7, y8⟩ := hy
               simp only at y0 y1 y2 y3 y4 y5 y6 y7 y8)
            | (go_at_call 43; (with_reducible refine (K7.out _).mono ?_); rintro e w3 ⟨rfl, rfl⟩))
        go_meet
        exact ⟨congrArg Value.bool (by simp [hne, hce]), hb2⟩
      · skip
        go_wp2_with (first
            | (go_at_call 42; (with_reducible refine k6.mono ?_); rintro e w2 ⟨rfl, hb2⟩
               have hy := HBX.out.below hb2
               obtain ⟨y0, y1, y2, y3, y4, y5, y6, y7, y8⟩ := hy
               simp only at y0 y1 y2 y3 y4 y5 y6 y7 y8)
            | (go_at_call 43; (with_reducible refine (K7.out _).mono ?_); rintro e w3 ⟨rfl, rfl⟩))
        go_meet
        exact ⟨congrArg Value.bool (by simp [hne, hce]), hb2⟩
    · skip
      cases hce : cur.toList.isEmpty
      · skip
        go_wp2_with (go_at_call 43; (with_reducible refine (K7.out _).mono ?_); rintro e w3 ⟨rfl, rfl⟩)
        go_meet
        exact ⟨congrArg Value.bool (by simp [hne, hce]), Below.refl _ _⟩
      · skip
        go_wp2_with (go_at_call 43; (with_reducible refine (K7.out _).mono ?_); rintro e w3 ⟨rfl, rfl⟩)
        go_meet
        exact ⟨congrArg Value.bool (by simp [hne, hce]), Below.refl _ _⟩
  case rest =>
  obtain ⟨rfl, hbc⟩ := hcut
  generalize ((num.toList.isEmpty || b6) && (cur.toList.isEmpty || b7)) = D at *
  have HAL2 := Lib.hid (HAL.out.trans (hbc.mono HAL.out.size))
  have hbx2 := HBX.out.below hbc
  have HBX2 := Lib.hid hbx2
  have hG := HG2.out
  clear HG2 c0 c1 c2 c3 c4 c5 c6 c7 c8 hbc hbx2
  cases D
  · simp only [Bool.false_and] at hG
    subst hG
    go_wp2
    go_ret
    exact ⟨rfl, HAL2.out⟩
  simp only [Bool.true_and] at hG
  subst hG
  generalize wc = w2 at HAL2 HBX2 ⊢
  go_wp2
  go_loopg [3] ls.length (fun gk x3 wr => ∃ k : Nat, gk = ls.length - k ∧ k ≤ ls.length ∧ x3 = .int .i64 (k : Int) ∧ ((ls.drop k).all fun l => goodLineB l sale) = R ∧ Below w2.heap.size w2 wr)
  case atStart => exact ⟨0, rfl, Nat.zero_le _, rfl, HR.out, Below.refl _ _⟩
  case round =>
    obtain ⟨k, hgk, hk, rfl, hal, hbel⟩ := hrel
    have HG := Lib.hid hgk
    have HA := Lib.hid hal
    have HB := Lib.hid hbel
    have hbx3 := HBX2.out.below hbel
    obtain ⟨c0, c1, c2, c3, c4, c5, c6, c7, c8⟩ := hbx3
    simp only at c0 c1 c2 c3 c4 c5 c6 c7 c8
    clear hgk hal hbel
    by_cases h : k < ls.length
    · have hls := HLS.out.below ((HAL2.out.trans (HB.out.mono HAL2.out.size)).mono hB)
      obtain ⟨ad, c', hv, hadB, hok, hat⟩ := hls.at_ k h
      cases hv
      have hal := HA.out
      rw [List.drop_eq_getElem_cons h, List.all_cons] at hal
      have hgl := fun W => rgoodline_any ls[k] sale W
      generalize goodLineB ls[k] sale = X at *
      generalize ls[k] = o at *
      obtain ⟨sup, cat, fr, tw, pl, am, gr, co, mx⟩ := o
      simp only [Ln.vs] at hgl
      have HGL := Lib.hid hgl
      have HAT := Lib.hid (fun W (hW : Below wr.heap.size wr W) => hat.keep (B := wr.heap.size) (w' := W) (Nat.lt_of_lt_of_le (by rw [addr_add_block]; exact hadB) (Nat.le_trans hB (Nat.le_trans HAL2.out.size HB.out.size))) (fun p hp => hW.cell hp))
      have HBW := Lib.hid (fun W (hW : Below wr.heap.size wr W) => (HBX2.out.below HB.out).below hW)
      have HAL3 := Lib.hid hal
      have i1 : (0 : Int) ≤ (k : Int) := by omega
      have i2 : (k : Int) < (ls.length : Int) := by omega
      have i3 : IntKind.i64.wrap ((k : Int) + 1) = (k : Int) + 1 := by rw [IntKind.wrap_i64]; omega
      clear hok hal hgl hat hls
      go_upto_region 8 with fail
      refine wp_region_sp (by kernel_rfl) [isS (.pointer (some ⟨w.heap.size, 8, none⟩)), isS (.slice (some ad) ls.length c), isS (.int .i64 (k : Int)), isS (.pointer (some (ad.add (k * 9)))), isS (.agg #[.int .i64 sup, .int .i64 cat, .string fr, .string tw, .string pl, .int .i64 am, .bool gr, .int .i64 co, .bool mx]), isS (.pointer (some ⟨w.heap.size, 1, none⟩)), isS (.bool sale), isS (.bool X), isS (.bool (!X))] (by kernel_rfl) (by kernel_rfl) (fun q hq => ?_) (fun a' w3 hc hs => ?_)
      · match q, hq with
        | 0, _ =>
          intro a W hc hd
          have z1 := hc.same 1 (by kernel_rfl)
          simp only [List.getElem?_toArray, List.getElem?_cons_succ, List.getElem?_cons_zero, Option.getD_some] at z1
          refine obl_val rfl (wanted_none rfl) ?_ rfl
          go_simp
        | 1, _ =>
          intro a W hc hd
          have s0 : a.tmps[71]?.getD undef = (.pointer (some ⟨w.heap.size, 8, none⟩)) := hd 0 (by kernel_rfl)
          obtain ⟨q0, q1, q2, q3, q4, q5, q6, q7, q8⟩ := HBW.out W ((Below.refl wr.heap.size wr).drew.trans hc.below)
          simp only at q0 q1 q2 q3 q4 q5 q6 q7 q8
          refine obl_val rfl (wanted_none rfl) ?_ rfl
          go_simp
        | 2, _ =>
          intro a W hc hd
          have z3 := hc.same 3 (by kernel_rfl)
          simp only [List.getElem?_toArray, List.getElem?_cons_succ, List.getElem?_cons_zero, Option.getD_some] at z3
          refine obl_val rfl (wanted_none rfl) ?_ rfl
          go_simp
        | 3, _ =>
          intro a W hc hd
          have s1 : a.tmps[72]?.getD undef = (.slice (some ad) ls.length c) := hd 1 (by kernel_rfl)
          have s2 : a.tmps[73]?.getD undef = (.int .i64 (k : Int)) := hd 2 (by kernel_rfl)
          refine obl_val rfl (wanted_none rfl) ?_ rfl
          go_simp
        | 4, _ =>
          intro a W hc hd
          have s3 : a.tmps[74]?.getD undef = (.pointer (some (ad.add (k * 9)))) := hd 3 (by kernel_rfl)
          obtain ⟨q0, q1, q2, q3, q4, q5, q6, q7, q8⟩ := HAT.out W ((Below.refl wr.heap.size wr).drew.trans hc.below)
          simp only at q0 q1 q2 q3 q4 q5 q6 q7 q8
          refine obl_val rfl (wanted_none rfl) ?_ rfl
          go_simp
        | 5, _ =>
          intro a W hc hd
          have z1 := hc.same 1 (by kernel_rfl)
          simp only [List.getElem?_toArray, List.getElem?_cons_succ, List.getElem?_cons_zero, Option.getD_some] at z1
          refine obl_val rfl (wanted_none rfl) ?_ rfl
          go_simp
        | 6, _ =>
          intro a W hc hd
          have s5 : a.tmps[76]?.getD undef = (.pointer (some ⟨w.heap.size, 1, none⟩)) := hd 5 (by kernel_rfl)
          obtain ⟨q0, q1, q2, q3, q4, q5, q6, q7, q8⟩ := HBW.out W ((Below.refl wr.heap.size wr).drew.trans hc.below)
          simp only at q0 q1 q2 q3 q4 q5 q6 q7 q8
          refine obl_val rfl (wanted_none rfl) ?_ rfl
          go_simp
        | 7, _ =>
          intro a W hc hd
          have s4 : a.tmps[75]?.getD undef = (.agg #[.int .i64 sup, .int .i64 cat, .string fr, .string tw, .string pl, .int .i64 am, .bool gr, .int .i64 co, .bool mx]) := hd 4 (by kernel_rfl)
          have s6 : a.tmps[77]?.getD undef = (.bool sale) := hd 6 (by kernel_rfl)
          refine obl_call rfl (wanted_none rfl) (by go_simp) (HGL.out W) ?_
          rintro e w8 ⟨rfl, hb8⟩
          exact ⟨_, rfl, rfl, hb8⟩
        | 8, _ =>
          intro a W hc hd
          have s7 : a.tmps[78]?.getD undef = (.bool X) := hd 7 (by kernel_rfl)
          refine obl_val rfl (wanted_none rfl) ?_ rfl
          go_simp
        | n + 9, h => exact absurd h (by simp)
      · skip
        have hfr := grow_frame hc [(71, (.pointer (some ⟨w.heap.size, 8, none⟩))), (72, (.slice (some ad) ls.length c)), (73, (.int .i64 (k : Int))), (74, (.pointer (some (ad.add (k * 9))))), (75, (.agg #[.int .i64 sup, .int .i64 cat, .string fr, .string tw, .string pl, .int .i64 am, .bool gr, .int .i64 co, .bool mx])), (76, (.pointer (some ⟨w.heap.size, 1, none⟩))), (77, (.bool sale)), (78, (.bool X)), (79, (.bool (!X)))] (by kernel_rfl) (fun p hp => by
            simp only [List.mem_cons, List.not_mem_nil, or_false] at hp
            rcases hp with rfl | rfl | rfl | rfl | rfl | rfl | rfl | rfl | rfl
            · exact hs 0 71 (by decide) (by kernel_rfl)
            · exact hs 1 72 (by decide) (by kernel_rfl)
            · exact hs 2 73 (by decide) (by kernel_rfl)
            · exact hs 3 74 (by decide) (by kernel_rfl)
            · exact hs 4 75 (by decide) (by kernel_rfl)
            · exact hs 5 76 (by decide) (by kernel_rfl)
            · exact hs 6 77 (by decide) (by kernel_rfl)
            · exact hs 7 78 (by decide) (by kernel_rfl)
            · exact hs 8 79 (by decide) (by kernel_rfl)
            )
        simp only [List.range, List.range.loop, List.size_toArray, List.length_cons, List.length_nil, List.map_cons, List.map_nil, List.lookup_cons, List.lookup_nil, Nat.reduceAdd, Nat.reduceBEq, Option.getD_some, Option.getD_none, List.getElem?_toArray, List.getElem?_cons_succ, List.getElem?_cons_zero] at hfr
        subst hfr
        have HB3 := Lib.hid (HB.out.trans (((Below.refl wr.heap.size wr).drew.trans hc.below).mono HB.out.size))
        have hR := HAL3.out
        clear hc hs
        cases X
        · simp only [Bool.false_and] at hR
          subst hR
          go_wp2
          go_ret
          exact ⟨rfl, HAL2.out.trans (HB3.out.mono HAL2.out.size)⟩
        · simp only [Bool.true_and] at hR
          have HAL4 := Lib.hid hR
          clear hR
          go_wp2
          go_roundg (ls.length - (k + 1))
          case measure => have := HG.out; omega
          case rel => exact ⟨k + 1, rfl, by omega, by simp, HAL4.out, HB3.out⟩
    · obtain rfl : k = ls.length := by omega
      have hR := HA.out
      rw [List.drop_length, List.all_nil] at hR
      subst hR
      go_wp2
      go_ret
      exact ⟨rfl, HAL2.out.trans (HB.out.mono HAL2.out.size)⟩
end Go.Proofs.Ytnfpmobmfcgfnaa
