/- THE WALK OF octroiref08.Good (printed by gen/gengoo.py). -/
import Derived.Test.YtnfpmobmfcgfnaaPq
import Derived.Test.YtnfpmobmfcgfnaaPo
import Derived.Test.YtnfpmobmfcgfnaaPl
import Derived.Test.YtnfpmobmfcgfnaaPj
namespace Go.Proofs.Ytnfpmobmfcgfnaa
open Go.RowKit
/-- the command with the fields that its kind has, as a value -/
def bareS (c : Cm) : Sp := ⟨fun x W => ∃ lv', x = .agg ((bareC c).vs lv') ∧ Lns W W.heap.size lv' (bareC c).doc.ls, fun _ _ _ h hb => by
 obtain ⟨lv', e, h1⟩ := h
 exact ⟨lv', e, (h1.below hb).more hb.size⟩⟩
theorem rsm_pre {w w1 : World} {B : Nat} {A0 : Option Addr} {m0 : Nat} {c : Cm} {V : Array Value} (HV : Hid (c.vs (.slice A0 c.doc.ls.length m0) = V)) (HLS : Hid (∀ W, Below w.heap.size w W → Lns W B (.slice A0 c.doc.ls.length m0) c.doc.ls)) (HB1 : Hid (Below w.heap.size w w1)) (HOK : Hid c.ok) (hB : B ≤ w.heap.size) (hl : c.doc.ls.length ≤ 100000) :
  ∀ (W : World), Below w1.heap.size w1 W → ∀ lv', Lns W W.heap.size lv' (bareC c).doc.ls → Calls Try.prog 34 #[.agg V, .agg ((bareC c).vs lv')] W fun e w' => e = .returned (.bool (decide (c = bareC c))) ∧ Below W.heap.size W w' := fun W hW lv' hl' => by
 rw [← HV.out]
 exact rcsame_any (w := W) (va := .agg (c.vs (.slice A0 c.doc.ls.length m0))) (vb := .agg ((bareC c).vs lv')) (a := c) (b := bareC c) ⟨_, rfl, HLS.out W (HB1.out.trans (hW.mono HB1.out.size)), HOK.out⟩ (Nat.le_trans hB (HB1.out.trans (hW.mono HB1.out.size)).size) ⟨lv', rfl, hl', bare_ok HOK.out⟩ (Nat.le_refl _) hl
set_option maxRecDepth 100000 in
set_option maxHeartbeats 16000000 in
theorem rgood_k1 {w : World} {B : Nat} {v : Value} {c : Cm} (hv : CmV w B v c) (hB : B ≤ w.heap.size) (hl : c.doc.ls.length ≤ 100000) (hk : c.kind = 1) :
  Calls Try.prog 27 #[v] w fun e w' => e = .returned (.bool (goodCB c)) ∧ Below w.heap.size w w' := by
 obtain ⟨A0, m0, V, rfl, HV, HV2, HVI, HB1, HX1, HLS, HOK⟩ := cmd_pre hv hB
 clear hv
 generalize hG : goodCB c = G
 unfold goodCB at hG
 have HG := Lib.hid hG
 clear hG
 go_enter Try.func27, Try.ntmps27
 go_upto_region 1 with fail
 generalize World.alloc w _ = w1 at *
 generalize hb : w.heap.size = b1 at HX1 ⊢
 have HBB := Lib.hid hb
 clear hb

 have HX := Lib.hid (fun W (hW : Below w1.heap.size w1 W) => HX1.out.below hW)
 have hba := fun W => bare_any c A0 c.doc.ls.length m0 W
 simp only [HV.out] at hba
 unfold BarePost at hba
 have hsm := rsm_pre HV HLS HB1 HOK hB hl
 generalize decide (c = bareC c) = Z at hsm HG
 have HBA := Lib.hid hba
 have HSM := Lib.hid hsm
 have HDC := Lib.hid (hdoc_pre (D := (bareC c).doc) HLS HB1 hB)
 clear hba hsm
 refine wp_region_sp (by kernel_rfl) [isS (.agg V), isS (.agg V), bareS c, isS (.bool Z), isS (.bool (!Z))] (by kernel_rfl) (by kernel_rfl) (fun q hq => ?_) (fun a w2 hc hs => ?_)
 ·match q, hq with
  | 0, _ =>
   intro a W hc hd
   have z1 := hc.same 1 (by kernel_rfl)
   simp only [List.getElem?_toArray, List.getElem?_cons_succ, List.getElem?_cons_zero, Option.getD_some] at z1
   refine obl_val rfl (wanted_none rfl) ?_ rfl
   rw [← HV.out]
   exact exec_load_cmd rfl (eval_tmp z1) (HX.out W ((Below.refl w1.heap.size w1).drew.trans hc.below))
  | 1, _ =>
   intro a W hc hd
   have z1 := hc.same 1 (by kernel_rfl)
   simp only [List.getElem?_toArray, List.getElem?_cons_succ, List.getElem?_cons_zero, Option.getD_some] at z1
   refine obl_val rfl (wanted_none rfl) ?_ rfl
   rw [← HV.out]
   exact exec_load_cmd rfl (eval_tmp z1) (HX.out W ((Below.refl w1.heap.size w1).drew.trans hc.below))
  | 2, _ =>
   intro a W hc hd
   have s1 : a.tmps[6]?.getD undef = (.agg V) := hd 1 (by kernel_rfl)
   refine obl_call rfl (wanted_none rfl) (by go_simp) (HBA.out W) ?_
   rintro e w8 ⟨lv', rfl, alt, hb8⟩
   exact ⟨_, rfl, ⟨lv', rfl, HDC.out lv' w8 (((Below.refl w1.heap.size w1).drew.trans hc.below).trans (hb8.mono ((Below.refl w1.heap.size w1).drew.trans hc.below).size)) alt⟩, hb8⟩
  | 3, _ =>
   intro a W hc hd
   have s0 : a.tmps[5]?.getD undef = (.agg V) := hd 0 (by kernel_rfl)
   have s2 : (bareS c).f (a.tmps[7]?.getD undef) W := hd 2 (by kernel_rfl)
   obtain ⟨lv', sb, hl'⟩ := s2
   refine obl_call rfl (wanted_none rfl) (by go_simp) (HSM.out W ((Below.refl w1.heap.size w1).drew.trans hc.below) lv' hl') ?_
   rintro e w8 ⟨rfl, hb8⟩
   exact ⟨_, rfl, rfl, hb8⟩
  | 4, _ =>
   intro a W hc hd
   have s3 : a.tmps[8]?.getD undef = (.bool Z) := hd 3 (by kernel_rfl)
   refine obl_val rfl (wanted_none rfl) ?_ rfl
   go_simp
  | n + 5, h => exact absurd h (by simp)
 have hfr := grow_frame hc [(5, (.agg V)), (6, (.agg V)), (7, a.tmps[7]?.getD undef), (8, (.bool Z)), (9, (.bool (!Z)))] (by kernel_rfl) (fun p hp => by
   simp only [List.mem_cons, List.not_mem_nil, or_false] at hp
   rcases hp with rfl | rfl | rfl | rfl | rfl
   ·exact hs 0 5 (by decide) (by kernel_rfl)
   ·exact hs 1 6 (by decide) (by kernel_rfl)
   ·rfl
   ·exact hs 3 8 (by decide) (by kernel_rfl)
   ·exact hs 4 9 (by decide) (by kernel_rfl)
   )
 generalize a.tmps[7]?.getD undef = z7 at hfr
 simp only [List.range, List.range.loop, List.size_toArray, List.length_cons, List.length_nil, List.map_cons, List.map_nil, List.lookup_cons, List.lookup_nil, Nat.reduceAdd, Nat.reduceBEq, Option.getD_some, Option.getD_none, List.getElem?_toArray, List.getElem?_cons_succ, List.getElem?_cons_zero] at hfr
 subst hfr
 have HB2 := Lib.hid ((Below.refl w1.heap.size w1).drew.trans hc.below)
 clear hc hs
 cases Z
 ·have hG := HG.out
  subst hG
  go_wp2
  go_ret
  exact ⟨rfl, HB1.out.trans (HB2.out.mono HB1.out.size)⟩
 obtain ⟨c0, c1, c2, c3, c4, c5, c6, c7, c8, c9, c10, c11, c12, c13, c14, c15, c16, c17, c18, c19, c20, c21⟩ := (HX.out w2 HB2.out).box
 have h1 := fun W => rin_any c.day 0 2932896 W
 have h2 := fun W => rin_any c.til c.day 2932896 W
 have hss := str_ref c.day c.til
 generalize inB c.day 0 2932896 = DD at h1 hss
 generalize inB c.til c.day 2932896 = UU at h2 hss
 generalize eS : strB c.day c.til = SS at hss
 have HSS := Lib.hid hss
 have HES := Lib.hid eS
 have H1 := Lib.hid h1
 have H2 := Lib.hid h2
 clear hss eS h1 h2
 go_upto_region 3 with fail
 go_cut [3] from 10 to 19 (fun x3 wx => x3 = .bool SS ∧ w2 = wx)
 case first =>
  have hss := HSS.out
  cases DD
  ·rw [Bool.false_and] at hss
   subst hss
   go_wp2_with (go_at_call 40; (with_reducible refine (H1.out _).mono ?_); rintro e wn ⟨rfl, rfl⟩)
   go_meet
   exact ⟨rfl, rfl⟩
  ·rw [Bool.true_and] at hss
   subst hss
   go_wp2_with (first | (go_at_call 40; (with_reducible refine (H1.out _).mono ?_); rintro e wn ⟨rfl, rfl⟩; clear H1) | (go_at_call 40; (with_reducible refine (H2.out _).mono ?_); rintro e wn ⟨rfl, rfl⟩))
   go_meet
   exact ⟨rfl, rfl⟩
 case rest =>
 obtain ⟨rfl, rfl⟩ := hcut
 have hpp := fun W => rpergood_any c.pk c.py c.px W
 generalize eP : perB c.pk c.py c.px = PP at hpp
 have HEP := Lib.hid eP
 have HPP := Lib.hid hpp
 clear eP hpp H1 H2 HSS
 go_upto_region 5 with (go_at_call 58; (with_reducible refine (HPP.out _).mono ?_); rintro e w4 ⟨rfl, hb4⟩; have HB4 := Lib.hid (HB2.out.trans (hb4.mono HB2.out.size)); clear hb4 c0 c1 c2 c3 c4 c5 c6 c7 c8 c9 c10 c11 c12 c13 c14 c15 c16 c17 c18 c19 c20 c21; obtain ⟨c0, c1, c2, c3, c4, c5, c6, c7, c8, c9, c10, c11, c12, c13, c14, c15, c16, c17, c18, c19, c20, c21⟩ := (HX.out w4 HB4.out).box)
 clear HPP HBA HSM HDC
 rw [hk] at c0
 have hG := HG.out
 rw [Bool.true_and, kindB, if_pos hk] at hG
 clear hk
 have q0 := fun W => rmember_any c.cty W
 have q1 := fun W => rin_any c.ix 1 2 W
 have q2 := fun W => rin_any c.day 0 2932896 W
 generalize hl0 : memB c.cty.data.toList = L0 at hG q0
 clear hl0
 have Q0 := Lib.hid q0
 clear q0
 generalize hl1 : inB c.ix 1 2 = L1 at hG q1
 clear hl1
 have Q1 := Lib.hid q1
 clear q1
 generalize hl2 : inB c.day 0 2932896 = L2 at hG q2
 clear hl2
 have Q2 := Lib.hid q2
 clear q2
 have HG2 := Lib.hid hG
 clear hG
 cases L0
 ·skip
  have hG := HG2.out
  subst hG
  go_wp2_with (first | (go_at_call 59; (with_reducible refine (Q0.out _).mono ?_); rintro e wa ⟨rfl, hbx⟩; have HBa := Lib.hid (HB4.out.trans (hbx.mono HB4.out.size)); clear hbx c0 c1 c2 c3 c4 c5 c6 c7 c8 c9 c10 c11 c12 c13 c14 c15 c16 c17 c18 c19 c20 c21; obtain ⟨c0, c1, c2, c3, c4, c5, c6, c7, c8, c9, c10, c11, c12, c13, c14, c15, c16, c17, c18, c19, c20, c21⟩ := (HX.out wa HBa.out).box) | (go_at_call 40; (with_reducible refine (Q1.out _).mono ?_); rintro e wn ⟨rfl, rfl⟩) | (go_at_call 40; (with_reducible refine (Q2.out _).mono ?_); rintro e wn ⟨rfl, rfl⟩))
  go_ret
  first | exact ⟨rfl, HB1.out.trans (HBa.out.mono HB1.out.size)⟩ | exact ⟨rfl, HB1.out.trans (HB4.out.mono HB1.out.size)⟩
 cases L1
 ·skip
  have hG := HG2.out
  subst hG
  go_wp2_with (first | (go_at_call 59; (with_reducible refine (Q0.out _).mono ?_); rintro e wa ⟨rfl, hbx⟩; have HBa := Lib.hid (HB4.out.trans (hbx.mono HB4.out.size)); clear hbx c0 c1 c2 c3 c4 c5 c6 c7 c8 c9 c10 c11 c12 c13 c14 c15 c16 c17 c18 c19 c20 c21; obtain ⟨c0, c1, c2, c3, c4, c5, c6, c7, c8, c9, c10, c11, c12, c13, c14, c15, c16, c17, c18, c19, c20, c21⟩ := (HX.out wa HBa.out).box) | (go_at_call 40; (with_reducible refine (Q1.out _).mono ?_); rintro e wn ⟨rfl, rfl⟩) | (go_at_call 40; (with_reducible refine (Q2.out _).mono ?_); rintro e wn ⟨rfl, rfl⟩))
  go_ret
  first | exact ⟨rfl, HB1.out.trans (HBa.out.mono HB1.out.size)⟩ | exact ⟨rfl, HB1.out.trans (HB4.out.mono HB1.out.size)⟩
 have hG := HG2.out
 subst hG
 go_wp2_with (first | (go_at_call 59; (with_reducible refine (Q0.out _).mono ?_); rintro e wa ⟨rfl, hbx⟩; have HBa := Lib.hid (HB4.out.trans (hbx.mono HB4.out.size)); clear hbx c0 c1 c2 c3 c4 c5 c6 c7 c8 c9 c10 c11 c12 c13 c14 c15 c16 c17 c18 c19 c20 c21; obtain ⟨c0, c1, c2, c3, c4, c5, c6, c7, c8, c9, c10, c11, c12, c13, c14, c15, c16, c17, c18, c19, c20, c21⟩ := (HX.out wa HBa.out).box) | (go_at_call 40; (with_reducible refine (Q1.out _).mono ?_); rintro e wn ⟨rfl, rfl⟩) | (go_at_call 40; (with_reducible refine (Q2.out _).mono ?_); rintro e wn ⟨rfl, rfl⟩))
 go_ret
 first | exact ⟨rfl, HB1.out.trans (HBa.out.mono HB1.out.size)⟩ | exact ⟨rfl, HB1.out.trans (HB4.out.mono HB1.out.size)⟩
set_option maxRecDepth 100000 in
set_option maxHeartbeats 16000000 in
theorem rgood_k2 {w : World} {B : Nat} {v : Value} {c : Cm} (hv : CmV w B v c) (hB : B ≤ w.heap.size) (hl : c.doc.ls.length ≤ 100000) (hk : c.kind = 2) :
  Calls Try.prog 27 #[v] w fun e w' => e = .returned (.bool (goodCB c)) ∧ Below w.heap.size w w' := by
 obtain ⟨A0, m0, V, rfl, HV, HV2, HVI, HB1, HX1, HLS, HOK⟩ := cmd_pre hv hB
 clear hv
 generalize hG : goodCB c = G
 unfold goodCB at hG
 have HG := Lib.hid hG
 clear hG
 go_enter Try.func27, Try.ntmps27
 go_upto_region 1 with fail
 generalize World.alloc w _ = w1 at *
 generalize hb : w.heap.size = b1 at HX1 ⊢
 have HBB := Lib.hid hb
 clear hb

 have HX := Lib.hid (fun W (hW : Below w1.heap.size w1 W) => HX1.out.below hW)
 have hba := fun W => bare_any c A0 c.doc.ls.length m0 W
 simp only [HV.out] at hba
 unfold BarePost at hba
 have hsm := rsm_pre HV HLS HB1 HOK hB hl
 generalize decide (c = bareC c) = Z at hsm HG
 have HBA := Lib.hid hba
 have HSM := Lib.hid hsm
 have HDC := Lib.hid (hdoc_pre (D := (bareC c).doc) HLS HB1 hB)
 clear hba hsm
 refine wp_region_sp (by kernel_rfl) [isS (.agg V), isS (.agg V), bareS c, isS (.bool Z), isS (.bool (!Z))] (by kernel_rfl) (by kernel_rfl) (fun q hq => ?_) (fun a w2 hc hs => ?_)
 ·match q, hq with
  | 0, _ =>
   intro a W hc hd
   have z1 := hc.same 1 (by kernel_rfl)
   simp only [List.getElem?_toArray, List.getElem?_cons_succ, List.getElem?_cons_zero, Option.getD_some] at z1
   refine obl_val rfl (wanted_none rfl) ?_ rfl
   rw [← HV.out]
   exact exec_load_cmd rfl (eval_tmp z1) (HX.out W ((Below.refl w1.heap.size w1).drew.trans hc.below))
  | 1, _ =>
   intro a W hc hd
   have z1 := hc.same 1 (by kernel_rfl)
   simp only [List.getElem?_toArray, List.getElem?_cons_succ, List.getElem?_cons_zero, Option.getD_some] at z1
   refine obl_val rfl (wanted_none rfl) ?_ rfl
   rw [← HV.out]
   exact exec_load_cmd rfl (eval_tmp z1) (HX.out W ((Below.refl w1.heap.size w1).drew.trans hc.below))
  | 2, _ =>
   intro a W hc hd
   have s1 : a.tmps[6]?.getD undef = (.agg V) := hd 1 (by kernel_rfl)
   refine obl_call rfl (wanted_none rfl) (by go_simp) (HBA.out W) ?_
   rintro e w8 ⟨lv', rfl, alt, hb8⟩
   exact ⟨_, rfl, ⟨lv', rfl, HDC.out lv' w8 (((Below.refl w1.heap.size w1).drew.trans hc.below).trans (hb8.mono ((Below.refl w1.heap.size w1).drew.trans hc.below).size)) alt⟩, hb8⟩
  | 3, _ =>
   intro a W hc hd
   have s0 : a.tmps[5]?.getD undef = (.agg V) := hd 0 (by kernel_rfl)
   have s2 : (bareS c).f (a.tmps[7]?.getD undef) W := hd 2 (by kernel_rfl)
   obtain ⟨lv', sb, hl'⟩ := s2
   refine obl_call rfl (wanted_none rfl) (by go_simp) (HSM.out W ((Below.refl w1.heap.size w1).drew.trans hc.below) lv' hl') ?_
   rintro e w8 ⟨rfl, hb8⟩
   exact ⟨_, rfl, rfl, hb8⟩
  | 4, _ =>
   intro a W hc hd
   have s3 : a.tmps[8]?.getD undef = (.bool Z) := hd 3 (by kernel_rfl)
   refine obl_val rfl (wanted_none rfl) ?_ rfl
   go_simp
  | n + 5, h => exact absurd h (by simp)
 have hfr := grow_frame hc [(5, (.agg V)), (6, (.agg V)), (7, a.tmps[7]?.getD undef), (8, (.bool Z)), (9, (.bool (!Z)))] (by kernel_rfl) (fun p hp => by
   simp only [List.mem_cons, List.not_mem_nil, or_false] at hp
   rcases hp with rfl | rfl | rfl | rfl | rfl
   ·exact hs 0 5 (by decide) (by kernel_rfl)
   ·exact hs 1 6 (by decide) (by kernel_rfl)
   ·rfl
   ·exact hs 3 8 (by decide) (by kernel_rfl)
   ·exact hs 4 9 (by decide) (by kernel_rfl)
   )
 generalize a.tmps[7]?.getD undef = z7 at hfr
 simp only [List.range, List.range.loop, List.size_toArray, List.length_cons, List.length_nil, List.map_cons, List.map_nil, List.lookup_cons, List.lookup_nil, Nat.reduceAdd, Nat.reduceBEq, Option.getD_some, Option.getD_none, List.getElem?_toArray, List.getElem?_cons_succ, List.getElem?_cons_zero] at hfr
 subst hfr
 have HB2 := Lib.hid ((Below.refl w1.heap.size w1).drew.trans hc.below)
 clear hc hs
 cases Z
 ·have hG := HG.out
  subst hG
  go_wp2
  go_ret
  exact ⟨rfl, HB1.out.trans (HB2.out.mono HB1.out.size)⟩
 obtain ⟨c0, c1, c2, c3, c4, c5, c6, c7, c8, c9, c10, c11, c12, c13, c14, c15, c16, c17, c18, c19, c20, c21⟩ := (HX.out w2 HB2.out).box
 have h1 := fun W => rin_any c.day 0 2932896 W
 have h2 := fun W => rin_any c.til c.day 2932896 W
 have hss := str_ref c.day c.til
 generalize inB c.day 0 2932896 = DD at h1 hss
 generalize inB c.til c.day 2932896 = UU at h2 hss
 generalize eS : strB c.day c.til = SS at hss
 have HSS := Lib.hid hss
 have HES := Lib.hid eS
 have H1 := Lib.hid h1
 have H2 := Lib.hid h2
 clear hss eS h1 h2
 go_upto_region 3 with fail
 go_cut [3] from 10 to 19 (fun x3 wx => x3 = .bool SS ∧ w2 = wx)
 case first =>
  have hss := HSS.out
  cases DD
  ·rw [Bool.false_and] at hss
   subst hss
   go_wp2_with (go_at_call 40; (with_reducible refine (H1.out _).mono ?_); rintro e wn ⟨rfl, rfl⟩)
   go_meet
   exact ⟨rfl, rfl⟩
  ·rw [Bool.true_and] at hss
   subst hss
   go_wp2_with (first | (go_at_call 40; (with_reducible refine (H1.out _).mono ?_); rintro e wn ⟨rfl, rfl⟩; clear H1) | (go_at_call 40; (with_reducible refine (H2.out _).mono ?_); rintro e wn ⟨rfl, rfl⟩))
   go_meet
   exact ⟨rfl, rfl⟩
 case rest =>
 obtain ⟨rfl, rfl⟩ := hcut
 have hpp := fun W => rpergood_any c.pk c.py c.px W
 generalize eP : perB c.pk c.py c.px = PP at hpp
 have HEP := Lib.hid eP
 have HPP := Lib.hid hpp
 clear eP hpp H1 H2 HSS
 go_upto_region 5 with (go_at_call 58; (with_reducible refine (HPP.out _).mono ?_); rintro e w4 ⟨rfl, hb4⟩; have HB4 := Lib.hid (HB2.out.trans (hb4.mono HB2.out.size)); clear hb4 c0 c1 c2 c3 c4 c5 c6 c7 c8 c9 c10 c11 c12 c13 c14 c15 c16 c17 c18 c19 c20 c21; obtain ⟨c0, c1, c2, c3, c4, c5, c6, c7, c8, c9, c10, c11, c12, c13, c14, c15, c16, c17, c18, c19, c20, c21⟩ := (HX.out w4 HB4.out).box)
 clear HPP HBA HSM HDC
 rw [hk] at c0
 have hG := HG.out
 rw [Bool.true_and, kindB, if_neg (by rw [hk]; decide), if_pos hk] at hG
 rw [HES.out] at hG
 clear hk
 have q0 := fun W => rmember_any c.cty W
 have q1 := fun W => rin_any c.cat 1 3 W
 have q3 := fun W => rin_any c.bp 0 10000 W
 generalize hl0 : memB c.cty.data.toList = L0 at hG q0
 clear hl0
 have Q0 := Lib.hid q0
 clear q0
 generalize hl1 : inB c.cat 1 3 = L1 at hG q1
 clear hl1
 have Q1 := Lib.hid q1
 clear q1
 generalize hl3 : inB c.bp 0 10000 = L3 at hG q3
 clear hl3
 have Q3 := Lib.hid q3
 clear q3
 have HG2 := Lib.hid hG
 clear hG
 cases L0
 ·skip
  have hG := HG2.out
  subst hG
  go_wp2_with (first | (go_at_call 59; (with_reducible refine (Q0.out _).mono ?_); rintro e wa ⟨rfl, hbx⟩; have HBa := Lib.hid (HB4.out.trans (hbx.mono HB4.out.size)); clear hbx c0 c1 c2 c3 c4 c5 c6 c7 c8 c9 c10 c11 c12 c13 c14 c15 c16 c17 c18 c19 c20 c21; obtain ⟨c0, c1, c2, c3, c4, c5, c6, c7, c8, c9, c10, c11, c12, c13, c14, c15, c16, c17, c18, c19, c20, c21⟩ := (HX.out wa HBa.out).box) | (go_at_call 40; (with_reducible refine (Q1.out _).mono ?_); rintro e wn ⟨rfl, rfl⟩) | (go_at_call 40; (with_reducible refine (Q3.out _).mono ?_); rintro e wn ⟨rfl, rfl⟩))
  go_ret
  first | exact ⟨rfl, HB1.out.trans (HBa.out.mono HB1.out.size)⟩ | exact ⟨rfl, HB1.out.trans (HB4.out.mono HB1.out.size)⟩
 cases L1
 ·skip
  have hG := HG2.out
  subst hG
  go_wp2_with (first | (go_at_call 59; (with_reducible refine (Q0.out _).mono ?_); rintro e wa ⟨rfl, hbx⟩; have HBa := Lib.hid (HB4.out.trans (hbx.mono HB4.out.size)); clear hbx c0 c1 c2 c3 c4 c5 c6 c7 c8 c9 c10 c11 c12 c13 c14 c15 c16 c17 c18 c19 c20 c21; obtain ⟨c0, c1, c2, c3, c4, c5, c6, c7, c8, c9, c10, c11, c12, c13, c14, c15, c16, c17, c18, c19, c20, c21⟩ := (HX.out wa HBa.out).box) | (go_at_call 40; (with_reducible refine (Q1.out _).mono ?_); rintro e wn ⟨rfl, rfl⟩) | (go_at_call 40; (with_reducible refine (Q3.out _).mono ?_); rintro e wn ⟨rfl, rfl⟩))
  go_ret
  first | exact ⟨rfl, HB1.out.trans (HBa.out.mono HB1.out.size)⟩ | exact ⟨rfl, HB1.out.trans (HB4.out.mono HB1.out.size)⟩
 cases SS
 ·skip
  have hG := HG2.out
  subst hG
  go_wp2_with (first | (go_at_call 59; (with_reducible refine (Q0.out _).mono ?_); rintro e wa ⟨rfl, hbx⟩; have HBa := Lib.hid (HB4.out.trans (hbx.mono HB4.out.size)); clear hbx c0 c1 c2 c3 c4 c5 c6 c7 c8 c9 c10 c11 c12 c13 c14 c15 c16 c17 c18 c19 c20 c21; obtain ⟨c0, c1, c2, c3, c4, c5, c6, c7, c8, c9, c10, c11, c12, c13, c14, c15, c16, c17, c18, c19, c20, c21⟩ := (HX.out wa HBa.out).box) | (go_at_call 40; (with_reducible refine (Q1.out _).mono ?_); rintro e wn ⟨rfl, rfl⟩) | (go_at_call 40; (with_reducible refine (Q3.out _).mono ?_); rintro e wn ⟨rfl, rfl⟩))
  go_ret
  first | exact ⟨rfl, HB1.out.trans (HBa.out.mono HB1.out.size)⟩ | exact ⟨rfl, HB1.out.trans (HB4.out.mono HB1.out.size)⟩
 have hG := HG2.out
 subst hG
 go_wp2_with (first | (go_at_call 59; (with_reducible refine (Q0.out _).mono ?_); rintro e wa ⟨rfl, hbx⟩; have HBa := Lib.hid (HB4.out.trans (hbx.mono HB4.out.size)); clear hbx c0 c1 c2 c3 c4 c5 c6 c7 c8 c9 c10 c11 c12 c13 c14 c15 c16 c17 c18 c19 c20 c21; obtain ⟨c0, c1, c2, c3, c4, c5, c6, c7, c8, c9, c10, c11, c12, c13, c14, c15, c16, c17, c18, c19, c20, c21⟩ := (HX.out wa HBa.out).box) | (go_at_call 40; (with_reducible refine (Q1.out _).mono ?_); rintro e wn ⟨rfl, rfl⟩) | (go_at_call 40; (with_reducible refine (Q3.out _).mono ?_); rintro e wn ⟨rfl, rfl⟩))
 go_ret
 first | exact ⟨rfl, HB1.out.trans (HBa.out.mono HB1.out.size)⟩ | exact ⟨rfl, HB1.out.trans (HB4.out.mono HB1.out.size)⟩
set_option maxRecDepth 100000 in
set_option maxHeartbeats 16000000 in
theorem rgood_k3 {w : World} {B : Nat} {v : Value} {c : Cm} (hv : CmV w B v c) (hB : B ≤ w.heap.size) (hl : c.doc.ls.length ≤ 100000) (hk : c.kind = 3) :
  Calls Try.prog 27 #[v] w fun e w' => e = .returned (.bool (goodCB c)) ∧ Below w.heap.size w w' := by
 obtain ⟨A0, m0, V, rfl, HV, HV2, HVI, HB1, HX1, HLS, HOK⟩ := cmd_pre hv hB
 clear hv
 generalize hG : goodCB c = G
 unfold goodCB at hG
 have HG := Lib.hid hG
 clear hG
 go_enter Try.func27, Try.ntmps27
 go_upto_region 1 with fail
 generalize World.alloc w _ = w1 at *
 generalize hb : w.heap.size = b1 at HX1 ⊢
 have HBB := Lib.hid hb
 clear hb

 have HX := Lib.hid (fun W (hW : Below w1.heap.size w1 W) => HX1.out.below hW)
 have hba := fun W => bare_any c A0 c.doc.ls.length m0 W
 simp only [HV.out] at hba
 unfold BarePost at hba
 have hsm := rsm_pre HV HLS HB1 HOK hB hl
 generalize decide (c = bareC c) = Z at hsm HG
 have HBA := Lib.hid hba
 have HSM := Lib.hid hsm
 have HDC := Lib.hid (hdoc_pre (D := (bareC c).doc) HLS HB1 hB)
 clear hba hsm
 refine wp_region_sp (by kernel_rfl) [isS (.agg V), isS (.agg V), bareS c, isS (.bool Z), isS (.bool (!Z))] (by kernel_rfl) (by kernel_rfl) (fun q hq => ?_) (fun a w2 hc hs => ?_)
 ·match q, hq with
  | 0, _ =>
   intro a W hc hd
   have z1 := hc.same 1 (by kernel_rfl)
   simp only [List.getElem?_toArray, List.getElem?_cons_succ, List.getElem?_cons_zero, Option.getD_some] at z1
   refine obl_val rfl (wanted_none rfl) ?_ rfl
   rw [← HV.out]
   exact exec_load_cmd rfl (eval_tmp z1) (HX.out W ((Below.refl w1.heap.size w1).drew.trans hc.below))
  | 1, _ =>
   intro a W hc hd
   have z1 := hc.same 1 (by kernel_rfl)
   simp only [List.getElem?_toArray, List.getElem?_cons_succ, List.getElem?_cons_zero, Option.getD_some] at z1
   refine obl_val rfl (wanted_none rfl) ?_ rfl
   rw [← HV.out]
   exact exec_load_cmd rfl (eval_tmp z1) (HX.out W ((Below.refl w1.heap.size w1).drew.trans hc.below))
  | 2, _ =>
   intro a W hc hd
   have s1 : a.tmps[6]?.getD undef = (.agg V) := hd 1 (by kernel_rfl)
   refine obl_call rfl (wanted_none rfl) (by go_simp) (HBA.out W) ?_
   rintro e w8 ⟨lv', rfl, alt, hb8⟩
   exact ⟨_, rfl, ⟨lv', rfl, HDC.out lv' w8 (((Below.refl w1.heap.size w1).drew.trans hc.below).trans (hb8.mono ((Below.refl w1.heap.size w1).drew.trans hc.below).size)) alt⟩, hb8⟩
  | 3, _ =>
   intro a W hc hd
   have s0 : a.tmps[5]?.getD undef = (.agg V) := hd 0 (by kernel_rfl)
   have s2 : (bareS c).f (a.tmps[7]?.getD undef) W := hd 2 (by kernel_rfl)
   obtain ⟨lv', sb, hl'⟩ := s2
   refine obl_call rfl (wanted_none rfl) (by go_simp) (HSM.out W ((Below.refl w1.heap.size w1).drew.trans hc.below) lv' hl') ?_
   rintro e w8 ⟨rfl, hb8⟩
   exact ⟨_, rfl, rfl, hb8⟩
  | 4, _ =>
   intro a W hc hd
   have s3 : a.tmps[8]?.getD undef = (.bool Z) := hd 3 (by kernel_rfl)
   refine obl_val rfl (wanted_none rfl) ?_ rfl
   go_simp
  | n + 5, h => exact absurd h (by simp)
 have hfr := grow_frame hc [(5, (.agg V)), (6, (.agg V)), (7, a.tmps[7]?.getD undef), (8, (.bool Z)), (9, (.bool (!Z)))] (by kernel_rfl) (fun p hp => by
   simp only [List.mem_cons, List.not_mem_nil, or_false] at hp
   rcases hp with rfl | rfl | rfl | rfl | rfl
   ·exact hs 0 5 (by decide) (by kernel_rfl)
   ·exact hs 1 6 (by decide) (by kernel_rfl)
   ·rfl
   ·exact hs 3 8 (by decide) (by kernel_rfl)
   ·exact hs 4 9 (by decide) (by kernel_rfl)
   )
 generalize a.tmps[7]?.getD undef = z7 at hfr
 simp only [List.range, List.range.loop, List.size_toArray, List.length_cons, List.length_nil, List.map_cons, List.map_nil, List.lookup_cons, List.lookup_nil, Nat.reduceAdd, Nat.reduceBEq, Option.getD_some, Option.getD_none, List.getElem?_toArray, List.getElem?_cons_succ, List.getElem?_cons_zero] at hfr
 subst hfr
 have HB2 := Lib.hid ((Below.refl w1.heap.size w1).drew.trans hc.below)
 clear hc hs
 cases Z
 ·have hG := HG.out
  subst hG
  go_wp2
  go_ret
  exact ⟨rfl, HB1.out.trans (HB2.out.mono HB1.out.size)⟩
 obtain ⟨c0, c1, c2, c3, c4, c5, c6, c7, c8, c9, c10, c11, c12, c13, c14, c15, c16, c17, c18, c19, c20, c21⟩ := (HX.out w2 HB2.out).box
 have h1 := fun W => rin_any c.day 0 2932896 W
 have h2 := fun W => rin_any c.til c.day 2932896 W
 have hss := str_ref c.day c.til
 generalize inB c.day 0 2932896 = DD at h1 hss
 generalize inB c.til c.day 2932896 = UU at h2 hss
 generalize eS : strB c.day c.til = SS at hss
 have HSS := Lib.hid hss
 have HES := Lib.hid eS
 have H1 := Lib.hid h1
 have H2 := Lib.hid h2
 clear hss eS h1 h2
 go_upto_region 3 with fail
 go_cut [3] from 10 to 19 (fun x3 wx => x3 = .bool SS ∧ w2 = wx)
 case first =>
  have hss := HSS.out
  cases DD
  ·rw [Bool.false_and] at hss
   subst hss
   go_wp2_with (go_at_call 40; (with_reducible refine (H1.out _).mono ?_); rintro e wn ⟨rfl, rfl⟩)
   go_meet
   exact ⟨rfl, rfl⟩
  ·rw [Bool.true_and] at hss
   subst hss
   go_wp2_with (first | (go_at_call 40; (with_reducible refine (H1.out _).mono ?_); rintro e wn ⟨rfl, rfl⟩; clear H1) | (go_at_call 40; (with_reducible refine (H2.out _).mono ?_); rintro e wn ⟨rfl, rfl⟩))
   go_meet
   exact ⟨rfl, rfl⟩
 case rest =>
 obtain ⟨rfl, rfl⟩ := hcut
 have hpp := fun W => rpergood_any c.pk c.py c.px W
 generalize eP : perB c.pk c.py c.px = PP at hpp
 have HEP := Lib.hid eP
 have HPP := Lib.hid hpp
 clear eP hpp H1 H2 HSS
 go_upto_region 5 with (go_at_call 58; (with_reducible refine (HPP.out _).mono ?_); rintro e w4 ⟨rfl, hb4⟩; have HB4 := Lib.hid (HB2.out.trans (hb4.mono HB2.out.size)); clear hb4 c0 c1 c2 c3 c4 c5 c6 c7 c8 c9 c10 c11 c12 c13 c14 c15 c16 c17 c18 c19 c20 c21; obtain ⟨c0, c1, c2, c3, c4, c5, c6, c7, c8, c9, c10, c11, c12, c13, c14, c15, c16, c17, c18, c19, c20, c21⟩ := (HX.out w4 HB4.out).box)
 clear HPP HBA HSM HDC
 rw [hk] at c0
 have hG := HG.out
 rw [Bool.true_and, kindB, if_neg (by rw [hk]; decide), if_neg (by rw [hk]; decide), if_pos hk] at hG
 rw [HES.out] at hG
 clear hk
 have HG2 := Lib.hid hG
 clear hG
 have hG := HG2.out
 subst hG
 go_wp2
 go_ret
 first | exact ⟨rfl, HB1.out.trans (HB4.out.mono HB1.out.size)⟩
set_option maxRecDepth 100000 in
set_option maxHeartbeats 16000000 in
theorem rgood_k4 {w : World} {B : Nat} {v : Value} {c : Cm} (hv : CmV w B v c) (hB : B ≤ w.heap.size) (hl : c.doc.ls.length ≤ 100000) (hk : c.kind = 4) :
  Calls Try.prog 27 #[v] w fun e w' => e = .returned (.bool (goodCB c)) ∧ Below w.heap.size w w' := by
 obtain ⟨A0, m0, V, rfl, HV, HV2, HVI, HB1, HX1, HLS, HOK⟩ := cmd_pre hv hB
 clear hv
 generalize hG : goodCB c = G
 unfold goodCB at hG
 have HG := Lib.hid hG
 clear hG
 go_enter Try.func27, Try.ntmps27
 go_upto_region 1 with fail
 generalize World.alloc w _ = w1 at *
 generalize hb : w.heap.size = b1 at HX1 ⊢
 have HBB := Lib.hid hb
 clear hb

 have HX := Lib.hid (fun W (hW : Below w1.heap.size w1 W) => HX1.out.below hW)
 have hba := fun W => bare_any c A0 c.doc.ls.length m0 W
 simp only [HV.out] at hba
 unfold BarePost at hba
 have hsm := rsm_pre HV HLS HB1 HOK hB hl
 generalize decide (c = bareC c) = Z at hsm HG
 have HBA := Lib.hid hba
 have HSM := Lib.hid hsm
 have HDC := Lib.hid (hdoc_pre (D := (bareC c).doc) HLS HB1 hB)
 clear hba hsm
 refine wp_region_sp (by kernel_rfl) [isS (.agg V), isS (.agg V), bareS c, isS (.bool Z), isS (.bool (!Z))] (by kernel_rfl) (by kernel_rfl) (fun q hq => ?_) (fun a w2 hc hs => ?_)
 ·match q, hq with
  | 0, _ =>
   intro a W hc hd
   have z1 := hc.same 1 (by kernel_rfl)
   simp only [List.getElem?_toArray, List.getElem?_cons_succ, List.getElem?_cons_zero, Option.getD_some] at z1
   refine obl_val rfl (wanted_none rfl) ?_ rfl
   rw [← HV.out]
   exact exec_load_cmd rfl (eval_tmp z1) (HX.out W ((Below.refl w1.heap.size w1).drew.trans hc.below))
  | 1, _ =>
   intro a W hc hd
   have z1 := hc.same 1 (by kernel_rfl)
   simp only [List.getElem?_toArray, List.getElem?_cons_succ, List.getElem?_cons_zero, Option.getD_some] at z1
   refine obl_val rfl (wanted_none rfl) ?_ rfl
   rw [← HV.out]
   exact exec_load_cmd rfl (eval_tmp z1) (HX.out W ((Below.refl w1.heap.size w1).drew.trans hc.below))
  | 2, _ =>
   intro a W hc hd
   have s1 : a.tmps[6]?.getD undef = (.agg V) := hd 1 (by kernel_rfl)
   refine obl_call rfl (wanted_none rfl) (by go_simp) (HBA.out W) ?_
   rintro e w8 ⟨lv', rfl, alt, hb8⟩
   exact ⟨_, rfl, ⟨lv', rfl, HDC.out lv' w8 (((Below.refl w1.heap.size w1).drew.trans hc.below).trans (hb8.mono ((Below.refl w1.heap.size w1).drew.trans hc.below).size)) alt⟩, hb8⟩
  | 3, _ =>
   intro a W hc hd
   have s0 : a.tmps[5]?.getD undef = (.agg V) := hd 0 (by kernel_rfl)
   have s2 : (bareS c).f (a.tmps[7]?.getD undef) W := hd 2 (by kernel_rfl)
   obtain ⟨lv', sb, hl'⟩ := s2
   refine obl_call rfl (wanted_none rfl) (by go_simp) (HSM.out W ((Below.refl w1.heap.size w1).drew.trans hc.below) lv' hl') ?_
   rintro e w8 ⟨rfl, hb8⟩
   exact ⟨_, rfl, rfl, hb8⟩
  | 4, _ =>
   intro a W hc hd
   have s3 : a.tmps[8]?.getD undef = (.bool Z) := hd 3 (by kernel_rfl)
   refine obl_val rfl (wanted_none rfl) ?_ rfl
   go_simp
  | n + 5, h => exact absurd h (by simp)
 have hfr := grow_frame hc [(5, (.agg V)), (6, (.agg V)), (7, a.tmps[7]?.getD undef), (8, (.bool Z)), (9, (.bool (!Z)))] (by kernel_rfl) (fun p hp => by
   simp only [List.mem_cons, List.not_mem_nil, or_false] at hp
   rcases hp with rfl | rfl | rfl | rfl | rfl
   ·exact hs 0 5 (by decide) (by kernel_rfl)
   ·exact hs 1 6 (by decide) (by kernel_rfl)
   ·rfl
   ·exact hs 3 8 (by decide) (by kernel_rfl)
   ·exact hs 4 9 (by decide) (by kernel_rfl)
   )
 generalize a.tmps[7]?.getD undef = z7 at hfr
 simp only [List.range, List.range.loop, List.size_toArray, List.length_cons, List.length_nil, List.map_cons, List.map_nil, List.lookup_cons, List.lookup_nil, Nat.reduceAdd, Nat.reduceBEq, Option.getD_some, Option.getD_none, List.getElem?_toArray, List.getElem?_cons_succ, List.getElem?_cons_zero] at hfr
 subst hfr
 have HB2 := Lib.hid ((Below.refl w1.heap.size w1).drew.trans hc.below)
 clear hc hs
 cases Z
 ·have hG := HG.out
  subst hG
  go_wp2
  go_ret
  exact ⟨rfl, HB1.out.trans (HB2.out.mono HB1.out.size)⟩
 obtain ⟨c0, c1, c2, c3, c4, c5, c6, c7, c8, c9, c10, c11, c12, c13, c14, c15, c16, c17, c18, c19, c20, c21⟩ := (HX.out w2 HB2.out).box
 have h1 := fun W => rin_any c.day 0 2932896 W
 have h2 := fun W => rin_any c.til c.day 2932896 W
 have hss := str_ref c.day c.til
 generalize inB c.day 0 2932896 = DD at h1 hss
 generalize inB c.til c.day 2932896 = UU at h2 hss
 generalize eS : strB c.day c.til = SS at hss
 have HSS := Lib.hid hss
 have HES := Lib.hid eS
 have H1 := Lib.hid h1
 have H2 := Lib.hid h2
 clear hss eS h1 h2
 go_upto_region 3 with fail
 go_cut [3] from 10 to 19 (fun x3 wx => x3 = .bool SS ∧ w2 = wx)
 case first =>
  have hss := HSS.out
  cases DD
  ·rw [Bool.false_and] at hss
   subst hss
   go_wp2_with (go_at_call 40; (with_reducible refine (H1.out _).mono ?_); rintro e wn ⟨rfl, rfl⟩)
   go_meet
   exact ⟨rfl, rfl⟩
  ·rw [Bool.true_and] at hss
   subst hss
   go_wp2_with (first | (go_at_call 40; (with_reducible refine (H1.out _).mono ?_); rintro e wn ⟨rfl, rfl⟩; clear H1) | (go_at_call 40; (with_reducible refine (H2.out _).mono ?_); rintro e wn ⟨rfl, rfl⟩))
   go_meet
   exact ⟨rfl, rfl⟩
 case rest =>
 obtain ⟨rfl, rfl⟩ := hcut
 have hpp := fun W => rpergood_any c.pk c.py c.px W
 generalize eP : perB c.pk c.py c.px = PP at hpp
 have HEP := Lib.hid eP
 have HPP := Lib.hid hpp
 clear eP hpp H1 H2 HSS
 go_upto_region 5 with (go_at_call 58; (with_reducible refine (HPP.out _).mono ?_); rintro e w4 ⟨rfl, hb4⟩; have HB4 := Lib.hid (HB2.out.trans (hb4.mono HB2.out.size)); clear hb4 c0 c1 c2 c3 c4 c5 c6 c7 c8 c9 c10 c11 c12 c13 c14 c15 c16 c17 c18 c19 c20 c21; obtain ⟨c0, c1, c2, c3, c4, c5, c6, c7, c8, c9, c10, c11, c12, c13, c14, c15, c16, c17, c18, c19, c20, c21⟩ := (HX.out w4 HB4.out).box)
 clear HPP HBA HSM HDC
 rw [hk] at c0
 have hG := HG.out
 rw [Bool.true_and, kindB, if_neg (by rw [hk]; decide), if_neg (by rw [hk]; decide), if_neg (by rw [hk]; decide), if_pos hk] at hG
 rw [HES.out] at hG
 clear hk
 have q0 := fun W => rright_any c.cty c.txt HOK.out.txt W
 unfold RightPost at q0
 generalize hl0 : rightL c.cty.data.toList c.txt.data.toList = L0 at hG q0
 clear hl0
 have Q0 := Lib.hid q0
 clear q0
 have HG2 := Lib.hid hG
 clear hG
 cases L0
 ·skip
  have hG := HG2.out
  subst hG
  go_wp2_with (first | (go_at_call 42; (with_reducible refine (Q0.out _).mono ?_); rintro e wa ⟨rfl, hbx⟩; have HBa := Lib.hid (HB4.out.trans (hbx.mono HB4.out.size)); clear hbx c0 c1 c2 c3 c4 c5 c6 c7 c8 c9 c10 c11 c12 c13 c14 c15 c16 c17 c18 c19 c20 c21; obtain ⟨c0, c1, c2, c3, c4, c5, c6, c7, c8, c9, c10, c11, c12, c13, c14, c15, c16, c17, c18, c19, c20, c21⟩ := (HX.out wa HBa.out).box))
  go_ret
  first | exact ⟨rfl, HB1.out.trans (HBa.out.mono HB1.out.size)⟩ | exact ⟨rfl, HB1.out.trans (HB4.out.mono HB1.out.size)⟩
 have hG := HG2.out
 subst hG
 go_wp2_with (first | (go_at_call 42; (with_reducible refine (Q0.out _).mono ?_); rintro e wa ⟨rfl, hbx⟩; have HBa := Lib.hid (HB4.out.trans (hbx.mono HB4.out.size)); clear hbx c0 c1 c2 c3 c4 c5 c6 c7 c8 c9 c10 c11 c12 c13 c14 c15 c16 c17 c18 c19 c20 c21; obtain ⟨c0, c1, c2, c3, c4, c5, c6, c7, c8, c9, c10, c11, c12, c13, c14, c15, c16, c17, c18, c19, c20, c21⟩ := (HX.out wa HBa.out).box))
 go_ret
 first | exact ⟨rfl, HB1.out.trans (HBa.out.mono HB1.out.size)⟩ | exact ⟨rfl, HB1.out.trans (HB4.out.mono HB1.out.size)⟩
set_option maxRecDepth 100000 in
set_option maxHeartbeats 16000000 in
theorem rgood_k5 {w : World} {B : Nat} {v : Value} {c : Cm} (hv : CmV w B v c) (hB : B ≤ w.heap.size) (hl : c.doc.ls.length ≤ 100000) (hk : c.kind = 5) :
  Calls Try.prog 27 #[v] w fun e w' => e = .returned (.bool (goodCB c)) ∧ Below w.heap.size w w' := by
 obtain ⟨A0, m0, V, rfl, HV, HV2, HVI, HB1, HX1, HLS, HOK⟩ := cmd_pre hv hB
 clear hv
 generalize hG : goodCB c = G
 unfold goodCB at hG
 have HG := Lib.hid hG
 clear hG
 go_enter Try.func27, Try.ntmps27
 go_upto_region 1 with fail
 generalize World.alloc w _ = w1 at *
 generalize hb : w.heap.size = b1 at HX1 ⊢
 have HBB := Lib.hid hb
 clear hb

 have HX := Lib.hid (fun W (hW : Below w1.heap.size w1 W) => HX1.out.below hW)
 have hba := fun W => bare_any c A0 c.doc.ls.length m0 W
 simp only [HV.out] at hba
 unfold BarePost at hba
 have hsm := rsm_pre HV HLS HB1 HOK hB hl
 generalize decide (c = bareC c) = Z at hsm HG
 have HBA := Lib.hid hba
 have HSM := Lib.hid hsm
 have HDC := Lib.hid (hdoc_pre (D := (bareC c).doc) HLS HB1 hB)
 clear hba hsm
 refine wp_region_sp (by kernel_rfl) [isS (.agg V), isS (.agg V), bareS c, isS (.bool Z), isS (.bool (!Z))] (by kernel_rfl) (by kernel_rfl) (fun q hq => ?_) (fun a w2 hc hs => ?_)
 ·match q, hq with
  | 0, _ =>
   intro a W hc hd
   have z1 := hc.same 1 (by kernel_rfl)
   simp only [List.getElem?_toArray, List.getElem?_cons_succ, List.getElem?_cons_zero, Option.getD_some] at z1
   refine obl_val rfl (wanted_none rfl) ?_ rfl
   rw [← HV.out]
   exact exec_load_cmd rfl (eval_tmp z1) (HX.out W ((Below.refl w1.heap.size w1).drew.trans hc.below))
  | 1, _ =>
   intro a W hc hd
   have z1 := hc.same 1 (by kernel_rfl)
   simp only [List.getElem?_toArray, List.getElem?_cons_succ, List.getElem?_cons_zero, Option.getD_some] at z1
   refine obl_val rfl (wanted_none rfl) ?_ rfl
   rw [← HV.out]
   exact exec_load_cmd rfl (eval_tmp z1) (HX.out W ((Below.refl w1.heap.size w1).drew.trans hc.below))
  | 2, _ =>
   intro a W hc hd
   have s1 : a.tmps[6]?.getD undef = (.agg V) := hd 1 (by kernel_rfl)
   refine obl_call rfl (wanted_none rfl) (by go_simp) (HBA.out W) ?_
   rintro e w8 ⟨lv', rfl, alt, hb8⟩
   exact ⟨_, rfl, ⟨lv', rfl, HDC.out lv' w8 (((Below.refl w1.heap.size w1).drew.trans hc.below).trans (hb8.mono ((Below.refl w1.heap.size w1).drew.trans hc.below).size)) alt⟩, hb8⟩
  | 3, _ =>
   intro a W hc hd
   have s0 : a.tmps[5]?.getD undef = (.agg V) := hd 0 (by kernel_rfl)
   have s2 : (bareS c).f (a.tmps[7]?.getD undef) W := hd 2 (by kernel_rfl)
   obtain ⟨lv', sb, hl'⟩ := s2
   refine obl_call rfl (wanted_none rfl) (by go_simp) (HSM.out W ((Below.refl w1.heap.size w1).drew.trans hc.below) lv' hl') ?_
   rintro e w8 ⟨rfl, hb8⟩
   exact ⟨_, rfl, rfl, hb8⟩
  | 4, _ =>
   intro a W hc hd
   have s3 : a.tmps[8]?.getD undef = (.bool Z) := hd 3 (by kernel_rfl)
   refine obl_val rfl (wanted_none rfl) ?_ rfl
   go_simp
  | n + 5, h => exact absurd h (by simp)
 have hfr := grow_frame hc [(5, (.agg V)), (6, (.agg V)), (7, a.tmps[7]?.getD undef), (8, (.bool Z)), (9, (.bool (!Z)))] (by kernel_rfl) (fun p hp => by
   simp only [List.mem_cons, List.not_mem_nil, or_false] at hp
   rcases hp with rfl | rfl | rfl | rfl | rfl
   ·exact hs 0 5 (by decide) (by kernel_rfl)
   ·exact hs 1 6 (by decide) (by kernel_rfl)
   ·rfl
   ·exact hs 3 8 (by decide) (by kernel_rfl)
   ·exact hs 4 9 (by decide) (by kernel_rfl)
   )
 generalize a.tmps[7]?.getD undef = z7 at hfr
 simp only [List.range, List.range.loop, List.size_toArray, List.length_cons, List.length_nil, List.map_cons, List.map_nil, List.lookup_cons, List.lookup_nil, Nat.reduceAdd, Nat.reduceBEq, Option.getD_some, Option.getD_none, List.getElem?_toArray, List.getElem?_cons_succ, List.getElem?_cons_zero] at hfr
 subst hfr
 have HB2 := Lib.hid ((Below.refl w1.heap.size w1).drew.trans hc.below)
 clear hc hs
 cases Z
 ·have hG := HG.out
  subst hG
  go_wp2
  go_ret
  exact ⟨rfl, HB1.out.trans (HB2.out.mono HB1.out.size)⟩
 obtain ⟨c0, c1, c2, c3, c4, c5, c6, c7, c8, c9, c10, c11, c12, c13, c14, c15, c16, c17, c18, c19, c20, c21⟩ := (HX.out w2 HB2.out).box
 have h1 := fun W => rin_any c.day 0 2932896 W
 have h2 := fun W => rin_any c.til c.day 2932896 W
 have hss := str_ref c.day c.til
 generalize inB c.day 0 2932896 = DD at h1 hss
 generalize inB c.til c.day 2932896 = UU at h2 hss
 generalize eS : strB c.day c.til = SS at hss
 have HSS := Lib.hid hss
 have HES := Lib.hid eS
 have H1 := Lib.hid h1
 have H2 := Lib.hid h2
 clear hss eS h1 h2
 go_upto_region 3 with fail
 go_cut [3] from 10 to 19 (fun x3 wx => x3 = .bool SS ∧ w2 = wx)
 case first =>
  have hss := HSS.out
  cases DD
  ·rw [Bool.false_and] at hss
   subst hss
   go_wp2_with (go_at_call 40; (with_reducible refine (H1.out _).mono ?_); rintro e wn ⟨rfl, rfl⟩)
   go_meet
   exact ⟨rfl, rfl⟩
  ·rw [Bool.true_and] at hss
   subst hss
   go_wp2_with (first | (go_at_call 40; (with_reducible refine (H1.out _).mono ?_); rintro e wn ⟨rfl, rfl⟩; clear H1) | (go_at_call 40; (with_reducible refine (H2.out _).mono ?_); rintro e wn ⟨rfl, rfl⟩))
   go_meet
   exact ⟨rfl, rfl⟩
 case rest =>
 obtain ⟨rfl, rfl⟩ := hcut
 have hpp := fun W => rpergood_any c.pk c.py c.px W
 generalize eP : perB c.pk c.py c.px = PP at hpp
 have HEP := Lib.hid eP
 have HPP := Lib.hid hpp
 clear eP hpp H1 H2 HSS
 go_upto_region 5 with (go_at_call 58; (with_reducible refine (HPP.out _).mono ?_); rintro e w4 ⟨rfl, hb4⟩; have HB4 := Lib.hid (HB2.out.trans (hb4.mono HB2.out.size)); clear hb4 c0 c1 c2 c3 c4 c5 c6 c7 c8 c9 c10 c11 c12 c13 c14 c15 c16 c17 c18 c19 c20 c21; obtain ⟨c0, c1, c2, c3, c4, c5, c6, c7, c8, c9, c10, c11, c12, c13, c14, c15, c16, c17, c18, c19, c20, c21⟩ := (HX.out w4 HB4.out).box)
 clear HPP HBA HSM HDC
 rw [hk] at c0
 have hG := HG.out
 rw [Bool.true_and, kindB, if_neg (by rw [hk]; decide), if_neg (by rw [hk]; decide), if_neg (by rw [hk]; decide), if_neg (by rw [hk]; decide), if_pos hk] at hG
 rw [HEP.out] at hG
 clear hk
 have q0 := fun W => rcur_any c.txt W
 have q3 := fun W => rin_any c.nm 1 1099511627776 W
 have q4 := fun W => rin_any c.dn 1 1099511627776 W
 generalize hl0 : curL c.txt.data.toList = L0 at hG q0
 clear hl0
 have Q0 := Lib.hid q0
 clear q0
 generalize e22 : (c.pk == 2) = L2 at hG
 generalize hl3 : inB c.nm 1 1099511627776 = L3 at hG q3
 clear hl3
 have Q3 := Lib.hid q3
 clear q3
 generalize hl4 : inB c.dn 1 1099511627776 = L4 at hG q4
 clear hl4
 have Q4 := Lib.hid q4
 clear q4
 have HG2 := Lib.hid hG
 clear hG
 cases L0
 ·skip
  have hG := HG2.out
  subst hG
  go_wp2_with (first | (go_at_call 43; (with_reducible refine (Q0.out _).mono ?_); rintro e wn ⟨rfl, rfl⟩) | (go_at_call 40; (with_reducible refine (Q3.out _).mono ?_); rintro e wn ⟨rfl, rfl⟩) | (go_at_call 40; (with_reducible refine (Q4.out _).mono ?_); rintro e wn ⟨rfl, rfl⟩))
  go_ret
  first | exact ⟨rfl, HB1.out.trans (HB4.out.mono HB1.out.size)⟩
 cases PP
 ·skip
  have hG := HG2.out
  subst hG
  go_wp2_with (first | (go_at_call 43; (with_reducible refine (Q0.out _).mono ?_); rintro e wn ⟨rfl, rfl⟩) | (go_at_call 40; (with_reducible refine (Q3.out _).mono ?_); rintro e wn ⟨rfl, rfl⟩) | (go_at_call 40; (with_reducible refine (Q4.out _).mono ?_); rintro e wn ⟨rfl, rfl⟩))
  go_ret
  first | exact ⟨rfl, HB1.out.trans (HB4.out.mono HB1.out.size)⟩
 cases L2
 ·skip
  have hG := HG2.out
  subst hG
  go_wp2_with (first | (go_at_call 43; (with_reducible refine (Q0.out _).mono ?_); rintro e wn ⟨rfl, rfl⟩) | (go_at_call 40; (with_reducible refine (Q3.out _).mono ?_); rintro e wn ⟨rfl, rfl⟩) | (go_at_call 40; (with_reducible refine (Q4.out _).mono ?_); rintro e wn ⟨rfl, rfl⟩))
  go_ret
  first | exact ⟨rfl, HB1.out.trans (HB4.out.mono HB1.out.size)⟩
 cases L3
 ·skip
  have hG := HG2.out
  subst hG
  go_wp2_with (first | (go_at_call 43; (with_reducible refine (Q0.out _).mono ?_); rintro e wn ⟨rfl, rfl⟩) | (go_at_call 40; (with_reducible refine (Q3.out _).mono ?_); rintro e wn ⟨rfl, rfl⟩) | (go_at_call 40; (with_reducible refine (Q4.out _).mono ?_); rintro e wn ⟨rfl, rfl⟩))
  go_ret
  first | exact ⟨rfl, HB1.out.trans (HB4.out.mono HB1.out.size)⟩
 have hG := HG2.out
 subst hG
 go_wp2_with (first | (go_at_call 43; (with_reducible refine (Q0.out _).mono ?_); rintro e wn ⟨rfl, rfl⟩) | (go_at_call 40; (with_reducible refine (Q3.out _).mono ?_); rintro e wn ⟨rfl, rfl⟩) | (go_at_call 40; (with_reducible refine (Q4.out _).mono ?_); rintro e wn ⟨rfl, rfl⟩))
 go_ret
 first | exact ⟨rfl, HB1.out.trans (HB4.out.mono HB1.out.size)⟩
set_option maxRecDepth 100000 in
set_option maxHeartbeats 16000000 in
theorem rgood_k6 {w : World} {B : Nat} {v : Value} {c : Cm} (hv : CmV w B v c) (hB : B ≤ w.heap.size) (hl : c.doc.ls.length ≤ 100000) (hk : c.kind = 6) :
  Calls Try.prog 27 #[v] w fun e w' => e = .returned (.bool (goodCB c)) ∧ Below w.heap.size w w' := by
 obtain ⟨A0, m0, V, rfl, HV, HV2, HVI, HB1, HX1, HLS, HOK⟩ := cmd_pre hv hB
 clear hv
 generalize hG : goodCB c = G
 unfold goodCB at hG
 have HG := Lib.hid hG
 clear hG
 go_enter Try.func27, Try.ntmps27
 go_upto_region 1 with fail
 generalize World.alloc w _ = w1 at *
 generalize hb : w.heap.size = b1 at HX1 ⊢
 have HBB := Lib.hid hb
 clear hb

 have HX := Lib.hid (fun W (hW : Below w1.heap.size w1 W) => HX1.out.below hW)
 have hba := fun W => bare_any c A0 c.doc.ls.length m0 W
 simp only [HV.out] at hba
 unfold BarePost at hba
 have hsm := rsm_pre HV HLS HB1 HOK hB hl
 generalize decide (c = bareC c) = Z at hsm HG
 have HBA := Lib.hid hba
 have HSM := Lib.hid hsm
 have HDC := Lib.hid (hdoc_pre (D := (bareC c).doc) HLS HB1 hB)
 clear hba hsm
 refine wp_region_sp (by kernel_rfl) [isS (.agg V), isS (.agg V), bareS c, isS (.bool Z), isS (.bool (!Z))] (by kernel_rfl) (by kernel_rfl) (fun q hq => ?_) (fun a w2 hc hs => ?_)
 ·match q, hq with
  | 0, _ =>
   intro a W hc hd
   have z1 := hc.same 1 (by kernel_rfl)
   simp only [List.getElem?_toArray, List.getElem?_cons_succ, List.getElem?_cons_zero, Option.getD_some] at z1
   refine obl_val rfl (wanted_none rfl) ?_ rfl
   rw [← HV.out]
   exact exec_load_cmd rfl (eval_tmp z1) (HX.out W ((Below.refl w1.heap.size w1).drew.trans hc.below))
  | 1, _ =>
   intro a W hc hd
   have z1 := hc.same 1 (by kernel_rfl)
   simp only [List.getElem?_toArray, List.getElem?_cons_succ, List.getElem?_cons_zero, Option.getD_some] at z1
   refine obl_val rfl (wanted_none rfl) ?_ rfl
   rw [← HV.out]
   exact exec_load_cmd rfl (eval_tmp z1) (HX.out W ((Below.refl w1.heap.size w1).drew.trans hc.below))
  | 2, _ =>
   intro a W hc hd
   have s1 : a.tmps[6]?.getD undef = (.agg V) := hd 1 (by kernel_rfl)
   refine obl_call rfl (wanted_none rfl) (by go_simp) (HBA.out W) ?_
   rintro e w8 ⟨lv', rfl, alt, hb8⟩
   exact ⟨_, rfl, ⟨lv', rfl, HDC.out lv' w8 (((Below.refl w1.heap.size w1).drew.trans hc.below).trans (hb8.mono ((Below.refl w1.heap.size w1).drew.trans hc.below).size)) alt⟩, hb8⟩
  | 3, _ =>
   intro a W hc hd
   have s0 : a.tmps[5]?.getD undef = (.agg V) := hd 0 (by kernel_rfl)
   have s2 : (bareS c).f (a.tmps[7]?.getD undef) W := hd 2 (by kernel_rfl)
   obtain ⟨lv', sb, hl'⟩ := s2
   refine obl_call rfl (wanted_none rfl) (by go_simp) (HSM.out W ((Below.refl w1.heap.size w1).drew.trans hc.below) lv' hl') ?_
   rintro e w8 ⟨rfl, hb8⟩
   exact ⟨_, rfl, rfl, hb8⟩
  | 4, _ =>
   intro a W hc hd
   have s3 : a.tmps[8]?.getD undef = (.bool Z) := hd 3 (by kernel_rfl)
   refine obl_val rfl (wanted_none rfl) ?_ rfl
   go_simp
  | n + 5, h => exact absurd h (by simp)
 have hfr := grow_frame hc [(5, (.agg V)), (6, (.agg V)), (7, a.tmps[7]?.getD undef), (8, (.bool Z)), (9, (.bool (!Z)))] (by kernel_rfl) (fun p hp => by
   simp only [List.mem_cons, List.not_mem_nil, or_false] at hp
   rcases hp with rfl | rfl | rfl | rfl | rfl
   ·exact hs 0 5 (by decide) (by kernel_rfl)
   ·exact hs 1 6 (by decide) (by kernel_rfl)
   ·rfl
   ·exact hs 3 8 (by decide) (by kernel_rfl)
   ·exact hs 4 9 (by decide) (by kernel_rfl)
   )
 generalize a.tmps[7]?.getD undef = z7 at hfr
 simp only [List.range, List.range.loop, List.size_toArray, List.length_cons, List.length_nil, List.map_cons, List.map_nil, List.lookup_cons, List.lookup_nil, Nat.reduceAdd, Nat.reduceBEq, Option.getD_some, Option.getD_none, List.getElem?_toArray, List.getElem?_cons_succ, List.getElem?_cons_zero] at hfr
 subst hfr
 have HB2 := Lib.hid ((Below.refl w1.heap.size w1).drew.trans hc.below)
 clear hc hs
 cases Z
 ·have hG := HG.out
  subst hG
  go_wp2
  go_ret
  exact ⟨rfl, HB1.out.trans (HB2.out.mono HB1.out.size)⟩
 obtain ⟨c0, c1, c2, c3, c4, c5, c6, c7, c8, c9, c10, c11, c12, c13, c14, c15, c16, c17, c18, c19, c20, c21⟩ := (HX.out w2 HB2.out).box
 have h1 := fun W => rin_any c.day 0 2932896 W
 have h2 := fun W => rin_any c.til c.day 2932896 W
 have hss := str_ref c.day c.til
 generalize inB c.day 0 2932896 = DD at h1 hss
 generalize inB c.til c.day 2932896 = UU at h2 hss
 generalize eS : strB c.day c.til = SS at hss
 have HSS := Lib.hid hss
 have HES := Lib.hid eS
 have H1 := Lib.hid h1
 have H2 := Lib.hid h2
 clear hss eS h1 h2
 go_upto_region 3 with fail
 go_cut [3] from 10 to 19 (fun x3 wx => x3 = .bool SS ∧ w2 = wx)
 case first =>
  have hss := HSS.out
  cases DD
  ·rw [Bool.false_and] at hss
   subst hss
   go_wp2_with (go_at_call 40; (with_reducible refine (H1.out _).mono ?_); rintro e wn ⟨rfl, rfl⟩)
   go_meet
   exact ⟨rfl, rfl⟩
  ·rw [Bool.true_and] at hss
   subst hss
   go_wp2_with (first | (go_at_call 40; (with_reducible refine (H1.out _).mono ?_); rintro e wn ⟨rfl, rfl⟩; clear H1) | (go_at_call 40; (with_reducible refine (H2.out _).mono ?_); rintro e wn ⟨rfl, rfl⟩))
   go_meet
   exact ⟨rfl, rfl⟩
 case rest =>
 obtain ⟨rfl, rfl⟩ := hcut
 have hpp := fun W => rpergood_any c.pk c.py c.px W
 generalize eP : perB c.pk c.py c.px = PP at hpp
 have HEP := Lib.hid eP
 have HPP := Lib.hid hpp
 clear eP hpp H1 H2 HSS
 go_upto_region 5 with (go_at_call 58; (with_reducible refine (HPP.out _).mono ?_); rintro e w4 ⟨rfl, hb4⟩; have HB4 := Lib.hid (HB2.out.trans (hb4.mono HB2.out.size)); clear hb4 c0 c1 c2 c3 c4 c5 c6 c7 c8 c9 c10 c11 c12 c13 c14 c15 c16 c17 c18 c19 c20 c21; obtain ⟨c0, c1, c2, c3, c4, c5, c6, c7, c8, c9, c10, c11, c12, c13, c14, c15, c16, c17, c18, c19, c20, c21⟩ := (HX.out w4 HB4.out).box)
 clear HPP HBA HSM HDC
 rw [hk] at c0
 have hG := HG.out
 rw [Bool.true_and, kindB, if_neg (by rw [hk]; decide), if_neg (by rw [hk]; decide), if_neg (by rw [hk]; decide), if_neg (by rw [hk]; decide), if_neg (by rw [hk]; decide), if_pos hk] at hG
 clear hk
 generalize e20 : decide (c.txt.size ≤ 65536) = L0 at hG
 have f20 : decide ((c.txt.size : Int) ≤ 65536) = L0 := by rw [← e20]; exact decide_eq_decide.2 (by omega)
 have HG2 := Lib.hid hG
 clear hG
 have hG := HG2.out
 subst hG
 go_wp2
 go_ret
 first | exact ⟨rfl, HB1.out.trans (HB4.out.mono HB1.out.size)⟩
set_option maxRecDepth 100000 in
set_option maxHeartbeats 16000000 in
theorem rgood_k7 {w : World} {B : Nat} {v : Value} {c : Cm} (hv : CmV w B v c) (hB : B ≤ w.heap.size) (hl : c.doc.ls.length ≤ 100000) (hk : c.kind = 7) :
  Calls Try.prog 27 #[v] w fun e w' => e = .returned (.bool (goodCB c)) ∧ Below w.heap.size w w' := by
 obtain ⟨A0, m0, V, rfl, HV, HV2, HVI, HB1, HX1, HLS, HOK⟩ := cmd_pre hv hB
 clear hv
 generalize hG : goodCB c = G
 unfold goodCB at hG
 have HG := Lib.hid hG
 clear hG
 go_enter Try.func27, Try.ntmps27
 go_upto_region 1 with fail
 generalize World.alloc w _ = w1 at *
 generalize hb : w.heap.size = b1 at HX1 ⊢
 have HBB := Lib.hid hb
 clear hb

 have HX := Lib.hid (fun W (hW : Below w1.heap.size w1 W) => HX1.out.below hW)
 have hba := fun W => bare_any c A0 c.doc.ls.length m0 W
 simp only [HV.out] at hba
 unfold BarePost at hba
 have hsm := rsm_pre HV HLS HB1 HOK hB hl
 generalize decide (c = bareC c) = Z at hsm HG
 have HBA := Lib.hid hba
 have HSM := Lib.hid hsm
 have HDC := Lib.hid (hdoc_pre (D := (bareC c).doc) HLS HB1 hB)
 clear hba hsm
 refine wp_region_sp (by kernel_rfl) [isS (.agg V), isS (.agg V), bareS c, isS (.bool Z), isS (.bool (!Z))] (by kernel_rfl) (by kernel_rfl) (fun q hq => ?_) (fun a w2 hc hs => ?_)
 ·match q, hq with
  | 0, _ =>
   intro a W hc hd
   have z1 := hc.same 1 (by kernel_rfl)
   simp only [List.getElem?_toArray, List.getElem?_cons_succ, List.getElem?_cons_zero, Option.getD_some] at z1
   refine obl_val rfl (wanted_none rfl) ?_ rfl
   rw [← HV.out]
   exact exec_load_cmd rfl (eval_tmp z1) (HX.out W ((Below.refl w1.heap.size w1).drew.trans hc.below))
  | 1, _ =>
   intro a W hc hd
   have z1 := hc.same 1 (by kernel_rfl)
   simp only [List.getElem?_toArray, List.getElem?_cons_succ, List.getElem?_cons_zero, Option.getD_some] at z1
   refine obl_val rfl (wanted_none rfl) ?_ rfl
   rw [← HV.out]
   exact exec_load_cmd rfl (eval_tmp z1) (HX.out W ((Below.refl w1.heap.size w1).drew.trans hc.below))
  | 2, _ =>
   intro a W hc hd
   have s1 : a.tmps[6]?.getD undef = (.agg V) := hd 1 (by kernel_rfl)
   refine obl_call rfl (wanted_none rfl) (by go_simp) (HBA.out W) ?_
   rintro e w8 ⟨lv', rfl, alt, hb8⟩
   exact ⟨_, rfl, ⟨lv', rfl, HDC.out lv' w8 (((Below.refl w1.heap.size w1).drew.trans hc.below).trans (hb8.mono ((Below.refl w1.heap.size w1).drew.trans hc.below).size)) alt⟩, hb8⟩
  | 3, _ =>
   intro a W hc hd
   have s0 : a.tmps[5]?.getD undef = (.agg V) := hd 0 (by kernel_rfl)
   have s2 : (bareS c).f (a.tmps[7]?.getD undef) W := hd 2 (by kernel_rfl)
   obtain ⟨lv', sb, hl'⟩ := s2
   refine obl_call rfl (wanted_none rfl) (by go_simp) (HSM.out W ((Below.refl w1.heap.size w1).drew.trans hc.below) lv' hl') ?_
   rintro e w8 ⟨rfl, hb8⟩
   exact ⟨_, rfl, rfl, hb8⟩
  | 4, _ =>
   intro a W hc hd
   have s3 : a.tmps[8]?.getD undef = (.bool Z) := hd 3 (by kernel_rfl)
   refine obl_val rfl (wanted_none rfl) ?_ rfl
   go_simp
  | n + 5, h => exact absurd h (by simp)
 have hfr := grow_frame hc [(5, (.agg V)), (6, (.agg V)), (7, a.tmps[7]?.getD undef), (8, (.bool Z)), (9, (.bool (!Z)))] (by kernel_rfl) (fun p hp => by
   simp only [List.mem_cons, List.not_mem_nil, or_false] at hp
   rcases hp with rfl | rfl | rfl | rfl | rfl
   ·exact hs 0 5 (by decide) (by kernel_rfl)
   ·exact hs 1 6 (by decide) (by kernel_rfl)
   ·rfl
   ·exact hs 3 8 (by decide) (by kernel_rfl)
   ·exact hs 4 9 (by decide) (by kernel_rfl)
   )
 generalize a.tmps[7]?.getD undef = z7 at hfr
 simp only [List.range, List.range.loop, List.size_toArray, List.length_cons, List.length_nil, List.map_cons, List.map_nil, List.lookup_cons, List.lookup_nil, Nat.reduceAdd, Nat.reduceBEq, Option.getD_some, Option.getD_none, List.getElem?_toArray, List.getElem?_cons_succ, List.getElem?_cons_zero] at hfr
 subst hfr
 have HB2 := Lib.hid ((Below.refl w1.heap.size w1).drew.trans hc.below)
 clear hc hs
 cases Z
 ·have hG := HG.out
  subst hG
  go_wp2
  go_ret
  exact ⟨rfl, HB1.out.trans (HB2.out.mono HB1.out.size)⟩
 obtain ⟨c0, c1, c2, c3, c4, c5, c6, c7, c8, c9, c10, c11, c12, c13, c14, c15, c16, c17, c18, c19, c20, c21⟩ := (HX.out w2 HB2.out).box
 have h1 := fun W => rin_any c.day 0 2932896 W
 have h2 := fun W => rin_any c.til c.day 2932896 W
 have hss := str_ref c.day c.til
 generalize inB c.day 0 2932896 = DD at h1 hss
 generalize inB c.til c.day 2932896 = UU at h2 hss
 generalize eS : strB c.day c.til = SS at hss
 have HSS := Lib.hid hss
 have HES := Lib.hid eS
 have H1 := Lib.hid h1
 have H2 := Lib.hid h2
 clear hss eS h1 h2
 go_upto_region 3 with fail
 go_cut [3] from 10 to 19 (fun x3 wx => x3 = .bool SS ∧ w2 = wx)
 case first =>
  have hss := HSS.out
  cases DD
  ·rw [Bool.false_and] at hss
   subst hss
   go_wp2_with (go_at_call 40; (with_reducible refine (H1.out _).mono ?_); rintro e wn ⟨rfl, rfl⟩)
   go_meet
   exact ⟨rfl, rfl⟩
  ·rw [Bool.true_and] at hss
   subst hss
   go_wp2_with (first | (go_at_call 40; (with_reducible refine (H1.out _).mono ?_); rintro e wn ⟨rfl, rfl⟩; clear H1) | (go_at_call 40; (with_reducible refine (H2.out _).mono ?_); rintro e wn ⟨rfl, rfl⟩))
   go_meet
   exact ⟨rfl, rfl⟩
 case rest =>
 obtain ⟨rfl, rfl⟩ := hcut
 have hpp := fun W => rpergood_any c.pk c.py c.px W
 generalize eP : perB c.pk c.py c.px = PP at hpp
 have HEP := Lib.hid eP
 have HPP := Lib.hid hpp
 clear eP hpp H1 H2 HSS
 go_upto_region 5 with (go_at_call 58; (with_reducible refine (HPP.out _).mono ?_); rintro e w4 ⟨rfl, hb4⟩; have HB4 := Lib.hid (HB2.out.trans (hb4.mono HB2.out.size)); clear hb4 c0 c1 c2 c3 c4 c5 c6 c7 c8 c9 c10 c11 c12 c13 c14 c15 c16 c17 c18 c19 c20 c21; obtain ⟨c0, c1, c2, c3, c4, c5, c6, c7, c8, c9, c10, c11, c12, c13, c14, c15, c16, c17, c18, c19, c20, c21⟩ := (HX.out w4 HB4.out).box)
 clear HPP HBA HSM HDC
 rw [hk] at c0
 have hG := HG.out
 rw [Bool.true_and, kindB, if_neg (by rw [hk]; decide), if_neg (by rw [hk]; decide), if_neg (by rw [hk]; decide), if_neg (by rw [hk]; decide), if_neg (by rw [hk]; decide), if_neg (by rw [hk]; decide), if_pos hk] at hG
 rw [HEP.out] at hG
 clear hk
 have q2 := fun W => rin_any c.nm 0 100 W
 generalize e21 : (c.pk == 3) = L1 at hG
 generalize hl2 : inB c.nm 0 100 = L2 at hG q2
 clear hl2
 have Q2 := Lib.hid q2
 clear q2
 have HG2 := Lib.hid hG
 clear hG
 cases PP
 ·skip
  have hG := HG2.out
  subst hG
  go_wp2_with (first | (go_at_call 40; (with_reducible refine (Q2.out _).mono ?_); rintro e wn ⟨rfl, rfl⟩))
  go_ret
  first | exact ⟨rfl, HB1.out.trans (HB4.out.mono HB1.out.size)⟩
 cases L1
 ·skip
  have hG := HG2.out
  subst hG
  go_wp2_with (first | (go_at_call 40; (with_reducible refine (Q2.out _).mono ?_); rintro e wn ⟨rfl, rfl⟩))
  go_ret
  first | exact ⟨rfl, HB1.out.trans (HB4.out.mono HB1.out.size)⟩
 have hG := HG2.out
 subst hG
 go_wp2_with (first | (go_at_call 40; (with_reducible refine (Q2.out _).mono ?_); rintro e wn ⟨rfl, rfl⟩))
 go_ret
 first | exact ⟨rfl, HB1.out.trans (HB4.out.mono HB1.out.size)⟩
set_option maxRecDepth 100000 in
set_option maxHeartbeats 16000000 in
theorem rgood_k8 {w : World} {B : Nat} {v : Value} {c : Cm} (hv : CmV w B v c) (hB : B ≤ w.heap.size) (hl : c.doc.ls.length ≤ 100000) (hk : c.kind = 8) :
  Calls Try.prog 27 #[v] w fun e w' => e = .returned (.bool (goodCB c)) ∧ Below w.heap.size w w' := by
 obtain ⟨A0, m0, V, rfl, HV, HV2, HVI, HB1, HX1, HLS, HOK⟩ := cmd_pre hv hB
 clear hv
 generalize hG : goodCB c = G
 unfold goodCB at hG
 have HG := Lib.hid hG
 clear hG
 go_enter Try.func27, Try.ntmps27
 go_upto_region 1 with fail
 generalize World.alloc w _ = w1 at *
 generalize hb : w.heap.size = b1 at HX1 ⊢
 have HBB := Lib.hid hb
 clear hb

 have HX := Lib.hid (fun W (hW : Below w1.heap.size w1 W) => HX1.out.below hW)
 have hba := fun W => bare_any c A0 c.doc.ls.length m0 W
 simp only [HV.out] at hba
 unfold BarePost at hba
 have hsm := rsm_pre HV HLS HB1 HOK hB hl
 generalize decide (c = bareC c) = Z at hsm HG
 have HBA := Lib.hid hba
 have HSM := Lib.hid hsm
 have HDC := Lib.hid (hdoc_pre (D := (bareC c).doc) HLS HB1 hB)
 clear hba hsm
 refine wp_region_sp (by kernel_rfl) [isS (.agg V), isS (.agg V), bareS c, isS (.bool Z), isS (.bool (!Z))] (by kernel_rfl) (by kernel_rfl) (fun q hq => ?_) (fun a w2 hc hs => ?_)
 ·match q, hq with
  | 0, _ =>
   intro a W hc hd
   have z1 := hc.same 1 (by kernel_rfl)
   simp only [List.getElem?_toArray, List.getElem?_cons_succ, List.getElem?_cons_zero, Option.getD_some] at z1
   refine obl_val rfl (wanted_none rfl) ?_ rfl
   rw [← HV.out]
   exact exec_load_cmd rfl (eval_tmp z1) (HX.out W ((Below.refl w1.heap.size w1).drew.trans hc.below))
  | 1, _ =>
   intro a W hc hd
   have z1 := hc.same 1 (by kernel_rfl)
   simp only [List.getElem?_toArray, List.getElem?_cons_succ, List.getElem?_cons_zero, Option.getD_some] at z1
   refine obl_val rfl (wanted_none rfl) ?_ rfl
   rw [← HV.out]
   exact exec_load_cmd rfl (eval_tmp z1) (HX.out W ((Below.refl w1.heap.size w1).drew.trans hc.below))
  | 2, _ =>
   intro a W hc hd
   have s1 : a.tmps[6]?.getD undef = (.agg V) := hd 1 (by kernel_rfl)
   refine obl_call rfl (wanted_none rfl) (by go_simp) (HBA.out W) ?_
   rintro e w8 ⟨lv', rfl, alt, hb8⟩
   exact ⟨_, rfl, ⟨lv', rfl, HDC.out lv' w8 (((Below.refl w1.heap.size w1).drew.trans hc.below).trans (hb8.mono ((Below.refl w1.heap.size w1).drew.trans hc.below).size)) alt⟩, hb8⟩
  | 3, _ =>
   intro a W hc hd
   have s0 : a.tmps[5]?.getD undef = (.agg V) := hd 0 (by kernel_rfl)
   have s2 : (bareS c).f (a.tmps[7]?.getD undef) W := hd 2 (by kernel_rfl)
   obtain ⟨lv', sb, hl'⟩ := s2
   refine obl_call rfl (wanted_none rfl) (by go_simp) (HSM.out W ((Below.refl w1.heap.size w1).drew.trans hc.below) lv' hl') ?_
   rintro e w8 ⟨rfl, hb8⟩
   exact ⟨_, rfl, rfl, hb8⟩
  | 4, _ =>
   intro a W hc hd
   have s3 : a.tmps[8]?.getD undef = (.bool Z) := hd 3 (by kernel_rfl)
   refine obl_val rfl (wanted_none rfl) ?_ rfl
   go_simp
  | n + 5, h => exact absurd h (by simp)
 have hfr := grow_frame hc [(5, (.agg V)), (6, (.agg V)), (7, a.tmps[7]?.getD undef), (8, (.bool Z)), (9, (.bool (!Z)))] (by kernel_rfl) (fun p hp => by
   simp only [List.mem_cons, List.not_mem_nil, or_false] at hp
   rcases hp with rfl | rfl | rfl | rfl | rfl
   ·exact hs 0 5 (by decide) (by kernel_rfl)
   ·exact hs 1 6 (by decide) (by kernel_rfl)
   ·rfl
   ·exact hs 3 8 (by decide) (by kernel_rfl)
   ·exact hs 4 9 (by decide) (by kernel_rfl)
   )
 generalize a.tmps[7]?.getD undef = z7 at hfr
 simp only [List.range, List.range.loop, List.size_toArray, List.length_cons, List.length_nil, List.map_cons, List.map_nil, List.lookup_cons, List.lookup_nil, Nat.reduceAdd, Nat.reduceBEq, Option.getD_some, Option.getD_none, List.getElem?_toArray, List.getElem?_cons_succ, List.getElem?_cons_zero] at hfr
 subst hfr
 have HB2 := Lib.hid ((Below.refl w1.heap.size w1).drew.trans hc.below)
 clear hc hs
 cases Z
 ·have hG := HG.out
  subst hG
  go_wp2
  go_ret
  exact ⟨rfl, HB1.out.trans (HB2.out.mono HB1.out.size)⟩
 obtain ⟨c0, c1, c2, c3, c4, c5, c6, c7, c8, c9, c10, c11, c12, c13, c14, c15, c16, c17, c18, c19, c20, c21⟩ := (HX.out w2 HB2.out).box
 have h1 := fun W => rin_any c.day 0 2932896 W
 have h2 := fun W => rin_any c.til c.day 2932896 W
 have hss := str_ref c.day c.til
 generalize inB c.day 0 2932896 = DD at h1 hss
 generalize inB c.til c.day 2932896 = UU at h2 hss
 generalize eS : strB c.day c.til = SS at hss
 have HSS := Lib.hid hss
 have HES := Lib.hid eS
 have H1 := Lib.hid h1
 have H2 := Lib.hid h2
 clear hss eS h1 h2
 go_upto_region 3 with fail
 go_cut [3] from 10 to 19 (fun x3 wx => x3 = .bool SS ∧ w2 = wx)
 case first =>
  have hss := HSS.out
  cases DD
  ·rw [Bool.false_and] at hss
   subst hss
   go_wp2_with (go_at_call 40; (with_reducible refine (H1.out _).mono ?_); rintro e wn ⟨rfl, rfl⟩)
   go_meet
   exact ⟨rfl, rfl⟩
  ·rw [Bool.true_and] at hss
   subst hss
   go_wp2_with (first | (go_at_call 40; (with_reducible refine (H1.out _).mono ?_); rintro e wn ⟨rfl, rfl⟩; clear H1) | (go_at_call 40; (with_reducible refine (H2.out _).mono ?_); rintro e wn ⟨rfl, rfl⟩))
   go_meet
   exact ⟨rfl, rfl⟩
 case rest =>
 obtain ⟨rfl, rfl⟩ := hcut
 have hpp := fun W => rpergood_any c.pk c.py c.px W
 generalize eP : perB c.pk c.py c.px = PP at hpp
 have HEP := Lib.hid eP
 have HPP := Lib.hid hpp
 clear eP hpp H1 H2 HSS
 go_upto_region 5 with (go_at_call 58; (with_reducible refine (HPP.out _).mono ?_); rintro e w4 ⟨rfl, hb4⟩; have HB4 := Lib.hid (HB2.out.trans (hb4.mono HB2.out.size)); clear hb4 c0 c1 c2 c3 c4 c5 c6 c7 c8 c9 c10 c11 c12 c13 c14 c15 c16 c17 c18 c19 c20 c21; obtain ⟨c0, c1, c2, c3, c4, c5, c6, c7, c8, c9, c10, c11, c12, c13, c14, c15, c16, c17, c18, c19, c20, c21⟩ := (HX.out w4 HB4.out).box)
 clear HPP HBA HSM HDC
 rw [hk] at c0
 have hG := HG.out
 rw [Bool.true_and, kindB, if_neg (by rw [hk]; decide), if_neg (by rw [hk]; decide), if_neg (by rw [hk]; decide), if_neg (by rw [hk]; decide), if_neg (by rw [hk]; decide), if_neg (by rw [hk]; decide), if_neg (by rw [hk]; decide), if_pos hk] at hG
 clear hk
 have q0 := fun W (hW : Below w1.heap.size w1 W) => rgooddoc_any (w := W) (B := B) (v := .agg (c.doc.vs (.slice A0 c.doc.ls.length m0))) (o := c.doc) ⟨_, rfl, HLS.out W (HB1.out.trans (hW.mono HB1.out.size)), HOK.out.doc⟩ (Nat.le_trans hB (HB1.out.trans (hW.mono HB1.out.size)).size) HOK.out.doc.num hl
 simp only [Dm.vs] at q0
 generalize hl0 : goodDocB c.doc = L0 at hG q0
 clear hl0
 have Q0 := Lib.hid q0
 clear q0
 have HG2 := Lib.hid hG
 clear hG
 have hG := HG2.out
 subst hG
 go_wp2_with (first | (go_at_call 14; (with_reducible refine (Q0.out _ HB4.out).mono ?_); rintro e wa ⟨rfl, hbx⟩; have HBa := Lib.hid (HB4.out.trans (hbx.mono HB4.out.size)); clear hbx c0 c1 c2 c3 c4 c5 c6 c7 c8 c9 c10 c11 c12 c13 c14 c15 c16 c17 c18 c19 c20 c21; obtain ⟨c0, c1, c2, c3, c4, c5, c6, c7, c8, c9, c10, c11, c12, c13, c14, c15, c16, c17, c18, c19, c20, c21⟩ := (HX.out wa HBa.out).box))
 go_ret
 first | exact ⟨rfl, HB1.out.trans (HBa.out.mono HB1.out.size)⟩ | exact ⟨rfl, HB1.out.trans (HB4.out.mono HB1.out.size)⟩
set_option maxRecDepth 100000 in
set_option maxHeartbeats 16000000 in
theorem rgood_k9 {w : World} {B : Nat} {v : Value} {c : Cm} (hv : CmV w B v c) (hB : B ≤ w.heap.size) (hl : c.doc.ls.length ≤ 100000) (hk : c.kind = 9) :
  Calls Try.prog 27 #[v] w fun e w' => e = .returned (.bool (goodCB c)) ∧ Below w.heap.size w w' := by
 obtain ⟨A0, m0, V, rfl, HV, HV2, HVI, HB1, HX1, HLS, HOK⟩ := cmd_pre hv hB
 clear hv
 generalize hG : goodCB c = G
 unfold goodCB at hG
 have HG := Lib.hid hG
 clear hG
 go_enter Try.func27, Try.ntmps27
 go_upto_region 1 with fail
 generalize World.alloc w _ = w1 at *
 generalize hb : w.heap.size = b1 at HX1 ⊢
 have HBB := Lib.hid hb
 clear hb

 have HX := Lib.hid (fun W (hW : Below w1.heap.size w1 W) => HX1.out.below hW)
 have hba := fun W => bare_any c A0 c.doc.ls.length m0 W
 simp only [HV.out] at hba
 unfold BarePost at hba
 have hsm := rsm_pre HV HLS HB1 HOK hB hl
 generalize decide (c = bareC c) = Z at hsm HG
 have HBA := Lib.hid hba
 have HSM := Lib.hid hsm
 have HDC := Lib.hid (hdoc_pre (D := (bareC c).doc) HLS HB1 hB)
 clear hba hsm
 refine wp_region_sp (by kernel_rfl) [isS (.agg V), isS (.agg V), bareS c, isS (.bool Z), isS (.bool (!Z))] (by kernel_rfl) (by kernel_rfl) (fun q hq => ?_) (fun a w2 hc hs => ?_)
 ·match q, hq with
  | 0, _ =>
   intro a W hc hd
   have z1 := hc.same 1 (by kernel_rfl)
   simp only [List.getElem?_toArray, List.getElem?_cons_succ, List.getElem?_cons_zero, Option.getD_some] at z1
   refine obl_val rfl (wanted_none rfl) ?_ rfl
   rw [← HV.out]
   exact exec_load_cmd rfl (eval_tmp z1) (HX.out W ((Below.refl w1.heap.size w1).drew.trans hc.below))
  | 1, _ =>
   intro a W hc hd
   have z1 := hc.same 1 (by kernel_rfl)
   simp only [List.getElem?_toArray, List.getElem?_cons_succ, List.getElem?_cons_zero, Option.getD_some] at z1
   refine obl_val rfl (wanted_none rfl) ?_ rfl
   rw [← HV.out]
   exact exec_load_cmd rfl (eval_tmp z1) (HX.out W ((Below.refl w1.heap.size w1).drew.trans hc.below))
  | 2, _ =>
   intro a W hc hd
   have s1 : a.tmps[6]?.getD undef = (.agg V) := hd 1 (by kernel_rfl)
   refine obl_call rfl (wanted_none rfl) (by go_simp) (HBA.out W) ?_
   rintro e w8 ⟨lv', rfl, alt, hb8⟩
   exact ⟨_, rfl, ⟨lv', rfl, HDC.out lv' w8 (((Below.refl w1.heap.size w1).drew.trans hc.below).trans (hb8.mono ((Below.refl w1.heap.size w1).drew.trans hc.below).size)) alt⟩, hb8⟩
  | 3, _ =>
   intro a W hc hd
   have s0 : a.tmps[5]?.getD undef = (.agg V) := hd 0 (by kernel_rfl)
   have s2 : (bareS c).f (a.tmps[7]?.getD undef) W := hd 2 (by kernel_rfl)
   obtain ⟨lv', sb, hl'⟩ := s2
   refine obl_call rfl (wanted_none rfl) (by go_simp) (HSM.out W ((Below.refl w1.heap.size w1).drew.trans hc.below) lv' hl') ?_
   rintro e w8 ⟨rfl, hb8⟩
   exact ⟨_, rfl, rfl, hb8⟩
  | 4, _ =>
   intro a W hc hd
   have s3 : a.tmps[8]?.getD undef = (.bool Z) := hd 3 (by kernel_rfl)
   refine obl_val rfl (wanted_none rfl) ?_ rfl
   go_simp
  | n + 5, h => exact absurd h (by simp)
 have hfr := grow_frame hc [(5, (.agg V)), (6, (.agg V)), (7, a.tmps[7]?.getD undef), (8, (.bool Z)), (9, (.bool (!Z)))] (by kernel_rfl) (fun p hp => by
   simp only [List.mem_cons, List.not_mem_nil, or_false] at hp
   rcases hp with rfl | rfl | rfl | rfl | rfl
   ·exact hs 0 5 (by decide) (by kernel_rfl)
   ·exact hs 1 6 (by decide) (by kernel_rfl)
   ·rfl
   ·exact hs 3 8 (by decide) (by kernel_rfl)
   ·exact hs 4 9 (by decide) (by kernel_rfl)
   )
 generalize a.tmps[7]?.getD undef = z7 at hfr
 simp only [List.range, List.range.loop, List.size_toArray, List.length_cons, List.length_nil, List.map_cons, List.map_nil, List.lookup_cons, List.lookup_nil, Nat.reduceAdd, Nat.reduceBEq, Option.getD_some, Option.getD_none, List.getElem?_toArray, List.getElem?_cons_succ, List.getElem?_cons_zero] at hfr
 subst hfr
 have HB2 := Lib.hid ((Below.refl w1.heap.size w1).drew.trans hc.below)
 clear hc hs
 cases Z
 ·have hG := HG.out
  subst hG
  go_wp2
  go_ret
  exact ⟨rfl, HB1.out.trans (HB2.out.mono HB1.out.size)⟩
 obtain ⟨c0, c1, c2, c3, c4, c5, c6, c7, c8, c9, c10, c11, c12, c13, c14, c15, c16, c17, c18, c19, c20, c21⟩ := (HX.out w2 HB2.out).box
 have h1 := fun W => rin_any c.day 0 2932896 W
 have h2 := fun W => rin_any c.til c.day 2932896 W
 have hss := str_ref c.day c.til
 generalize inB c.day 0 2932896 = DD at h1 hss
 generalize inB c.til c.day 2932896 = UU at h2 hss
 generalize eS : strB c.day c.til = SS at hss
 have HSS := Lib.hid hss
 have HES := Lib.hid eS
 have H1 := Lib.hid h1
 have H2 := Lib.hid h2
 clear hss eS h1 h2
 go_upto_region 3 with fail
 go_cut [3] from 10 to 19 (fun x3 wx => x3 = .bool SS ∧ w2 = wx)
 case first =>
  have hss := HSS.out
  cases DD
  ·rw [Bool.false_and] at hss
   subst hss
   go_wp2_with (go_at_call 40; (with_reducible refine (H1.out _).mono ?_); rintro e wn ⟨rfl, rfl⟩)
   go_meet
   exact ⟨rfl, rfl⟩
  ·rw [Bool.true_and] at hss
   subst hss
   go_wp2_with (first | (go_at_call 40; (with_reducible refine (H1.out _).mono ?_); rintro e wn ⟨rfl, rfl⟩; clear H1) | (go_at_call 40; (with_reducible refine (H2.out _).mono ?_); rintro e wn ⟨rfl, rfl⟩))
   go_meet
   exact ⟨rfl, rfl⟩
 case rest =>
 obtain ⟨rfl, rfl⟩ := hcut
 have hpp := fun W => rpergood_any c.pk c.py c.px W
 generalize eP : perB c.pk c.py c.px = PP at hpp
 have HEP := Lib.hid eP
 have HPP := Lib.hid hpp
 clear eP hpp H1 H2 HSS
 go_upto_region 5 with (go_at_call 58; (with_reducible refine (HPP.out _).mono ?_); rintro e w4 ⟨rfl, hb4⟩; have HB4 := Lib.hid (HB2.out.trans (hb4.mono HB2.out.size)); clear hb4 c0 c1 c2 c3 c4 c5 c6 c7 c8 c9 c10 c11 c12 c13 c14 c15 c16 c17 c18 c19 c20 c21; obtain ⟨c0, c1, c2, c3, c4, c5, c6, c7, c8, c9, c10, c11, c12, c13, c14, c15, c16, c17, c18, c19, c20, c21⟩ := (HX.out w4 HB4.out).box)
 clear HPP HBA HSM HDC
 rw [hk] at c0
 have hG := HG.out
 rw [Bool.true_and, kindB, if_neg (by rw [hk]; decide), if_neg (by rw [hk]; decide), if_neg (by rw [hk]; decide), if_neg (by rw [hk]; decide), if_neg (by rw [hk]; decide), if_neg (by rw [hk]; decide), if_neg (by rw [hk]; decide), if_neg (by rw [hk]; decide), if_pos (.inl hk)] at hG
 rw [← per_two] at hG
 rw [HEP.out] at hG
 clear hk
 have q1 := fun W => rin_any c.pk 1 2 W
 generalize hl1 : inB c.pk 1 2 = L1 at hG q1
 clear hl1
 have Q1 := Lib.hid q1
 clear q1
 have HG2 := Lib.hid hG
 clear hG
 cases PP
 ·skip
  have hG := HG2.out
  subst hG
  go_wp2_with (first | (go_at_call 40; (with_reducible refine (Q1.out _).mono ?_); rintro e wn ⟨rfl, rfl⟩))
  go_ret
  first | exact ⟨rfl, HB1.out.trans (HB4.out.mono HB1.out.size)⟩
 have hG := HG2.out
 subst hG
 go_wp2_with (first | (go_at_call 40; (with_reducible refine (Q1.out _).mono ?_); rintro e wn ⟨rfl, rfl⟩))
 go_ret
 first | exact ⟨rfl, HB1.out.trans (HB4.out.mono HB1.out.size)⟩
set_option maxRecDepth 100000 in
set_option maxHeartbeats 16000000 in
theorem rgood_k10 {w : World} {B : Nat} {v : Value} {c : Cm} (hv : CmV w B v c) (hB : B ≤ w.heap.size) (hl : c.doc.ls.length ≤ 100000) (hk : c.kind = 10) :
  Calls Try.prog 27 #[v] w fun e w' => e = .returned (.bool (goodCB c)) ∧ Below w.heap.size w w' := by
 obtain ⟨A0, m0, V, rfl, HV, HV2, HVI, HB1, HX1, HLS, HOK⟩ := cmd_pre hv hB
 clear hv
 generalize hG : goodCB c = G
 unfold goodCB at hG
 have HG := Lib.hid hG
 clear hG
 go_enter Try.func27, Try.ntmps27
 go_upto_region 1 with fail
 generalize World.alloc w _ = w1 at *
 generalize hb : w.heap.size = b1 at HX1 ⊢
 have HBB := Lib.hid hb
 clear hb

 have HX := Lib.hid (fun W (hW : Below w1.heap.size w1 W) => HX1.out.below hW)
 have hba := fun W => bare_any c A0 c.doc.ls.length m0 W
 simp only [HV.out] at hba
 unfold BarePost at hba
 have hsm := rsm_pre HV HLS HB1 HOK hB hl
 generalize decide (c = bareC c) = Z at hsm HG
 have HBA := Lib.hid hba
 have HSM := Lib.hid hsm
 have HDC := Lib.hid (hdoc_pre (D := (bareC c).doc) HLS HB1 hB)
 clear hba hsm
 refine wp_region_sp (by kernel_rfl) [isS (.agg V), isS (.agg V), bareS c, isS (.bool Z), isS (.bool (!Z))] (by kernel_rfl) (by kernel_rfl) (fun q hq => ?_) (fun a w2 hc hs => ?_)
 ·match q, hq with
  | 0, _ =>
   intro a W hc hd
   have z1 := hc.same 1 (by kernel_rfl)
   simp only [List.getElem?_toArray, List.getElem?_cons_succ, List.getElem?_cons_zero, Option.getD_some] at z1
   refine obl_val rfl (wanted_none rfl) ?_ rfl
   rw [← HV.out]
   exact exec_load_cmd rfl (eval_tmp z1) (HX.out W ((Below.refl w1.heap.size w1).drew.trans hc.below))
  | 1, _ =>
   intro a W hc hd
   have z1 := hc.same 1 (by kernel_rfl)
   simp only [List.getElem?_toArray, List.getElem?_cons_succ, List.getElem?_cons_zero, Option.getD_some] at z1
   refine obl_val rfl (wanted_none rfl) ?_ rfl
   rw [← HV.out]
   exact exec_load_cmd rfl (eval_tmp z1) (HX.out W ((Below.refl w1.heap.size w1).drew.trans hc.below))
  | 2, _ =>
   intro a W hc hd
   have s1 : a.tmps[6]?.getD undef = (.agg V) := hd 1 (by kernel_rfl)
   refine obl_call rfl (wanted_none rfl) (by go_simp) (HBA.out W) ?_
   rintro e w8 ⟨lv', rfl, alt, hb8⟩
   exact ⟨_, rfl, ⟨lv', rfl, HDC.out lv' w8 (((Below.refl w1.heap.size w1).drew.trans hc.below).trans (hb8.mono ((Below.refl w1.heap.size w1).drew.trans hc.below).size)) alt⟩, hb8⟩
  | 3, _ =>
   intro a W hc hd
   have s0 : a.tmps[5]?.getD undef = (.agg V) := hd 0 (by kernel_rfl)
   have s2 : (bareS c).f (a.tmps[7]?.getD undef) W := hd 2 (by kernel_rfl)
   obtain ⟨lv', sb, hl'⟩ := s2
   refine obl_call rfl (wanted_none rfl) (by go_simp) (HSM.out W ((Below.refl w1.heap.size w1).drew.trans hc.below) lv' hl') ?_
   rintro e w8 ⟨rfl, hb8⟩
   exact ⟨_, rfl, rfl, hb8⟩
  | 4, _ =>
   intro a W hc hd
   have s3 : a.tmps[8]?.getD undef = (.bool Z) := hd 3 (by kernel_rfl)
   refine obl_val rfl (wanted_none rfl) ?_ rfl
   go_simp
  | n + 5, h => exact absurd h (by simp)
 have hfr := grow_frame hc [(5, (.agg V)), (6, (.agg V)), (7, a.tmps[7]?.getD undef), (8, (.bool Z)), (9, (.bool (!Z)))] (by kernel_rfl) (fun p hp => by
   simp only [List.mem_cons, List.not_mem_nil, or_false] at hp
   rcases hp with rfl | rfl | rfl | rfl | rfl
   ·exact hs 0 5 (by decide) (by kernel_rfl)
   ·exact hs 1 6 (by decide) (by kernel_rfl)
   ·rfl
   ·exact hs 3 8 (by decide) (by kernel_rfl)
   ·exact hs 4 9 (by decide) (by kernel_rfl)
   )
 generalize a.tmps[7]?.getD undef = z7 at hfr
 simp only [List.range, List.range.loop, List.size_toArray, List.length_cons, List.length_nil, List.map_cons, List.map_nil, List.lookup_cons, List.lookup_nil, Nat.reduceAdd, Nat.reduceBEq, Option.getD_some, Option.getD_none, List.getElem?_toArray, List.getElem?_cons_succ, List.getElem?_cons_zero] at hfr
 subst hfr
 have HB2 := Lib.hid ((Below.refl w1.heap.size w1).drew.trans hc.below)
 clear hc hs
 cases Z
 ·have hG := HG.out
  subst hG
  go_wp2
  go_ret
  exact ⟨rfl, HB1.out.trans (HB2.out.mono HB1.out.size)⟩
 obtain ⟨c0, c1, c2, c3, c4, c5, c6, c7, c8, c9, c10, c11, c12, c13, c14, c15, c16, c17, c18, c19, c20, c21⟩ := (HX.out w2 HB2.out).box
 have h1 := fun W => rin_any c.day 0 2932896 W
 have h2 := fun W => rin_any c.til c.day 2932896 W
 have hss := str_ref c.day c.til
 generalize inB c.day 0 2932896 = DD at h1 hss
 generalize inB c.til c.day 2932896 = UU at h2 hss
 generalize eS : strB c.day c.til = SS at hss
 have HSS := Lib.hid hss
 have HES := Lib.hid eS
 have H1 := Lib.hid h1
 have H2 := Lib.hid h2
 clear hss eS h1 h2
 go_upto_region 3 with fail
 go_cut [3] from 10 to 19 (fun x3 wx => x3 = .bool SS ∧ w2 = wx)
 case first =>
  have hss := HSS.out
  cases DD
  ·rw [Bool.false_and] at hss
   subst hss
   go_wp2_with (go_at_call 40; (with_reducible refine (H1.out _).mono ?_); rintro e wn ⟨rfl, rfl⟩)
   go_meet
   exact ⟨rfl, rfl⟩
  ·rw [Bool.true_and] at hss
   subst hss
   go_wp2_with (first | (go_at_call 40; (with_reducible refine (H1.out _).mono ?_); rintro e wn ⟨rfl, rfl⟩; clear H1) | (go_at_call 40; (with_reducible refine (H2.out _).mono ?_); rintro e wn ⟨rfl, rfl⟩))
   go_meet
   exact ⟨rfl, rfl⟩
 case rest =>
 obtain ⟨rfl, rfl⟩ := hcut
 have hpp := fun W => rpergood_any c.pk c.py c.px W
 generalize eP : perB c.pk c.py c.px = PP at hpp
 have HEP := Lib.hid eP
 have HPP := Lib.hid hpp
 clear eP hpp H1 H2 HSS
 go_upto_region 5 with (go_at_call 58; (with_reducible refine (HPP.out _).mono ?_); rintro e w4 ⟨rfl, hb4⟩; have HB4 := Lib.hid (HB2.out.trans (hb4.mono HB2.out.size)); clear hb4 c0 c1 c2 c3 c4 c5 c6 c7 c8 c9 c10 c11 c12 c13 c14 c15 c16 c17 c18 c19 c20 c21; obtain ⟨c0, c1, c2, c3, c4, c5, c6, c7, c8, c9, c10, c11, c12, c13, c14, c15, c16, c17, c18, c19, c20, c21⟩ := (HX.out w4 HB4.out).box)
 clear HPP HBA HSM HDC
 rw [hk] at c0
 have hG := HG.out
 rw [Bool.true_and, kindB, if_neg (by rw [hk]; decide), if_neg (by rw [hk]; decide), if_neg (by rw [hk]; decide), if_neg (by rw [hk]; decide), if_neg (by rw [hk]; decide), if_neg (by rw [hk]; decide), if_neg (by rw [hk]; decide), if_neg (by rw [hk]; decide), if_pos (.inr hk)] at hG
 rw [← per_two] at hG
 rw [HEP.out] at hG
 clear hk
 have q1 := fun W => rin_any c.pk 1 2 W
 generalize hl1 : inB c.pk 1 2 = L1 at hG q1
 clear hl1
 have Q1 := Lib.hid q1
 clear q1
 have HG2 := Lib.hid hG
 clear hG
 cases PP
 ·skip
  have hG := HG2.out
  subst hG
  go_wp2_with (first | (go_at_call 40; (with_reducible refine (Q1.out _).mono ?_); rintro e wn ⟨rfl, rfl⟩))
  go_ret
  first | exact ⟨rfl, HB1.out.trans (HB4.out.mono HB1.out.size)⟩
 have hG := HG2.out
 subst hG
 go_wp2_with (first | (go_at_call 40; (with_reducible refine (Q1.out _).mono ?_); rintro e wn ⟨rfl, rfl⟩))
 go_ret
 first | exact ⟨rfl, HB1.out.trans (HB4.out.mono HB1.out.size)⟩
set_option maxRecDepth 100000 in
set_option maxHeartbeats 16000000 in
theorem rgood_k11 {w : World} {B : Nat} {v : Value} {c : Cm} (hv : CmV w B v c) (hB : B ≤ w.heap.size) (hl : c.doc.ls.length ≤ 100000) (hk : c.kind = 11) :
  Calls Try.prog 27 #[v] w fun e w' => e = .returned (.bool (goodCB c)) ∧ Below w.heap.size w w' := by
 obtain ⟨A0, m0, V, rfl, HV, HV2, HVI, HB1, HX1, HLS, HOK⟩ := cmd_pre hv hB
 clear hv
 generalize hG : goodCB c = G
 unfold goodCB at hG
 have HG := Lib.hid hG
 clear hG
 go_enter Try.func27, Try.ntmps27
 go_upto_region 1 with fail
 generalize World.alloc w _ = w1 at *
 generalize hb : w.heap.size = b1 at HX1 ⊢
 have HBB := Lib.hid hb
 clear hb

 have HX := Lib.hid (fun W (hW : Below w1.heap.size w1 W) => HX1.out.below hW)
 have hba := fun W => bare_any c A0 c.doc.ls.length m0 W
 simp only [HV.out] at hba
 unfold BarePost at hba
 have hsm := rsm_pre HV HLS HB1 HOK hB hl
 generalize decide (c = bareC c) = Z at hsm HG
 have HBA := Lib.hid hba
 have HSM := Lib.hid hsm
 have HDC := Lib.hid (hdoc_pre (D := (bareC c).doc) HLS HB1 hB)
 clear hba hsm
 refine wp_region_sp (by kernel_rfl) [isS (.agg V), isS (.agg V), bareS c, isS (.bool Z), isS (.bool (!Z))] (by kernel_rfl) (by kernel_rfl) (fun q hq => ?_) (fun a w2 hc hs => ?_)
 ·match q, hq with
  | 0, _ =>
   intro a W hc hd
   have z1 := hc.same 1 (by kernel_rfl)
   simp only [List.getElem?_toArray, List.getElem?_cons_succ, List.getElem?_cons_zero, Option.getD_some] at z1
   refine obl_val rfl (wanted_none rfl) ?_ rfl
   rw [← HV.out]
   exact exec_load_cmd rfl (eval_tmp z1) (HX.out W ((Below.refl w1.heap.size w1).drew.trans hc.below))
  | 1, _ =>
   intro a W hc hd
   have z1 := hc.same 1 (by kernel_rfl)
   simp only [List.getElem?_toArray, List.getElem?_cons_succ, List.getElem?_cons_zero, Option.getD_some] at z1
   refine obl_val rfl (wanted_none rfl) ?_ rfl
   rw [← HV.out]
   exact exec_load_cmd rfl (eval_tmp z1) (HX.out W ((Below.refl w1.heap.size w1).drew.trans hc.below))
  | 2, _ =>
   intro a W hc hd
   have s1 : a.tmps[6]?.getD undef = (.agg V) := hd 1 (by kernel_rfl)
   refine obl_call rfl (wanted_none rfl) (by go_simp) (HBA.out W) ?_
   rintro e w8 ⟨lv', rfl, alt, hb8⟩
   exact ⟨_, rfl, ⟨lv', rfl, HDC.out lv' w8 (((Below.refl w1.heap.size w1).drew.trans hc.below).trans (hb8.mono ((Below.refl w1.heap.size w1).drew.trans hc.below).size)) alt⟩, hb8⟩
  | 3, _ =>
   intro a W hc hd
   have s0 : a.tmps[5]?.getD undef = (.agg V) := hd 0 (by kernel_rfl)
   have s2 : (bareS c).f (a.tmps[7]?.getD undef) W := hd 2 (by kernel_rfl)
   obtain ⟨lv', sb, hl'⟩ := s2
   refine obl_call rfl (wanted_none rfl) (by go_simp) (HSM.out W ((Below.refl w1.heap.size w1).drew.trans hc.below) lv' hl') ?_
   rintro e w8 ⟨rfl, hb8⟩
   exact ⟨_, rfl, rfl, hb8⟩
  | 4, _ =>
   intro a W hc hd
   have s3 : a.tmps[8]?.getD undef = (.bool Z) := hd 3 (by kernel_rfl)
   refine obl_val rfl (wanted_none rfl) ?_ rfl
   go_simp
  | n + 5, h => exact absurd h (by simp)
 have hfr := grow_frame hc [(5, (.agg V)), (6, (.agg V)), (7, a.tmps[7]?.getD undef), (8, (.bool Z)), (9, (.bool (!Z)))] (by kernel_rfl) (fun p hp => by
   simp only [List.mem_cons, List.not_mem_nil, or_false] at hp
   rcases hp with rfl | rfl | rfl | rfl | rfl
   ·exact hs 0 5 (by decide) (by kernel_rfl)
   ·exact hs 1 6 (by decide) (by kernel_rfl)
   ·rfl
   ·exact hs 3 8 (by decide) (by kernel_rfl)
   ·exact hs 4 9 (by decide) (by kernel_rfl)
   )
 generalize a.tmps[7]?.getD undef = z7 at hfr
 simp only [List.range, List.range.loop, List.size_toArray, List.length_cons, List.length_nil, List.map_cons, List.map_nil, List.lookup_cons, List.lookup_nil, Nat.reduceAdd, Nat.reduceBEq, Option.getD_some, Option.getD_none, List.getElem?_toArray, List.getElem?_cons_succ, List.getElem?_cons_zero] at hfr
 subst hfr
 have HB2 := Lib.hid ((Below.refl w1.heap.size w1).drew.trans hc.below)
 clear hc hs
 cases Z
 ·have hG := HG.out
  subst hG
  go_wp2
  go_ret
  exact ⟨rfl, HB1.out.trans (HB2.out.mono HB1.out.size)⟩
 obtain ⟨c0, c1, c2, c3, c4, c5, c6, c7, c8, c9, c10, c11, c12, c13, c14, c15, c16, c17, c18, c19, c20, c21⟩ := (HX.out w2 HB2.out).box
 have h1 := fun W => rin_any c.day 0 2932896 W
 have h2 := fun W => rin_any c.til c.day 2932896 W
 have hss := str_ref c.day c.til
 generalize inB c.day 0 2932896 = DD at h1 hss
 generalize inB c.til c.day 2932896 = UU at h2 hss
 generalize eS : strB c.day c.til = SS at hss
 have HSS := Lib.hid hss
 have HES := Lib.hid eS
 have H1 := Lib.hid h1
 have H2 := Lib.hid h2
 clear hss eS h1 h2
 go_upto_region 3 with fail
 go_cut [3] from 10 to 19 (fun x3 wx => x3 = .bool SS ∧ w2 = wx)
 case first =>
  have hss := HSS.out
  cases DD
  ·rw [Bool.false_and] at hss
   subst hss
   go_wp2_with (go_at_call 40; (with_reducible refine (H1.out _).mono ?_); rintro e wn ⟨rfl, rfl⟩)
   go_meet
   exact ⟨rfl, rfl⟩
  ·rw [Bool.true_and] at hss
   subst hss
   go_wp2_with (first | (go_at_call 40; (with_reducible refine (H1.out _).mono ?_); rintro e wn ⟨rfl, rfl⟩; clear H1) | (go_at_call 40; (with_reducible refine (H2.out _).mono ?_); rintro e wn ⟨rfl, rfl⟩))
   go_meet
   exact ⟨rfl, rfl⟩
 case rest =>
 obtain ⟨rfl, rfl⟩ := hcut
 have hpp := fun W => rpergood_any c.pk c.py c.px W
 generalize eP : perB c.pk c.py c.px = PP at hpp
 have HEP := Lib.hid eP
 have HPP := Lib.hid hpp
 clear eP hpp H1 H2 HSS
 go_upto_region 5 with (go_at_call 58; (with_reducible refine (HPP.out _).mono ?_); rintro e w4 ⟨rfl, hb4⟩; have HB4 := Lib.hid (HB2.out.trans (hb4.mono HB2.out.size)); clear hb4 c0 c1 c2 c3 c4 c5 c6 c7 c8 c9 c10 c11 c12 c13 c14 c15 c16 c17 c18 c19 c20 c21; obtain ⟨c0, c1, c2, c3, c4, c5, c6, c7, c8, c9, c10, c11, c12, c13, c14, c15, c16, c17, c18, c19, c20, c21⟩ := (HX.out w4 HB4.out).box)
 clear HPP HBA HSM HDC
 rw [hk] at c0
 have hG := HG.out
 rw [Bool.true_and, kindB, if_neg (by rw [hk]; decide), if_neg (by rw [hk]; decide), if_neg (by rw [hk]; decide), if_neg (by rw [hk]; decide), if_neg (by rw [hk]; decide), if_neg (by rw [hk]; decide), if_neg (by rw [hk]; decide), if_neg (by rw [hk]; decide), if_neg (by rw [hk]; decide), if_pos hk] at hG
 rw [HEP.out] at hG
 clear hk
 generalize e21 : (c.pk == 3) = L1 at hG
 have HG2 := Lib.hid hG
 clear hG
 cases PP
 ·skip
  have hG := HG2.out
  subst hG
  go_wp2
  go_ret
  first | exact ⟨rfl, HB1.out.trans (HB4.out.mono HB1.out.size)⟩
 have hG := HG2.out
 subst hG
 go_wp2
 go_ret
 first | exact ⟨rfl, HB1.out.trans (HB4.out.mono HB1.out.size)⟩
set_option maxRecDepth 100000 in
set_option maxHeartbeats 16000000 in
theorem rgood_k0 {w : World} {B : Nat} {v : Value} {c : Cm} (hv : CmV w B v c) (hB : B ≤ w.heap.size) (hl : c.doc.ls.length ≤ 100000) (h1 : ¬ c.kind = 1) (h2 : ¬ c.kind = 2) (h3 : ¬ c.kind = 3) (h4 : ¬ c.kind = 4) (h5 : ¬ c.kind = 5) (h6 : ¬ c.kind = 6) (h7 : ¬ c.kind = 7) (h8 : ¬ c.kind = 8) (h9 : ¬ c.kind = 9) (h10 : ¬ c.kind = 10) (h11 : ¬ c.kind = 11) :
  Calls Try.prog 27 #[v] w fun e w' => e = .returned (.bool (goodCB c)) ∧ Below w.heap.size w w' := by
 obtain ⟨A0, m0, V, rfl, HV, HV2, HVI, HB1, HX1, HLS, HOK⟩ := cmd_pre hv hB
 clear hv
 generalize hG : goodCB c = G
 unfold goodCB at hG
 have HG := Lib.hid hG
 clear hG
 go_enter Try.func27, Try.ntmps27
 go_upto_region 1 with fail
 generalize World.alloc w _ = w1 at *
 generalize hb : w.heap.size = b1 at HX1 ⊢
 have HBB := Lib.hid hb
 clear hb

 have HX := Lib.hid (fun W (hW : Below w1.heap.size w1 W) => HX1.out.below hW)
 have hba := fun W => bare_any c A0 c.doc.ls.length m0 W
 simp only [HV.out] at hba
 unfold BarePost at hba
 have hsm := rsm_pre HV HLS HB1 HOK hB hl
 generalize decide (c = bareC c) = Z at hsm HG
 have HBA := Lib.hid hba
 have HSM := Lib.hid hsm
 have HDC := Lib.hid (hdoc_pre (D := (bareC c).doc) HLS HB1 hB)
 clear hba hsm
 refine wp_region_sp (by kernel_rfl) [isS (.agg V), isS (.agg V), bareS c, isS (.bool Z), isS (.bool (!Z))] (by kernel_rfl) (by kernel_rfl) (fun q hq => ?_) (fun a w2 hc hs => ?_)
 ·match q, hq with
  | 0, _ =>
   intro a W hc hd
   have z1 := hc.same 1 (by kernel_rfl)
   simp only [List.getElem?_toArray, List.getElem?_cons_succ, List.getElem?_cons_zero, Option.getD_some] at z1
   refine obl_val rfl (wanted_none rfl) ?_ rfl
   rw [← HV.out]
   exact exec_load_cmd rfl (eval_tmp z1) (HX.out W ((Below.refl w1.heap.size w1).drew.trans hc.below))
  | 1, _ =>
   intro a W hc hd
   have z1 := hc.same 1 (by kernel_rfl)
   simp only [List.getElem?_toArray, List.getElem?_cons_succ, List.getElem?_cons_zero, Option.getD_some] at z1
   refine obl_val rfl (wanted_none rfl) ?_ rfl
   rw [← HV.out]
   exact exec_load_cmd rfl (eval_tmp z1) (HX.out W ((Below.refl w1.heap.size w1).drew.trans hc.below))
  | 2, _ =>
   intro a W hc hd
   have s1 : a.tmps[6]?.getD undef = (.agg V) := hd 1 (by kernel_rfl)
   refine obl_call rfl (wanted_none rfl) (by go_simp) (HBA.out W) ?_
   rintro e w8 ⟨lv', rfl, alt, hb8⟩
   exact ⟨_, rfl, ⟨lv', rfl, HDC.out lv' w8 (((Below.refl w1.heap.size w1).drew.trans hc.below).trans (hb8.mono ((Below.refl w1.heap.size w1).drew.trans hc.below).size)) alt⟩, hb8⟩
  | 3, _ =>
   intro a W hc hd
   have s0 : a.tmps[5]?.getD undef = (.agg V) := hd 0 (by kernel_rfl)
   have s2 : (bareS c).f (a.tmps[7]?.getD undef) W := hd 2 (by kernel_rfl)
   obtain ⟨lv', sb, hl'⟩ := s2
   refine obl_call rfl (wanted_none rfl) (by go_simp) (HSM.out W ((Below.refl w1.heap.size w1).drew.trans hc.below) lv' hl') ?_
   rintro e w8 ⟨rfl, hb8⟩
   exact ⟨_, rfl, rfl, hb8⟩
  | 4, _ =>
   intro a W hc hd
   have s3 : a.tmps[8]?.getD undef = (.bool Z) := hd 3 (by kernel_rfl)
   refine obl_val rfl (wanted_none rfl) ?_ rfl
   go_simp
  | n + 5, h => exact absurd h (by simp)
 have hfr := grow_frame hc [(5, (.agg V)), (6, (.agg V)), (7, a.tmps[7]?.getD undef), (8, (.bool Z)), (9, (.bool (!Z)))] (by kernel_rfl) (fun p hp => by
   simp only [List.mem_cons, List.not_mem_nil, or_false] at hp
   rcases hp with rfl | rfl | rfl | rfl | rfl
   ·exact hs 0 5 (by decide) (by kernel_rfl)
   ·exact hs 1 6 (by decide) (by kernel_rfl)
   ·rfl
   ·exact hs 3 8 (by decide) (by kernel_rfl)
   ·exact hs 4 9 (by decide) (by kernel_rfl)
   )
 generalize a.tmps[7]?.getD undef = z7 at hfr
 simp only [List.range, List.range.loop, List.size_toArray, List.length_cons, List.length_nil, List.map_cons, List.map_nil, List.lookup_cons, List.lookup_nil, Nat.reduceAdd, Nat.reduceBEq, Option.getD_some, Option.getD_none, List.getElem?_toArray, List.getElem?_cons_succ, List.getElem?_cons_zero] at hfr
 subst hfr
 have HB2 := Lib.hid ((Below.refl w1.heap.size w1).drew.trans hc.below)
 clear hc hs
 cases Z
 ·have hG := HG.out
  subst hG
  go_wp2
  go_ret
  exact ⟨rfl, HB1.out.trans (HB2.out.mono HB1.out.size)⟩
 obtain ⟨c0, c1, c2, c3, c4, c5, c6, c7, c8, c9, c10, c11, c12, c13, c14, c15, c16, c17, c18, c19, c20, c21⟩ := (HX.out w2 HB2.out).box
 have h1 := fun W => rin_any c.day 0 2932896 W
 have h2 := fun W => rin_any c.til c.day 2932896 W
 have hss := str_ref c.day c.til
 generalize inB c.day 0 2932896 = DD at h1 hss
 generalize inB c.til c.day 2932896 = UU at h2 hss
 generalize eS : strB c.day c.til = SS at hss
 have HSS := Lib.hid hss
 have HES := Lib.hid eS
 have H1 := Lib.hid h1
 have H2 := Lib.hid h2
 clear hss eS h1 h2
 go_upto_region 3 with fail
 go_cut [3] from 10 to 19 (fun x3 wx => x3 = .bool SS ∧ w2 = wx)
 case first =>
  have hss := HSS.out
  cases DD
  ·rw [Bool.false_and] at hss
   subst hss
   go_wp2_with (go_at_call 40; (with_reducible refine (H1.out _).mono ?_); rintro e wn ⟨rfl, rfl⟩)
   go_meet
   exact ⟨rfl, rfl⟩
  ·rw [Bool.true_and] at hss
   subst hss
   go_wp2_with (first | (go_at_call 40; (with_reducible refine (H1.out _).mono ?_); rintro e wn ⟨rfl, rfl⟩; clear H1) | (go_at_call 40; (with_reducible refine (H2.out _).mono ?_); rintro e wn ⟨rfl, rfl⟩))
   go_meet
   exact ⟨rfl, rfl⟩
 case rest =>
 obtain ⟨rfl, rfl⟩ := hcut
 have hpp := fun W => rpergood_any c.pk c.py c.px W
 generalize eP : perB c.pk c.py c.px = PP at hpp
 have HEP := Lib.hid eP
 have HPP := Lib.hid hpp
 clear eP hpp H1 H2 HSS
 go_upto_region 5 with (go_at_call 58; (with_reducible refine (HPP.out _).mono ?_); rintro e w4 ⟨rfl, hb4⟩; have HB4 := Lib.hid (HB2.out.trans (hb4.mono HB2.out.size)); clear hb4 c0 c1 c2 c3 c4 c5 c6 c7 c8 c9 c10 c11 c12 c13 c14 c15 c16 c17 c18 c19 c20 c21; obtain ⟨c0, c1, c2, c3, c4, c5, c6, c7, c8, c9, c10, c11, c12, c13, c14, c15, c16, c17, c18, c19, c20, c21⟩ := (HX.out w4 HB4.out).box)
 clear HPP HBA HSM HDC
 have hG := HG.out
 rw [Bool.true_and, kindB, if_neg h1, if_neg h2, if_neg h3, if_neg h4, if_neg h5, if_neg h6, if_neg h7, if_neg h8, if_neg (by rintro (h | h); exact h9 h; exact h10 h), if_neg h11] at hG
 have e1 : (c.kind == 1) = false := by rw [beq_eq_false_iff_ne]; exact h1
 have e2 : (c.kind == 2) = false := by rw [beq_eq_false_iff_ne]; exact h2
 have e3 : (c.kind == 3) = false := by rw [beq_eq_false_iff_ne]; exact h3
 have e4 : (c.kind == 4) = false := by rw [beq_eq_false_iff_ne]; exact h4
 have e5 : (c.kind == 5) = false := by rw [beq_eq_false_iff_ne]; exact h5
 have e6 : (c.kind == 6) = false := by rw [beq_eq_false_iff_ne]; exact h6
 have e7 : (c.kind == 7) = false := by rw [beq_eq_false_iff_ne]; exact h7
 have e8 : (c.kind == 8) = false := by rw [beq_eq_false_iff_ne]; exact h8
 have e9 : (c.kind == 9) = false := by rw [beq_eq_false_iff_ne]; exact h9
 have e10 : (c.kind == 10) = false := by rw [beq_eq_false_iff_ne]; exact h10
 have e11 : (c.kind == 11) = false := by rw [beq_eq_false_iff_ne]; exact h11
 clear h1 h2 h3 h4 h5 h6 h7 h8 h9 h10 h11
 have HG2 := Lib.hid hG
 clear hG
 have hG := HG2.out
 subst hG
 go_wp2
 go_ret
 first | exact ⟨rfl, HB1.out.trans (HB4.out.mono HB1.out.size)⟩
theorem rgood_any {w : World} {B : Nat} {v : Value} {c : Cm} (hv : CmV w B v c) (hB : B ≤ w.heap.size) (hl : c.doc.ls.length ≤ 100000) :
  Calls Try.prog 27 #[v] w fun e w' => e = .returned (.bool (goodCB c)) ∧ Below w.heap.size w w' := by
 by_cases h1 : c.kind = 1
 ·exact rgood_k1 hv hB hl h1
 by_cases h2 : c.kind = 2
 ·exact rgood_k2 hv hB hl h2
 by_cases h3 : c.kind = 3
 ·exact rgood_k3 hv hB hl h3
 by_cases h4 : c.kind = 4
 ·exact rgood_k4 hv hB hl h4
 by_cases h5 : c.kind = 5
 ·exact rgood_k5 hv hB hl h5
 by_cases h6 : c.kind = 6
 ·exact rgood_k6 hv hB hl h6
 by_cases h7 : c.kind = 7
 ·exact rgood_k7 hv hB hl h7
 by_cases h8 : c.kind = 8
 ·exact rgood_k8 hv hB hl h8
 by_cases h9 : c.kind = 9
 ·exact rgood_k9 hv hB hl h9
 by_cases h10 : c.kind = 10
 ·exact rgood_k10 hv hB hl h10
 by_cases h11 : c.kind = 11
 ·exact rgood_k11 hv hB hl h11
 exact rgood_k0 hv hB hl h1 h2 h3 h4 h5 h6 h7 h8 h9 h10 h11
end Go.Proofs.Ytnfpmobmfcgfnaa

