/- THE LAW RecordGood, WALKED (printed by gen/genlgd.py). -/
import Derived.Test.YtnfpmobmfcgfnaaRgC
import Derived.Test.YtnfpmobmfcgfnaaPm
import Derived.Test.YtnfpmobmfcgfnaaPl
import Derived.Test.YtnfpmobmfcgfnaaReJ
namespace Go.Proofs.Ytnfpmobmfcgfnaa
open Go.RowKit
structure LG (W : World) (b1 b2 : Nat) (c : Cm) (lv : Value) (l : Ln) : Prop where
 bx : CBlk W b1 c lv
 ln : Lns W W.heap.size lv c.doc.ls
 lx : W.heap[b2]? = some (.cells l.vs 55 (0, 0))
theorem LG.below {W W' : World} {b1 b2 : Nat} {c : Cm} {lv : Value} {l : Ln} (h : LG W b1 b2 c lv l) (k : Below W.heap.size W W') : LG W' b1 b2 c lv l :=
 ⟨(k.block b1 (lt_of_blk h.bx)).trans h.bx, (h.ln.below k).more k.size, (k.block b2 (lt_of_blk h.lx)).trans h.lx⟩
set_option maxRecDepth 100000 in
set_option maxHeartbeats 16000000 in
theorem good_law {w : World} (v : Value) (c : Cm) (hv : CmV w w.heap.size v c) (u : Value) (l : Ln) (hl : l.ok ∧ u = .agg l.vs) (sale : Bool) : Calls Try.prog 6 #[v, u, .bool sale] w (LawPost8 w) := by
 obtain ⟨lv, rfl, hls, hok⟩ := hv
 obtain ⟨A0, m0, rfl, _, _⟩ := hls.form
 obtain ⟨hlok, rfl⟩ := hl
 have hb1 := (Below.refl w.heap.size w).alloc (Nat.le_refl _) (.cells (c.vs (.slice A0 c.doc.ls.length m0)) 53)
 have hb2 := hb1.alloc hb1.size (.cells l.vs 55)
 have hx1 := CBlk.made w c (.slice A0 c.doc.ls.length m0)
 have hx2 := heap_alloc_new (w.alloc (.cells (c.vs (.slice A0 c.doc.ls.length m0)) 53)) (.cells l.vs 55 (0, 0))
 have hx1' : CBlk ((w.alloc (.cells (c.vs (.slice A0 c.doc.ls.length m0)) 53)).alloc (.cells l.vs 55)) w.heap.size c (.slice A0 c.doc.ls.length m0) :=
  ((((Below.refl _ (w.alloc (.cells (c.vs (.slice A0 c.doc.ls.length m0)) 53))).alloc (Nat.le_refl _) (.cells l.vs 55)).block _ (lt_of_blk hx1)).trans hx1)
 rw [World.size_alloc] at hx2
 have HX := Lib.hid (show LG ((w.alloc (.cells (c.vs (.slice A0 c.doc.ls.length m0)) 53)).alloc (.cells l.vs 55)) w.heap.size (w.heap.size + 1) c (.slice A0 c.doc.ls.length m0) l from ⟨hx1', (hls.below hb2).more hb2.size, hx2⟩)
 have HB := Lib.hid hb2
 have HOK := Lib.hid hok
 have HLK := Lib.hid hlok
 generalize hV : c.vs (.slice A0 c.doc.ls.length m0) = V at *
 have HV := Lib.hid hV
 have HV2 := Lib.hid (show V.size = 22 by rw [← hV]; rfl)
 have HVI := Lib.hid (show (Try.prog.info? 53).map (·.size) = some V.size by rw [HV2.out, cm_info])
 obtain ⟨S1, hS1⟩ : ∃ S, IntKind.i64.wrap ((l.fr.size : Int) + (l.tw.size : Int)) = S := ⟨_, rfl⟩
 obtain ⟨S2, hS2⟩ : ∃ S, IntKind.i64.wrap (S1 + (l.pl.size : Int)) = S := ⟨_, rfl⟩
 clear hls hok hlok hb1 hb2 hx1 hx2 hx1' hV
 generalize hU : l.vs = U at *
 have HU := Lib.hid hU
 clear hU
 go_enter Try.func6, Try.ntmps6
 go_upto_region 1 with fail
 generalize World.alloc (World.alloc w _) _ = w1 at *
 generalize hbb : w.heap.size = b1 at HX ⊢
 have HBB := Lib.hid hbb
 clear hbb
 have HXV := Lib.hid (loadV HX.out.bx HV.out)
 have hlg := light8_any (w := w1) (v := .agg V) (o := c) ⟨.slice A0 c.doc.ls.length m0, by rw [HV.out], HX.out.ln, HOK.out⟩ (Nat.le_refl _)
 unfold LightPost at hlg
 have HLG := Lib.hid hlg
 have HY := Lib.hid (fun W (hW : Below w1.heap.size w1 W) => show W.cell? ⟨b1 + 1, 2, none⟩ = some (.string l.fr) ∧ W.cell? ⟨b1 + 1, 3, none⟩ = some (.string l.tw) ∧ W.cell? ⟨b1 + 1, 4, none⟩ = some (.string l.pl) from by
  have h := (HX.out.below hW).lx
  exact ⟨cells_of h 2 _ rfl, cells_of h 3 _ rfl, cells_of h 4 _ rfl⟩)
 clear hlg
 by_cases hS : 300 < S2
 ·have e1 : decide ((300 : Int) < S2) = true := decide_eq_true hS
  go_wp2_with (first
   | (with_reducible refine wpList_load_row rfl 53 (.tmp 3) rfl b1 rfl 53 V (0, 0) _ HXV.out Try.underlying53 rfl HVI.out ?_)
   | (go_at_call 24; (with_reducible refine HLG.out.mono ?_); rintro e w3 ⟨b, rfl, hb, hb3⟩; have HB3 := Lib.hid hb3; obtain ⟨y2, y3, y4⟩ := HY.out w3 hb3; clear hb hb3 HLG; cases b)
   | (go_at_call 25; (with_reducible refine (lives8_any _).mono ?_); rintro e w4 ⟨rfl, hb4⟩))
  all_goals
   go_ret
   exact ⟨rfl, (HB.out.trans (HB3.out.mono HB.out.size)).trans (hb4.mono (Nat.le_trans HB.out.size HB3.out.size))⟩
 have e1 : decide ((300 : Int) < S2) = false := decide_eq_false hS
 go_wp2_with (first
  | (with_reducible refine wpList_load_row rfl 53 (.tmp 3) rfl b1 rfl 53 V (0, 0) _ HXV.out Try.underlying53 rfl HVI.out ?_)
  | (go_at_call 24; (with_reducible refine HLG.out.mono ?_); rintro e w3 ⟨b, rfl, hb, hb3⟩; have HLI := Lib.hid hb; have HB3 := Lib.hid hb3; obtain ⟨y2, y3, y4⟩ := HY.out w3 hb3; clear hb hb3 HLG; cases b)
  | (go_at_call 25; (with_reducible refine (lives8_any _).mono ?_); rintro e w4 ⟨rfl, hb4⟩))
 ·go_ret
  exact ⟨rfl, (HB.out.trans (HB3.out.mono HB.out.size)).trans (hb4.mono (Nat.le_trans HB.out.size HB3.out.size))⟩
 have HMA := Lib.hid (show c.doc.ls.length ≤ 100000 from Nat.le_trans (HLI.out (by simp)).2.2 (by decide))
 have HB4 := Lib.hid (HB.out.trans (HB3.out.mono HB.out.size))
 have HX3 := Lib.hid (HX.out.below HB3.out)
 clear y2 y3 y4 HY HXV HB HX HLI HB3 e1 hS hS1 hS2
 have HX := Lib.hid (fun W (hW : Below w3.heap.size w3 W) => HX3.out.below hW)
 generalize hD : c.doc.vs (.slice A0 c.doc.ls.length m0) = D
 have HD := Lib.hid hD
 have hg1 := fun W (hW : Below w3.heap.size w3 W) => good_any (w := W) (v := .agg V) (c := c) ⟨.slice A0 c.doc.ls.length m0, by rw [HV.out], (HX.out W hW).ln, HOK.out⟩ (Nat.le_refl _) HMA.out
 have hg2 := fun W (hW : Below w3.heap.size w3 W) => rgood_any (w := W) (v := .agg V) (c := c) ⟨.slice A0 c.doc.ls.length m0, by rw [HV.out], (HX.out W hW).ln, HOK.out⟩ (Nat.le_refl _) HMA.out
 have hg3 := fun W (hW : Below w3.heap.size w3 W) => gooddoc_any (w := W) (v := .agg D) (o := c.doc) ⟨.slice A0 c.doc.ls.length m0, by rw [HD.out], (HX.out W hW).ln, HOK.out.doc⟩ (Nat.le_refl _) (by have := HOK.out.doc.cty; unfold maxLen at this; omega) (by have := HOK.out.doc.num; unfold maxLen at this; omega) HMA.out
 have hg4 := fun W (hW : Below w3.heap.size w3 W) => rgooddoc_any (w := W) (v := .agg D) (o := c.doc) ⟨.slice A0 c.doc.ls.length m0, by rw [HD.out], (HX.out W hW).ln, HOK.out.doc⟩ (Nat.le_refl _) (by have := HOK.out.doc.num; unfold maxLen at this; omega) HMA.out
 have hg5 := fun W => goodline_any l sale W
 have hg6 := fun W => rgoodline_any l sale W
 rw [HU.out] at hg5 hg6
 generalize goodCB c = G1 at hg1 hg2
 generalize goodDocB c.doc = G2 at hg3 hg4
 generalize goodLineB l sale = G3 at hg5 hg6
 have HG1 := Lib.hid hg1
 have HG2 := Lib.hid hg2
 have HG3 := Lib.hid hg3
 have HG4 := Lib.hid hg4
 have HG5 := Lib.hid hg5
 have HG6 := Lib.hid hg6
 clear hD hg1 hg2 hg3 hg4 hg5 hg6
 refine wp_region_sp (by kernel_rfl) [isS (.agg V), isS (.bool G1), isS (.agg V), isS (.bool G1), isS (.bool true), isS (.bool true), isS (.pointer (some ⟨b1, 13, none⟩)), isS (.agg D), isS (.bool G2), isS (.pointer (some ⟨b1, 13, none⟩)), isS (.agg D), isS (.bool G2), isS (.bool true), isS (.bool true), isS (.bool true), isS (.agg U), isS (.bool sale), isS (.bool G3), isS (.agg U), isS (.bool sale), isS (.bool G3), isS (.bool true), isS (.bool true), isS (.bool true), isS (.bool true), isS (.bool true), isS (.bool true)] (by kernel_rfl) (by kernel_rfl) (fun q hq => ?_) (fun a' w9 hc hs => ?_)
 ·match q, hq with
  | 0, _ =>
   intro a W hc hd
   have z3 := hc.same 3 (by kernel_rfl)
   simp only [List.getElem?_toArray, List.getElem?_cons_succ, List.getElem?_cons_zero, Option.getD_some] at z3
   refine obl_val rfl (wanted_none rfl) ?_ rfl
   rw [← HV.out]
   exact exec_load_cmd rfl (eval_tmp z3) (HX.out W ((Below.refl w3.heap.size w3).drew.trans hc.below)).bx
  | 1, _ =>
   intro a W hc hd
   have s0 : a.tmps[25]?.getD undef = (.agg V) := hd 0 (by kernel_rfl)
   refine obl_call rfl (wanted_none rfl) (by go_simp) (HG1.out W ((Below.refl w3.heap.size w3).drew.trans hc.below)) ?_
   rintro e w8 ⟨rfl, hb8⟩
   exact ⟨_, rfl, rfl, hb8⟩
  | 2, _ =>
   intro a W hc hd
   have z3 := hc.same 3 (by kernel_rfl)
   simp only [List.getElem?_toArray, List.getElem?_cons_succ, List.getElem?_cons_zero, Option.getD_some] at z3
   refine obl_val rfl (wanted_none rfl) ?_ rfl
   rw [← HV.out]
   exact exec_load_cmd rfl (eval_tmp z3) (HX.out W ((Below.refl w3.heap.size w3).drew.trans hc.below)).bx
  | 3, _ =>
   intro a W hc hd
   have s2 : a.tmps[27]?.getD undef = (.agg V) := hd 2 (by kernel_rfl)
   refine obl_call rfl (wanted_none rfl) (by go_simp) (HG2.out W ((Below.refl w3.heap.size w3).drew.trans hc.below)) ?_
   rintro e w8 ⟨rfl, hb8⟩
   exact ⟨_, rfl, rfl, hb8⟩
  | 4, _ =>
   intro a W hc hd
   have s1 : a.tmps[26]?.getD undef = (.bool G1) := hd 1 (by kernel_rfl)
   have s3 : a.tmps[28]?.getD undef = (.bool G1) := hd 3 (by kernel_rfl)
   refine obl_val rfl (wanted_none rfl) ?_ rfl
   go_simp
  | 5, _ =>
   intro a W hc hd
   have s4 : a.tmps[29]?.getD undef = (.bool true) := hd 4 (by kernel_rfl)
   refine obl_val rfl (wanted_none rfl) ?_ rfl
   go_simp
  | 6, _ =>
   intro a W hc hd
   have z3 := hc.same 3 (by kernel_rfl)
   have s5 : a.tmps[30]?.getD undef = (.bool true) := hd 5 (by kernel_rfl)
   simp only [List.getElem?_toArray, List.getElem?_cons_succ, List.getElem?_cons_zero, Option.getD_some] at z3
   refine obl_val rfl (wanted_some rfl rfl s5) ?_ rfl
   go_simp
  | 7, _ =>
   intro a W hc hd
   have s6 : a.tmps[31]?.getD undef = (.pointer (some ⟨b1, 13, none⟩)) := hd 6 (by kernel_rfl)
   have s5 : a.tmps[30]?.getD undef = (.bool true) := hd 5 (by kernel_rfl)
   refine obl_val rfl (wanted_some rfl rfl s5) ?_ rfl
   rw [← HD.out]
   exact exec_load_doc13 rfl (eval_tmp s6) (HX.out W ((Below.refl w3.heap.size w3).drew.trans hc.below)).bx
  | 8, _ =>
   intro a W hc hd
   have s7 : a.tmps[32]?.getD undef = (.agg D) := hd 7 (by kernel_rfl)
   have s5 : a.tmps[30]?.getD undef = (.bool true) := hd 5 (by kernel_rfl)
   refine obl_call rfl (wanted_some rfl rfl s5) (by go_simp) (HG3.out W ((Below.refl w3.heap.size w3).drew.trans hc.below)) ?_
   rintro e w8 ⟨rfl, hb8⟩
   exact ⟨_, rfl, rfl, hb8⟩
  | 9, _ =>
   intro a W hc hd
   have z3 := hc.same 3 (by kernel_rfl)
   have s5 : a.tmps[30]?.getD undef = (.bool true) := hd 5 (by kernel_rfl)
   simp only [List.getElem?_toArray, List.getElem?_cons_succ, List.getElem?_cons_zero, Option.getD_some] at z3
   refine obl_val rfl (wanted_some rfl rfl s5) ?_ rfl
   go_simp
  | 10, _ =>
   intro a W hc hd
   have s9 : a.tmps[34]?.getD undef = (.pointer (some ⟨b1, 13, none⟩)) := hd 9 (by kernel_rfl)
   have s5 : a.tmps[30]?.getD undef = (.bool true) := hd 5 (by kernel_rfl)
   refine obl_val rfl (wanted_some rfl rfl s5) ?_ rfl
   rw [← HD.out]
   exact exec_load_doc13 rfl (eval_tmp s9) (HX.out W ((Below.refl w3.heap.size w3).drew.trans hc.below)).bx
  | 11, _ =>
   intro a W hc hd
   have s10 : a.tmps[35]?.getD undef = (.agg D) := hd 10 (by kernel_rfl)
   have s5 : a.tmps[30]?.getD undef = (.bool true) := hd 5 (by kernel_rfl)
   refine obl_call rfl (wanted_some rfl rfl s5) (by go_simp) (HG4.out W ((Below.refl w3.heap.size w3).drew.trans hc.below)) ?_
   rintro e w8 ⟨rfl, hb8⟩
   exact ⟨_, rfl, rfl, hb8⟩
  | 12, _ =>
   intro a W hc hd
   have s8 : a.tmps[33]?.getD undef = (.bool G2) := hd 8 (by kernel_rfl)
   have s11 : a.tmps[36]?.getD undef = (.bool G2) := hd 11 (by kernel_rfl)
   have s5 : a.tmps[30]?.getD undef = (.bool true) := hd 5 (by kernel_rfl)
   refine obl_val rfl (wanted_some rfl rfl s5) ?_ rfl
   go_simp
  | 13, _ =>
   intro a W hc hd
   have s5 : a.tmps[30]?.getD undef = (.bool true) := hd 5 (by kernel_rfl)
   have s12 : a.tmps[37]?.getD undef = (.bool true) := hd 12 (by kernel_rfl)
   refine obl_val rfl (wanted_none rfl) ?_ rfl
   go_simp
  | 14, _ =>
   intro a W hc hd
   have s13 : a.tmps[38]?.getD undef = (.bool true) := hd 13 (by kernel_rfl)
   refine obl_val rfl (wanted_none rfl) ?_ rfl
   go_simp
  | 15, _ =>
   intro a W hc hd
   have z4 := hc.same 4 (by kernel_rfl)
   have s14 : a.tmps[39]?.getD undef = (.bool true) := hd 14 (by kernel_rfl)
   simp only [List.getElem?_toArray, List.getElem?_cons_succ, List.getElem?_cons_zero, Option.getD_some] at z4
   refine obl_val rfl (wanted_some rfl rfl s14) ?_ rfl
   rw [← HU.out]
   exact exec_load_line rfl (eval_tmp z4) (HX.out W ((Below.refl w3.heap.size w3).drew.trans hc.below)).lx
  | 16, _ =>
   intro a W hc hd
   have z2 := hc.same 2 (by kernel_rfl)
   have s14 : a.tmps[39]?.getD undef = (.bool true) := hd 14 (by kernel_rfl)
   simp only [List.getElem?_toArray, List.getElem?_cons_succ, List.getElem?_cons_zero, Option.getD_some] at z2
   refine obl_val rfl (wanted_some rfl rfl s14) ?_ rfl
   go_simp
  | 17, _ =>
   intro a W hc hd
   have s15 : a.tmps[40]?.getD undef = (.agg U) := hd 15 (by kernel_rfl)
   have s16 : a.tmps[41]?.getD undef = (.bool sale) := hd 16 (by kernel_rfl)
   have s14 : a.tmps[39]?.getD undef = (.bool true) := hd 14 (by kernel_rfl)
   refine obl_call rfl (wanted_some rfl rfl s14) (by go_simp) (HG5.out W) ?_
   rintro e w8 ⟨rfl, hb8⟩
   exact ⟨_, rfl, rfl, hb8⟩
  | 18, _ =>
   intro a W hc hd
   have z4 := hc.same 4 (by kernel_rfl)
   have s14 : a.tmps[39]?.getD undef = (.bool true) := hd 14 (by kernel_rfl)
   simp only [List.getElem?_toArray, List.getElem?_cons_succ, List.getElem?_cons_zero, Option.getD_some] at z4
   refine obl_val rfl (wanted_some rfl rfl s14) ?_ rfl
   rw [← HU.out]
   exact exec_load_line rfl (eval_tmp z4) (HX.out W ((Below.refl w3.heap.size w3).drew.trans hc.below)).lx
  | 19, _ =>
   intro a W hc hd
   have z2 := hc.same 2 (by kernel_rfl)
   have s14 : a.tmps[39]?.getD undef = (.bool true) := hd 14 (by kernel_rfl)
   simp only [List.getElem?_toArray, List.getElem?_cons_succ, List.getElem?_cons_zero, Option.getD_some] at z2
   refine obl_val rfl (wanted_some rfl rfl s14) ?_ rfl
   go_simp
  | 20, _ =>
   intro a W hc hd
   have s18 : a.tmps[43]?.getD undef = (.agg U) := hd 18 (by kernel_rfl)
   have s19 : a.tmps[44]?.getD undef = (.bool sale) := hd 19 (by kernel_rfl)
   have s14 : a.tmps[39]?.getD undef = (.bool true) := hd 14 (by kernel_rfl)
   refine obl_call rfl (wanted_some rfl rfl s14) (by go_simp) (HG6.out W) ?_
   rintro e w8 ⟨rfl, hb8⟩
   exact ⟨_, rfl, rfl, hb8⟩
  | 21, _ =>
   intro a W hc hd
   have s17 : a.tmps[42]?.getD undef = (.bool G3) := hd 17 (by kernel_rfl)
   have s20 : a.tmps[45]?.getD undef = (.bool G3) := hd 20 (by kernel_rfl)
   have s14 : a.tmps[39]?.getD undef = (.bool true) := hd 14 (by kernel_rfl)
   refine obl_val rfl (wanted_some rfl rfl s14) ?_ rfl
   go_simp
  | 22, _ =>
   intro a W hc hd
   have s14 : a.tmps[39]?.getD undef = (.bool true) := hd 14 (by kernel_rfl)
   have s21 : a.tmps[46]?.getD undef = (.bool true) := hd 21 (by kernel_rfl)
   refine obl_val rfl (wanted_none rfl) ?_ rfl
   go_simp
  | 23, _ =>
   intro a W hc hd
   have s22 : a.tmps[47]?.getD undef = (.bool true) := hd 22 (by kernel_rfl)
   refine obl_val rfl (wanted_none rfl) ?_ rfl
   go_simp
  | 24, _ =>
   intro a W hc hd
   have s23 : a.tmps[48]?.getD undef = (.bool true) := hd 23 (by kernel_rfl)
   refine obl_call rfl (wanted_some rfl rfl s23) (by go_simp) (lives8_any W) ?_
   rintro e w8 ⟨rfl, hb8⟩
   exact ⟨_, rfl, rfl, hb8⟩
  | 25, _ =>
   intro a W hc hd
   have s23 : a.tmps[48]?.getD undef = (.bool true) := hd 23 (by kernel_rfl)
   have s24 : a.tmps[49]?.getD undef = (.bool true) := hd 24 (by kernel_rfl)
   refine obl_val rfl (wanted_none rfl) ?_ rfl
   go_simp
  | 26, _ =>
   intro a W hc hd
   have s25 : a.tmps[50]?.getD undef = (.bool true) := hd 25 (by kernel_rfl)
   refine obl_val rfl (wanted_none rfl) ?_ rfl
   go_simp
  | n + 27, h => exact absurd h (by simp)
 ·skip
  have hfr := grow_frame hc [(25, (.agg V)), (26, (.bool G1)), (27, (.agg V)), (28, (.bool G1)), (29, (.bool true)), (30, (.bool true)), (31, (.pointer (some ⟨b1, 13, none⟩))), (32, (.agg D)), (33, (.bool G2)), (34, (.pointer (some ⟨b1, 13, none⟩))), (35, (.agg D)), (36, (.bool G2)), (37, (.bool true)), (38, (.bool true)), (39, (.bool true)), (40, (.agg U)), (41, (.bool sale)), (42, (.bool G3)), (43, (.agg U)), (44, (.bool sale)), (45, (.bool G3)), (46, (.bool true)), (47, (.bool true)), (48, (.bool true)), (49, (.bool true)), (50, (.bool true)), (6, (.bool true))] (by kernel_rfl) (fun p hp => by
    simp only [List.mem_cons, List.not_mem_nil, or_false] at hp
    rcases hp with rfl | rfl | rfl | rfl | rfl | rfl | rfl | rfl | rfl | rfl | rfl | rfl | rfl | rfl | rfl | rfl | rfl | rfl | rfl | rfl | rfl | rfl | rfl | rfl | rfl | rfl | rfl
    ·exact hs 0 25 (by decide) (by kernel_rfl)
    ·exact hs 1 26 (by decide) (by kernel_rfl)
    ·exact hs 2 27 (by decide) (by kernel_rfl)
    ·exact hs 3 28 (by decide) (by kernel_rfl)
    ·exact hs 4 29 (by decide) (by kernel_rfl)
    ·exact hs 5 30 (by decide) (by kernel_rfl)
    ·exact hs 6 31 (by decide) (by kernel_rfl)
    ·exact hs 7 32 (by decide) (by kernel_rfl)
    ·exact hs 8 33 (by decide) (by kernel_rfl)
    ·exact hs 9 34 (by decide) (by kernel_rfl)
    ·exact hs 10 35 (by decide) (by kernel_rfl)
    ·exact hs 11 36 (by decide) (by kernel_rfl)
    ·exact hs 12 37 (by decide) (by kernel_rfl)
    ·exact hs 13 38 (by decide) (by kernel_rfl)
    ·exact hs 14 39 (by decide) (by kernel_rfl)
    ·exact hs 15 40 (by decide) (by kernel_rfl)
    ·exact hs 16 41 (by decide) (by kernel_rfl)
    ·exact hs 17 42 (by decide) (by kernel_rfl)
    ·exact hs 18 43 (by decide) (by kernel_rfl)
    ·exact hs 19 44 (by decide) (by kernel_rfl)
    ·exact hs 20 45 (by decide) (by kernel_rfl)
    ·exact hs 21 46 (by decide) (by kernel_rfl)
    ·exact hs 22 47 (by decide) (by kernel_rfl)
    ·exact hs 23 48 (by decide) (by kernel_rfl)
    ·exact hs 24 49 (by decide) (by kernel_rfl)
    ·exact hs 25 50 (by decide) (by kernel_rfl)
    ·exact hs 26 6 (by decide) (by kernel_rfl)
    )
  simp only [List.range, List.range.loop, List.size_toArray, List.length_cons, List.length_nil, List.map_cons, List.map_nil, List.lookup_cons, List.lookup_nil, Nat.reduceAdd, Nat.reduceBEq, Option.getD_some, Option.getD_none, List.getElem?_toArray, List.getElem?_cons_succ, List.getElem?_cons_zero] at hfr
  subst hfr
  have hb3 := HB4.out.trans (((Below.refl w3.heap.size w3).drew.trans hc.below).mono HB4.out.size)
  clear hc hs
  go_wp2
  go_ret
  exact ⟨rfl, hb3⟩
end Go.Proofs.Ytnfpmobmfcgfnaa

