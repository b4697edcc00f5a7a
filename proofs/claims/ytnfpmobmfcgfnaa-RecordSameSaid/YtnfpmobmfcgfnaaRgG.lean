/- THE LAW RecordSame, WALKED (printed by gen/genlgd.py). -/
import Derived.Test.YtnfpmobmfcgfnaaRgC
import Derived.Test.YtnfpmobmfcgfnaaPm
import Derived.Test.YtnfpmobmfcgfnaaPl
import Derived.Test.YtnfpmobmfcgfnaaPn
namespace Go.Proofs.Ytnfpmobmfcgfnaa
open Go.RowKit
structure LS2 (W : World) (b1 b2 : Nat) (c d : Cm) (lv lu : Value) : Prop where
 bx : CBlk W b1 c lv
 ln : Lns W W.heap.size lv c.doc.ls
 by_ : CBlk W b2 d lu
 lm : Lns W W.heap.size lu d.doc.ls
theorem LS2.below {W W' : World} {b1 b2 : Nat} {c d : Cm} {lv lu : Value} (h : LS2 W b1 b2 c d lv lu) (k : Below W.heap.size W W') : LS2 W' b1 b2 c d lv lu :=
 ⟨(k.block b1 (lt_of_blk h.bx)).trans h.bx, (h.ln.below k).more k.size, (k.block b2 (lt_of_blk h.by_)).trans h.by_, (h.lm.below k).more k.size⟩
set_option maxRecDepth 100000 in
set_option maxHeartbeats 16000000 in
theorem same_law {w : World} (v : Value) (c : Cm) (hv : CmV w w.heap.size v c) (u : Value) (d : Cm) (hu : CmV w w.heap.size u d) : Calls Try.prog 9 #[v, u] w (LawPost8 w) := by
 obtain ⟨lv, rfl, hls, hok⟩ := hv
 obtain ⟨lu, rfl, hlt, hoku⟩ := hu
 have hb1 := (Below.refl w.heap.size w).alloc (Nat.le_refl _) (.cells (c.vs lv) 53)
 have hb2 := hb1.alloc hb1.size (.cells (d.vs lu) 53)
 have hx1 := CBlk.made w c lv
 have hx2 := CBlk.made (w.alloc (.cells (c.vs lv) 53)) d lu
 have hx1' : CBlk ((w.alloc (.cells (c.vs lv) 53)).alloc (.cells (d.vs lu) 53)) w.heap.size c lv :=
  ((((Below.refl _ (w.alloc (.cells (c.vs lv) 53))).alloc (Nat.le_refl _) (.cells (d.vs lu) 53)).block _ (lt_of_blk hx1)).trans hx1)
 rw [World.size_alloc] at hx2
 have HX := Lib.hid (show LS2 ((w.alloc (.cells (c.vs lv) 53)).alloc (.cells (d.vs lu) 53)) w.heap.size (w.heap.size + 1) c d lv lu from ⟨hx1', (hls.below hb2).more hb2.size, hx2, (hlt.below hb2).more hb2.size⟩)
 have HB := Lib.hid hb2
 have HOK := Lib.hid hok
 have HOU := Lib.hid hoku
 generalize hV : c.vs lv = V at *
 have HV := Lib.hid hV
 generalize hU : d.vs lu = U at *
 have HU := Lib.hid hU
 have HV2 := Lib.hid (show V.size = 22 by rw [← hV]; rfl)
 have HVI := Lib.hid (show (Try.prog.info? 53).map (·.size) = some V.size by rw [HV2.out, cm_info])
 have HU2 := Lib.hid (show U.size = 22 by rw [← hU]; rfl)
 have HUI := Lib.hid (show (Try.prog.info? 53).map (·.size) = some U.size by rw [HU2.out, cm_info])
 clear hls hok hlt hoku hb1 hb2 hx1 hx2 hx1' hV hU
 go_enter Try.func9, Try.ntmps9
 go_upto_region 1 with fail
 generalize World.alloc (World.alloc w _) _ = w1 at *
 generalize hbb : w.heap.size = b1 at HX ⊢
 have HBB := Lib.hid hbb
 clear hbb
 have HXV := Lib.hid (loadV HX.out.bx HV.out)
 have hlg := light8_any (w := w1) (v := .agg V) (o := c) ⟨lv, by rw [HV.out], HX.out.ln, HOK.out⟩ (Nat.le_refl _)
 unfold LightPost at hlg
 have HLG := Lib.hid hlg
 have hlu := fun W (hW : Below w1.heap.size w1 W) => light8_any (w := W) (v := .agg U) (o := d) ⟨lu, by rw [HU.out], (HX.out.below hW).lm, HOU.out⟩ (Nat.le_refl _)
 unfold LightPost at hlu
 have HLU := Lib.hid hlu
 have HXU := Lib.hid (fun W (hW : Below w1.heap.size w1 W) => loadV (HX.out.below hW).by_ HU.out)
 clear hlg hlu
 go_wp2_with (first
  | (with_reducible refine wpList_load_row rfl 53 (.tmp 2) rfl b1 rfl 53 V (0, 0) _ HXV.out Try.underlying53 rfl HVI.out ?_)
  | (go_at_call 24; (with_reducible refine HLG.out.mono ?_); rintro e w3 ⟨b, rfl, hb, hb3⟩; have HLI := Lib.hid hb; have HB3 := Lib.hid hb3; have hld := HXU.out w3 hb3; have hlx := HLU.out w3 hb3; clear hb hb3 HLG; cases b)
  | ((with_reducible show wpList _ _ _ (⟨some 9, _, _, _, _, _⟩ :: _) _ _); refine wpList_load_want rfl 53 (.tmp 3) rfl (b1 + 1) rfl 53 U (0, 0) _ hld Try.underlying53 rfl HUI.out ?_)
  | (go_at_call 24; (with_reducible refine hlx.mono ?_); rintro e w5 ⟨b5, rfl, hb, hb5⟩; have HLJ := Lib.hid hb; have HB5 := Lib.hid (HB3.out.trans (hb5.mono HB3.out.size)); clear hb hb5 hlx; cases b5)
  | (go_at_call 25; (with_reducible refine (lives8_any _).mono ?_); rintro e w4 ⟨rfl, hb4⟩))
 ·go_ret
  exact ⟨rfl, (HB.out.trans (HB3.out.mono HB.out.size)).trans (hb4.mono (Nat.le_trans HB.out.size HB3.out.size))⟩
 ·go_ret
  exact ⟨rfl, (HB.out.trans (HB5.out.mono HB.out.size)).trans (hb4.mono (Nat.le_trans HB.out.size HB5.out.size))⟩
 have HMA := Lib.hid (show c.doc.ls.length ≤ 100000 from Nat.le_trans (HLI.out (by simp)).2.2 (by decide))
 have HB6 := Lib.hid (HB.out.trans (HB5.out.mono HB.out.size))
 have HX3 := Lib.hid (HX.out.below HB5.out)
 clear HXV HXU HLU HB HX HLI HLJ HB5 HB3 hld
 have HX := Lib.hid (fun W (hW : Below w5.heap.size w5 W) => HX3.out.below hW)
 generalize hD : c.doc.vs lv = D
 have HD := Lib.hid hD
 generalize hE : d.doc.vs lu = E
 have HE := Lib.hid hE
 have hg1 := fun W (hW : Below w5.heap.size w5 W) => csame_any (w := W) (va := .agg V) (vb := .agg U) (a := c) (b := d) ⟨lv, by rw [HV.out], (HX.out W hW).ln, HOK.out⟩ (Nat.le_refl _) ⟨lu, by rw [HU.out], (HX.out W hW).lm, HOU.out⟩ (Nat.le_refl _)
 have hg2 := fun W (hW : Below w5.heap.size w5 W) => rcsame_any (w := W) (va := .agg V) (vb := .agg U) (a := c) (b := d) ⟨lv, by rw [HV.out], (HX.out W hW).ln, HOK.out⟩ (Nat.le_refl _) ⟨lu, by rw [HU.out], (HX.out W hW).lm, HOU.out⟩ (Nat.le_refl _) HMA.out
 have hg3 := fun W (hW : Below w5.heap.size w5 W) => samedoc_any (w := W) (va := .agg D) (vb := .agg E) (a := c.doc) (b := d.doc) ⟨lv, by rw [HD.out], (HX.out W hW).ln, HOK.out.doc⟩ (Nat.le_refl _) ⟨lu, by rw [HE.out], (HX.out W hW).lm, HOU.out.doc⟩ (Nat.le_refl _)
 have hg4 := fun W (hW : Below w5.heap.size w5 W) => rsamedoc_any (w := W) (va := .agg D) (vb := .agg E) (a := c.doc) (b := d.doc) ⟨lv, by rw [HD.out], (HX.out W hW).ln, HOK.out.doc⟩ (Nat.le_refl _) ⟨lu, by rw [HE.out], (HX.out W hW).lm, HOU.out.doc⟩ (Nat.le_refl _) HMA.out
 have hg5 := fun W (hW : Below w5.heap.size w5 W) => csame_any (w := W) (va := .agg V) (vb := .agg V) (a := c) (b := c) ⟨lv, by rw [HV.out], (HX.out W hW).ln, HOK.out⟩ (Nat.le_refl _) ⟨lv, by rw [HV.out], (HX.out W hW).ln, HOK.out⟩ (Nat.le_refl _)
 have hg6 := fun W (hW : Below w5.heap.size w5 W) => samedoc_any (w := W) (va := .agg E) (vb := .agg E) (a := d.doc) (b := d.doc) ⟨lu, by rw [HE.out], (HX.out W hW).lm, HOU.out.doc⟩ (Nat.le_refl _) ⟨lu, by rw [HE.out], (HX.out W hW).lm, HOU.out.doc⟩ (Nat.le_refl _)
 rw [decide_eq_true rfl] at hg5 hg6
 generalize decide (c = d) = G1 at hg1 hg2
 generalize decide (c.doc = d.doc) = G2 at hg3 hg4
 have HG1 := Lib.hid hg1
 have HG2 := Lib.hid hg2
 have HG3 := Lib.hid hg3
 have HG4 := Lib.hid hg4
 have HG5 := Lib.hid hg5
 have HG6 := Lib.hid hg6
 clear hD hE hg1 hg2 hg3 hg4 hg5 hg6
 refine wp_region_sp (by kernel_rfl) [isS (.agg V), isS (.agg U), isS (.bool G1), isS (.agg V), isS (.agg U), isS (.bool G1), isS (.bool true), isS (.bool true), isS (.pointer (some ⟨b1, 13, none⟩)), isS (.agg D), isS (.pointer (some ⟨b1 + 1, 13, none⟩)), isS (.agg E), isS (.bool G2), isS (.pointer (some ⟨b1, 13, none⟩)), isS (.agg D), isS (.pointer (some ⟨b1 + 1, 13, none⟩)), isS (.agg E), isS (.bool G2), isS (.bool true), isS (.bool true), isS (.bool true), isS (.agg V), isS (.agg V), isS (.bool true), isS (.bool true), isS (.bool true), isS (.pointer (some ⟨b1 + 1, 13, none⟩)), isS (.agg E), isS (.pointer (some ⟨b1 + 1, 13, none⟩)), isS (.agg E), isS (.bool true), isS (.bool true), isS (.bool true), isS (.bool true), isS (.bool true), isS (.bool true)] (by kernel_rfl) (by kernel_rfl) (fun q hq => ?_) (fun a' w9 hc hs => ?_)
 ·match q, hq with
  | 0, _ =>
   intro a W hc hd
   have z2 := hc.same 2 (by kernel_rfl)
   simp only [List.getElem?_toArray, List.getElem?_cons_succ, List.getElem?_cons_zero, Option.getD_some] at z2
   refine obl_val rfl (wanted_none rfl) ?_ rfl
   rw [← HV.out]
   exact exec_load_cmd rfl (eval_tmp z2) (HX.out W ((Below.refl w5.heap.size w5).drew.trans hc.below)).bx
  | 1, _ =>
   intro a W hc hd
   have z3 := hc.same 3 (by kernel_rfl)
   simp only [List.getElem?_toArray, List.getElem?_cons_succ, List.getElem?_cons_zero, Option.getD_some] at z3
   refine obl_val rfl (wanted_none rfl) ?_ rfl
   rw [← HU.out]
   exact exec_load_cmd rfl (eval_tmp z3) (HX.out W ((Below.refl w5.heap.size w5).drew.trans hc.below)).by_
  | 2, _ =>
   intro a W hc hd
   have s0 : a.tmps[14]?.getD undef = (.agg V) := hd 0 (by kernel_rfl)
   have s1 : a.tmps[15]?.getD undef = (.agg U) := hd 1 (by kernel_rfl)
   refine obl_call rfl (wanted_none rfl) (by go_simp) (HG1.out W ((Below.refl w5.heap.size w5).drew.trans hc.below)) ?_
   rintro e w8 ⟨rfl, hb8⟩
   exact ⟨_, rfl, rfl, hb8⟩
  | 3, _ =>
   intro a W hc hd
   have z2 := hc.same 2 (by kernel_rfl)
   simp only [List.getElem?_toArray, List.getElem?_cons_succ, List.getElem?_cons_zero, Option.getD_some] at z2
   refine obl_val rfl (wanted_none rfl) ?_ rfl
   rw [← HV.out]
   exact exec_load_cmd rfl (eval_tmp z2) (HX.out W ((Below.refl w5.heap.size w5).drew.trans hc.below)).bx
  | 4, _ =>
   intro a W hc hd
   have z3 := hc.same 3 (by kernel_rfl)
   simp only [List.getElem?_toArray, List.getElem?_cons_succ, List.getElem?_cons_zero, Option.getD_some] at z3
   refine obl_val rfl (wanted_none rfl) ?_ rfl
   rw [← HU.out]
   exact exec_load_cmd rfl (eval_tmp z3) (HX.out W ((Below.refl w5.heap.size w5).drew.trans hc.below)).by_
  | 5, _ =>
   intro a W hc hd
   have s3 : a.tmps[17]?.getD undef = (.agg V) := hd 3 (by kernel_rfl)
   have s4 : a.tmps[18]?.getD undef = (.agg U) := hd 4 (by kernel_rfl)
   refine obl_call rfl (wanted_none rfl) (by go_simp) (HG2.out W ((Below.refl w5.heap.size w5).drew.trans hc.below)) ?_
   rintro e w8 ⟨rfl, hb8⟩
   exact ⟨_, rfl, rfl, hb8⟩
  | 6, _ =>
   intro a W hc hd
   have s2 : a.tmps[16]?.getD undef = (.bool G1) := hd 2 (by kernel_rfl)
   have s5 : a.tmps[19]?.getD undef = (.bool G1) := hd 5 (by kernel_rfl)
   refine obl_val rfl (wanted_none rfl) ?_ rfl
   go_simp
  | 7, _ =>
   intro a W hc hd
   have s6 : a.tmps[20]?.getD undef = (.bool true) := hd 6 (by kernel_rfl)
   refine obl_val rfl (wanted_none rfl) ?_ rfl
   go_simp
  | 8, _ =>
   intro a W hc hd
   have z2 := hc.same 2 (by kernel_rfl)
   have s7 : a.tmps[21]?.getD undef = (.bool true) := hd 7 (by kernel_rfl)
   simp only [List.getElem?_toArray, List.getElem?_cons_succ, List.getElem?_cons_zero, Option.getD_some] at z2
   refine obl_val rfl (wanted_some rfl rfl s7) ?_ rfl
   go_simp
  | 9, _ =>
   intro a W hc hd
   have s8 : a.tmps[22]?.getD undef = (.pointer (some ⟨b1, 13, none⟩)) := hd 8 (by kernel_rfl)
   have s7 : a.tmps[21]?.getD undef = (.bool true) := hd 7 (by kernel_rfl)
   refine obl_val rfl (wanted_some rfl rfl s7) ?_ rfl
   rw [← HD.out]
   exact exec_load_doc13 rfl (eval_tmp s8) (HX.out W ((Below.refl w5.heap.size w5).drew.trans hc.below)).bx
  | 10, _ =>
   intro a W hc hd
   have z3 := hc.same 3 (by kernel_rfl)
   have s7 : a.tmps[21]?.getD undef = (.bool true) := hd 7 (by kernel_rfl)
   simp only [List.getElem?_toArray, List.getElem?_cons_succ, List.getElem?_cons_zero, Option.getD_some] at z3
   refine obl_val rfl (wanted_some rfl rfl s7) ?_ rfl
   go_simp
  | 11, _ =>
   intro a W hc hd
   have s10 : a.tmps[24]?.getD undef = (.pointer (some ⟨b1 + 1, 13, none⟩)) := hd 10 (by kernel_rfl)
   have s7 : a.tmps[21]?.getD undef = (.bool true) := hd 7 (by kernel_rfl)
   refine obl_val rfl (wanted_some rfl rfl s7) ?_ rfl
   rw [← HE.out]
   exact exec_load_doc13 rfl (eval_tmp s10) (HX.out W ((Below.refl w5.heap.size w5).drew.trans hc.below)).by_
  | 12, _ =>
   intro a W hc hd
   have s9 : a.tmps[23]?.getD undef = (.agg D) := hd 9 (by kernel_rfl)
   have s11 : a.tmps[25]?.getD undef = (.agg E) := hd 11 (by kernel_rfl)
   have s7 : a.tmps[21]?.getD undef = (.bool true) := hd 7 (by kernel_rfl)
   refine obl_call rfl (wanted_some rfl rfl s7) (by go_simp) (HG3.out W ((Below.refl w5.heap.size w5).drew.trans hc.below)) ?_
   rintro e w8 ⟨rfl, hb8⟩
   exact ⟨_, rfl, rfl, hb8⟩
  | 13, _ =>
   intro a W hc hd
   have z2 := hc.same 2 (by kernel_rfl)
   have s7 : a.tmps[21]?.getD undef = (.bool true) := hd 7 (by kernel_rfl)
   simp only [List.getElem?_toArray, List.getElem?_cons_succ, List.getElem?_cons_zero, Option.getD_some] at z2
   refine obl_val rfl (wanted_some rfl rfl s7) ?_ rfl
   go_simp
  | 14, _ =>
   intro a W hc hd
   have s13 : a.tmps[27]?.getD undef = (.pointer (some ⟨b1, 13, none⟩)) := hd 13 (by kernel_rfl)
   have s7 : a.tmps[21]?.getD undef = (.bool true) := hd 7 (by kernel_rfl)
   refine obl_val rfl (wanted_some rfl rfl s7) ?_ rfl
   rw [← HD.out]
   exact exec_load_doc13 rfl (eval_tmp s13) (HX.out W ((Below.refl w5.heap.size w5).drew.trans hc.below)).bx
  | 15, _ =>
   intro a W hc hd
   have z3 := hc.same 3 (by kernel_rfl)
   have s7 : a.tmps[21]?.getD undef = (.bool true) := hd 7 (by kernel_rfl)
   simp only [List.getElem?_toArray, List.getElem?_cons_succ, List.getElem?_cons_zero, Option.getD_some] at z3
   refine obl_val rfl (wanted_some rfl rfl s7) ?_ rfl
   go_simp
  | 16, _ =>
   intro a W hc hd
   have s15 : a.tmps[29]?.getD undef = (.pointer (some ⟨b1 + 1, 13, none⟩)) := hd 15 (by kernel_rfl)
   have s7 : a.tmps[21]?.getD undef = (.bool true) := hd 7 (by kernel_rfl)
   refine obl_val rfl (wanted_some rfl rfl s7) ?_ rfl
   rw [← HE.out]
   exact exec_load_doc13 rfl (eval_tmp s15) (HX.out W ((Below.refl w5.heap.size w5).drew.trans hc.below)).by_
  | 17, _ =>
   intro a W hc hd
   have s14 : a.tmps[28]?.getD undef = (.agg D) := hd 14 (by kernel_rfl)
   have s16 : a.tmps[30]?.getD undef = (.agg E) := hd 16 (by kernel_rfl)
   have s7 : a.tmps[21]?.getD undef = (.bool true) := hd 7 (by kernel_rfl)
   refine obl_call rfl (wanted_some rfl rfl s7) (by go_simp) (HG4.out W ((Below.refl w5.heap.size w5).drew.trans hc.below)) ?_
   rintro e w8 ⟨rfl, hb8⟩
   exact ⟨_, rfl, rfl, hb8⟩
  | 18, _ =>
   intro a W hc hd
   have s12 : a.tmps[26]?.getD undef = (.bool G2) := hd 12 (by kernel_rfl)
   have s17 : a.tmps[31]?.getD undef = (.bool G2) := hd 17 (by kernel_rfl)
   have s7 : a.tmps[21]?.getD undef = (.bool true) := hd 7 (by kernel_rfl)
   refine obl_val rfl (wanted_some rfl rfl s7) ?_ rfl
   go_simp
  | 19, _ =>
   intro a W hc hd
   have s7 : a.tmps[21]?.getD undef = (.bool true) := hd 7 (by kernel_rfl)
   have s18 : a.tmps[32]?.getD undef = (.bool true) := hd 18 (by kernel_rfl)
   refine obl_val rfl (wanted_none rfl) ?_ rfl
   go_simp
  | 20, _ =>
   intro a W hc hd
   have s19 : a.tmps[33]?.getD undef = (.bool true) := hd 19 (by kernel_rfl)
   refine obl_val rfl (wanted_none rfl) ?_ rfl
   go_simp
  | 21, _ =>
   intro a W hc hd
   have z2 := hc.same 2 (by kernel_rfl)
   have s20 : a.tmps[34]?.getD undef = (.bool true) := hd 20 (by kernel_rfl)
   simp only [List.getElem?_toArray, List.getElem?_cons_succ, List.getElem?_cons_zero, Option.getD_some] at z2
   refine obl_val rfl (wanted_some rfl rfl s20) ?_ rfl
   rw [← HV.out]
   exact exec_load_cmd rfl (eval_tmp z2) (HX.out W ((Below.refl w5.heap.size w5).drew.trans hc.below)).bx
  | 22, _ =>
   intro a W hc hd
   have z2 := hc.same 2 (by kernel_rfl)
   have s20 : a.tmps[34]?.getD undef = (.bool true) := hd 20 (by kernel_rfl)
   simp only [List.getElem?_toArray, List.getElem?_cons_succ, List.getElem?_cons_zero, Option.getD_some] at z2
   refine obl_val rfl (wanted_some rfl rfl s20) ?_ rfl
   rw [← HV.out]
   exact exec_load_cmd rfl (eval_tmp z2) (HX.out W ((Below.refl w5.heap.size w5).drew.trans hc.below)).bx
  | 23, _ =>
   intro a W hc hd
   have s21 : a.tmps[35]?.getD undef = (.agg V) := hd 21 (by kernel_rfl)
   have s22 : a.tmps[36]?.getD undef = (.agg V) := hd 22 (by kernel_rfl)
   have s20 : a.tmps[34]?.getD undef = (.bool true) := hd 20 (by kernel_rfl)
   refine obl_call rfl (wanted_some rfl rfl s20) (by go_simp) (HG5.out W ((Below.refl w5.heap.size w5).drew.trans hc.below)) ?_
   rintro e w8 ⟨rfl, hb8⟩
   exact ⟨_, rfl, rfl, hb8⟩
  | 24, _ =>
   intro a W hc hd
   have s20 : a.tmps[34]?.getD undef = (.bool true) := hd 20 (by kernel_rfl)
   have s23 : a.tmps[37]?.getD undef = (.bool true) := hd 23 (by kernel_rfl)
   refine obl_val rfl (wanted_none rfl) ?_ rfl
   go_simp
  | 25, _ =>
   intro a W hc hd
   have s24 : a.tmps[38]?.getD undef = (.bool true) := hd 24 (by kernel_rfl)
   refine obl_val rfl (wanted_none rfl) ?_ rfl
   go_simp
  | 26, _ =>
   intro a W hc hd
   have z3 := hc.same 3 (by kernel_rfl)
   have s25 : a.tmps[39]?.getD undef = (.bool true) := hd 25 (by kernel_rfl)
   simp only [List.getElem?_toArray, List.getElem?_cons_succ, List.getElem?_cons_zero, Option.getD_some] at z3
   refine obl_val rfl (wanted_some rfl rfl s25) ?_ rfl
   go_simp
  | 27, _ =>
   intro a W hc hd
   have s26 : a.tmps[40]?.getD undef = (.pointer (some ⟨b1 + 1, 13, none⟩)) := hd 26 (by kernel_rfl)
   have s25 : a.tmps[39]?.getD undef = (.bool true) := hd 25 (by kernel_rfl)
   refine obl_val rfl (wanted_some rfl rfl s25) ?_ rfl
   rw [← HE.out]
   exact exec_load_doc13 rfl (eval_tmp s26) (HX.out W ((Below.refl w5.heap.size w5).drew.trans hc.below)).by_
  | 28, _ =>
   intro a W hc hd
   have z3 := hc.same 3 (by kernel_rfl)
   have s25 : a.tmps[39]?.getD undef = (.bool true) := hd 25 (by kernel_rfl)
   simp only [List.getElem?_toArray, List.getElem?_cons_succ, List.getElem?_cons_zero, Option.getD_some] at z3
   refine obl_val rfl (wanted_some rfl rfl s25) ?_ rfl
   go_simp
  | 29, _ =>
   intro a W hc hd
   have s28 : a.tmps[42]?.getD undef = (.pointer (some ⟨b1 + 1, 13, none⟩)) := hd 28 (by kernel_rfl)
   have s25 : a.tmps[39]?.getD undef = (.bool true) := hd 25 (by kernel_rfl)
   refine obl_val rfl (wanted_some rfl rfl s25) ?_ rfl
   rw [← HE.out]
   exact exec_load_doc13 rfl (eval_tmp s28) (HX.out W ((Below.refl w5.heap.size w5).drew.trans hc.below)).by_
  | 30, _ =>
   intro a W hc hd
   have s27 : a.tmps[41]?.getD undef = (.agg E) := hd 27 (by kernel_rfl)
   have s29 : a.tmps[43]?.getD undef = (.agg E) := hd 29 (by kernel_rfl)
   have s25 : a.tmps[39]?.getD undef = (.bool true) := hd 25 (by kernel_rfl)
   refine obl_call rfl (wanted_some rfl rfl s25) (by go_simp) (HG6.out W ((Below.refl w5.heap.size w5).drew.trans hc.below)) ?_
   rintro e w8 ⟨rfl, hb8⟩
   exact ⟨_, rfl, rfl, hb8⟩
  | 31, _ =>
   intro a W hc hd
   have s25 : a.tmps[39]?.getD undef = (.bool true) := hd 25 (by kernel_rfl)
   have s30 : a.tmps[44]?.getD undef = (.bool true) := hd 30 (by kernel_rfl)
   refine obl_val rfl (wanted_none rfl) ?_ rfl
   go_simp
  | 32, _ =>
   intro a W hc hd
   have s31 : a.tmps[45]?.getD undef = (.bool true) := hd 31 (by kernel_rfl)
   refine obl_val rfl (wanted_none rfl) ?_ rfl
   go_simp
  | 33, _ =>
   intro a W hc hd
   have s32 : a.tmps[46]?.getD undef = (.bool true) := hd 32 (by kernel_rfl)
   refine obl_call rfl (wanted_some rfl rfl s32) (by go_simp) (lives8_any W) ?_
   rintro e w8 ⟨rfl, hb8⟩
   exact ⟨_, rfl, rfl, hb8⟩
  | 34, _ =>
   intro a W hc hd
   have s32 : a.tmps[46]?.getD undef = (.bool true) := hd 32 (by kernel_rfl)
   have s33 : a.tmps[47]?.getD undef = (.bool true) := hd 33 (by kernel_rfl)
   refine obl_val rfl (wanted_none rfl) ?_ rfl
   go_simp
  | 35, _ =>
   intro a W hc hd
   have s34 : a.tmps[48]?.getD undef = (.bool true) := hd 34 (by kernel_rfl)
   refine obl_val rfl (wanted_none rfl) ?_ rfl
   go_simp
  | n + 36, h => exact absurd h (by simp)
 ·skip
  have hfr := grow_frame hc [(14, (.agg V)), (15, (.agg U)), (16, (.bool G1)), (17, (.agg V)), (18, (.agg U)), (19, (.bool G1)), (20, (.bool true)), (21, (.bool true)), (22, (.pointer (some ⟨b1, 13, none⟩))), (23, (.agg D)), (24, (.pointer (some ⟨b1 + 1, 13, none⟩))), (25, (.agg E)), (26, (.bool G2)), (27, (.pointer (some ⟨b1, 13, none⟩))), (28, (.agg D)), (29, (.pointer (some ⟨b1 + 1, 13, none⟩))), (30, (.agg E)), (31, (.bool G2)), (32, (.bool true)), (33, (.bool true)), (34, (.bool true)), (35, (.agg V)), (36, (.agg V)), (37, (.bool true)), (38, (.bool true)), (39, (.bool true)), (40, (.pointer (some ⟨b1 + 1, 13, none⟩))), (41, (.agg E)), (42, (.pointer (some ⟨b1 + 1, 13, none⟩))), (43, (.agg E)), (44, (.bool true)), (45, (.bool true)), (46, (.bool true)), (47, (.bool true)), (48, (.bool true)), (4, (.bool true))] (by kernel_rfl) (fun p hp => by
    simp only [List.mem_cons, List.not_mem_nil, or_false] at hp
    rcases hp with rfl | rfl | rfl | rfl | rfl | rfl | rfl | rfl | rfl | rfl | rfl | rfl | rfl | rfl | rfl | rfl | rfl | rfl | rfl | rfl | rfl | rfl | rfl | rfl | rfl | rfl | rfl | rfl | rfl | rfl | rfl | rfl | rfl | rfl | rfl | rfl
    ·exact hs 0 14 (by decide) (by kernel_rfl)
    ·exact hs 1 15 (by decide) (by kernel_rfl)
    ·exact hs 2 16 (by decide) (by kernel_rfl)
    ·exact hs 3 17 (by decide) (by kernel_rfl)
    ·exact hs 4 18 (by decide) (by kernel_rfl)
    ·exact hs 5 19 (by decide) (by kernel_rfl)
    ·exact hs 6 20 (by decide) (by kernel_rfl)
    ·exact hs 7 21 (by decide) (by kernel_rfl)
    ·exact hs 8 22 (by decide) (by kernel_rfl)
    ·exact hs 9 23 (by decide) (by kernel_rfl)
    ·exact hs 10 24 (by decide) (by kernel_rfl)
    ·exact hs 11 25 (by decide) (by kernel_rfl)
    ·exact hs 12 26 (by decide) (by kernel_rfl)
    ·exact hs 13 27 (by decide) (by kernel_rfl)
    ·exact hs 14 28 (by decide) (by kernel_rfl)
    ·exact hs 15 29 (by decide) (by kernel_rfl)
    ·exact hs 16 30 (by decide) (by kernel_rfl)
    ·exact hs 17 31 (by decide) (by kernel_rfl)
    ·exact hs 18 32 (by decide) (by kernel_rfl)
    ·exact hs 19 33 (by decide) (by kernel_rfl)
    ·exact hs 20 34 (by decide) (by kernel_rfl)
    ·exact hs 21 35 (by decide) (by kernel_rfl)
    ·exact hs 22 36 (by decide) (by kernel_rfl)
    ·exact hs 23 37 (by decide) (by kernel_rfl)
    ·exact hs 24 38 (by decide) (by kernel_rfl)
    ·exact hs 25 39 (by decide) (by kernel_rfl)
    ·exact hs 26 40 (by decide) (by kernel_rfl)
    ·exact hs 27 41 (by decide) (by kernel_rfl)
    ·exact hs 28 42 (by decide) (by kernel_rfl)
    ·exact hs 29 43 (by decide) (by kernel_rfl)
    ·exact hs 30 44 (by decide) (by kernel_rfl)
    ·exact hs 31 45 (by decide) (by kernel_rfl)
    ·exact hs 32 46 (by decide) (by kernel_rfl)
    ·exact hs 33 47 (by decide) (by kernel_rfl)
    ·exact hs 34 48 (by decide) (by kernel_rfl)
    ·exact hs 35 4 (by decide) (by kernel_rfl)
    )
  simp only [List.range, List.range.loop, List.size_toArray, List.length_cons, List.length_nil, List.map_cons, List.map_nil, List.lookup_cons, List.lookup_nil, Nat.reduceAdd, Nat.reduceBEq, Option.getD_some, Option.getD_none, List.getElem?_toArray, List.getElem?_cons_succ, List.getElem?_cons_zero] at hfr
  subst hfr
  have hb3 := HB6.out.trans (((Below.refl w5.heap.size w5).drew.trans hc.below).mono HB6.out.size)
  clear hc hs
  go_wp2
  go_ret
  exact ⟨rfl, hb3⟩
end Go.Proofs.Ytnfpmobmfcgfnaa

