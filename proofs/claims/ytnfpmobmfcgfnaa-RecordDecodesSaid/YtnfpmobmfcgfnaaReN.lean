/- THE WALK OF octroiref08.Encode (printed by gen/genren.py). -/
import Derived.Test.YtnfpmobmfcgfnaaReJ
import Derived.Test.YtnfpmobmfcgfnaaReL
import Derived.Test.YtnfpmobmfcgfnaaReM
import Derived.Test.YtnfpmobmfcgfnaaPg
namespace Go.Proofs.Ytnfpmobmfcgfnaa
open Go.RowKit
set_option maxRecDepth 100000 in
set_option maxHeartbeats 16000000 in
theorem renc_bad {w : World} {B : Nat} {v : Value} {c : Cm} (hv : CmV w B v c) (hB : B ≤ w.heap.size) (hl : c.doc.ls.length ≤ 100000) (hG : goodCB c = false) :
  Calls Try.prog 32 #[v] w (EncPost c w) := by
 obtain ⟨A0, m0, V, rfl, HV, HV2, HVI, HB1, HX1, HLS, HOK⟩ := cmd_pre hv hB
 clear hv
 have hgd := rgood_any (c := c) ⟨.slice A0 c.doc.ls.length m0, by rw [HV.out], HLS.out _ HB1.out, HOK.out⟩ (Nat.le_trans hB HB1.out.size) hl
 rw [hG] at hgd
 have HG := Lib.hid hG
 clear hG
 go_enter Try.func32, Try.ntmps32
 go_upto_region 1 with fail
 generalize World.alloc w _ = w1 at *
 generalize hb : w.heap.size = b1 at HX1 ⊢
 have HBB := Lib.hid hb
 clear hb
 have HXV := Lib.hid (loadV HX1.out HV.out)
 go_wp2_with (first
  | (with_reducible refine wpList_load_row rfl 53 (.tmp 1) rfl b1 rfl 53 V (0, 0) _ HXV.out Try.underlying53 rfl HVI.out ?_)
  | (go_at_call 27; (with_reducible refine hgd.mono ?_); rintro e w2 ⟨rfl, hb2⟩))
 go_ret2
 exact ⟨.inl ⟨HG.out, rfl⟩, HB1.out.trans (hb2.mono HB1.out.size)⟩
set_option maxRecDepth 100000 in
set_option maxHeartbeats 16000000 in
theorem renc_k1 {w : World} {B : Nat} {v : Value} {c : Cm} (hv : CmV w B v c) (hB : B ≤ w.heap.size) (hl : c.doc.ls.length ≤ 100000) (hk : c.kind = 1) (hG : goodCB c = true) :
  Calls Try.prog 32 #[v] w (EncPost c w) := by
 obtain ⟨A0, m0, V, rfl, HV, HV2, HVI, HB1, HX1, HLS, HOK⟩ := cmd_pre hv hB
 clear hv
 have hgd := rgood_any (c := c) ⟨.slice A0 c.doc.ls.length m0, by rw [HV.out], HLS.out _ HB1.out, HOK.out⟩ (Nat.le_trans hB HB1.out.size) hl
 rw [hG] at hgd
 have HG := Lib.hid hG
 clear hG
 go_enter Try.func32, Try.ntmps32
 go_upto_region 1 with fail
 generalize World.alloc w _ = w1 at *
 generalize hb : w.heap.size = b1 at HX1 ⊢
 have HBB := Lib.hid hb
 clear hb
 have HXV := Lib.hid (loadV HX1.out HV.out)
 have hfit := good_fit HG.out
 have HFIT := Lib.hid hfit
 have HCV := Lib.hid (show ∀ W, W.heap[b1]? = some (.cells V 53 (0, 0)) → CBox W b1 c (.slice A0 c.doc.ls.length m0) from fun W hW => CBlk.box (by unfold CBlk; rw [HV.out]; exact hW))
 have HK := Lib.hid hk
 clear hfit hk
 go_upto_region 3 with (first
  | (with_reducible refine wpList_load_row rfl 53 (.tmp 1) rfl b1 rfl 53 V (0, 0) _ HXV.out Try.underlying53 rfl HVI.out ?_)
  | (go_at_call 27; (with_reducible refine hgd.mono ?_); rintro e w2 ⟨rfl, hb2⟩; have HB2 := Lib.hid hb2; clear hb2 hgd))
 have HD2 := Lib.hid (show DS w2 (.slice none 0 0) w2.heap.size b1 V 53 [] (.slice none 0 0) w2 from ⟨Own.nil_ _ _, AStep.refl _ _, (HB2.out.block b1 (lt_of_blk HXV.out)).trans HXV.out, Nat.le_refl _⟩)
 have hq := bnum_any HD2.out.own HD2.out.le c.kind HFIT.out.kind.1 HFIT.out.kind.2 (by simp)
 have c0 := (HCV.out w2 HD2.out.blk).c0
 go_upto_region 4 with (go_at_call 68; (with_reducible refine hq.mono ?_); rintro e w8 ⟨X, rfl, hox, hsx⟩; have HD8 := Lib.hid (HD2.out.call (l' := numL c.kind) (by decide) (by simpa using hox) hsx); clear hq hox hsx c0; have c0 := (HCV.out w8 HD8.out.blk).c0)
 rw [HK.out] at c0
 have HKL := Lib.hid (numL_len' _ HFIT.out.kind)
 clear HD2
 go_upto_region 6 with fail
 refine wp_region_chainT (by kernel_rfl) [none, some (.pointer (some ⟨b1, 1, none⟩)), some (.string c.cty), none, some (.pointer (some ⟨b1, 9, none⟩)), some (.int .i64 c.ix), none, some (.pointer (some ⟨b1, 5, none⟩)), some (.int .i64 c.day), none, none] [0, 3, 6, 9, 10] (fun k x W => match k with | 0 => DS w2 (.slice none 0 0) w2.heap.size b1 V 53 (numL c.kind) x W | k + 1 => DS w2 (.slice none 0 0) w2.heap.size b1 V 53 (numL c.kind ++ (([textL c.cty, numL c.ix, numL c.day] : List (List UInt8)).take k).flatten) x W) 4 (by kernel_rfl) (by kernel_rfl) (by kernel_rfl) (by kernel_rfl) (by kernel_rfl) (fun m x W W' h hb => by match m, h with | 0, h => exact h.below hb | n + 1, h => exact h.below hb) HD8.out (fun i hi hn m a W hc hI hd => ?_) (fun k hk a W hc hI hd => ?_) (fun a wz hc hI hs => ?_)
 ·match i, hi, hn with
  | 0, _, hn => exact absurd hn (by decide)
  | 1, _, _ =>
   have z1 := hc.same 1 (by kernel_rfl)
   simp only [List.getElem?_toArray, List.getElem?_cons_succ, List.getElem?_cons_zero, Option.getD_some] at z1
   refine obl_val rfl (wanted_none rfl) ?_ rfl
   go_simp
  | 2, _, _ =>
   have s1 : a.tmps[16]?.getD undef = (.pointer (some ⟨b1, 1, none⟩)) := hd 1 (Nat.le_of_ble_eq_true rfl) (by kernel_rfl)
   have hbk : W.heap[b1]? = some (.cells V 53 (0, 0)) := by match m, hI with | 0, hI => exact hI.blk | n + 1, hI => exact hI.blk
   obtain ⟨c0, c1, c2, c3, c4, c5, c6, c7, c8, c9, c10, c11, c12, c13, c14, c15, c16, c17, c18, c19, c20, c21⟩ := HCV.out W hbk
   refine obl_val rfl (wanted_none rfl) ?_ rfl
   go_simp
  | 3, _, hn => exact absurd hn (by decide)
  | 4, _, _ =>
   have z1 := hc.same 1 (by kernel_rfl)
   simp only [List.getElem?_toArray, List.getElem?_cons_succ, List.getElem?_cons_zero, Option.getD_some] at z1
   refine obl_val rfl (wanted_none rfl) ?_ rfl
   go_simp
  | 5, _, _ =>
   have s4 : a.tmps[19]?.getD undef = (.pointer (some ⟨b1, 9, none⟩)) := hd 4 (Nat.le_of_ble_eq_true rfl) (by kernel_rfl)
   have hbk : W.heap[b1]? = some (.cells V 53 (0, 0)) := by match m, hI with | 0, hI => exact hI.blk | n + 1, hI => exact hI.blk
   obtain ⟨c0, c1, c2, c3, c4, c5, c6, c7, c8, c9, c10, c11, c12, c13, c14, c15, c16, c17, c18, c19, c20, c21⟩ := HCV.out W hbk
   refine obl_val rfl (wanted_none rfl) ?_ rfl
   go_simp
  | 6, _, hn => exact absurd hn (by decide)
  | 7, _, _ =>
   have z1 := hc.same 1 (by kernel_rfl)
   simp only [List.getElem?_toArray, List.getElem?_cons_succ, List.getElem?_cons_zero, Option.getD_some] at z1
   refine obl_val rfl (wanted_none rfl) ?_ rfl
   go_simp
  | 8, _, _ =>
   have s7 : a.tmps[22]?.getD undef = (.pointer (some ⟨b1, 5, none⟩)) := hd 7 (Nat.le_of_ble_eq_true rfl) (by kernel_rfl)
   have hbk : W.heap[b1]? = some (.cells V 53 (0, 0)) := by match m, hI with | 0, hI => exact hI.blk | n + 1, hI => exact hI.blk
   obtain ⟨c0, c1, c2, c3, c4, c5, c6, c7, c8, c9, c10, c11, c12, c13, c14, c15, c16, c17, c18, c19, c20, c21⟩ := HCV.out W hbk
   refine obl_val rfl (wanted_none rfl) ?_ rfl
   go_simp
  | 9, _, hn => exact absurd hn (by decide)
  | 10, _, hn => exact absurd hn (by decide)
  | n + 11, h, _ => exact absurd h (by simp)
 ·match k, hk with
  | 0, _ =>
   have hI : (fun k x W => match k with | 0 => DS w2 (.slice none 0 0) w2.heap.size b1 V 53 (numL c.kind) x W | k + 1 => DS w2 (.slice none 0 0) w2.heap.size b1 V 53 (numL c.kind ++ (([textL c.cty, numL c.ix, numL c.day] : List (List UInt8)).take k).flatten) x W) 0 (a.tmps[4]?.getD undef) W := hI
   have hI : DS w2 (.slice none 0 0) w2.heap.size b1 V 53 (numL c.kind) (a.tmps[4]?.getD undef) W := hI
   generalize hx : a.tmps[4]?.getD undef = x at hI
   refine obl_callV rfl (wanted_none rfl) (v := x) (by go_simp) ⟨rfl, trivial, ?_⟩
   simpa [List.take] using hI
  | 1, _ =>
   have s2 : a.tmps[17]?.getD undef = (.string c.cty) := hd 2 (Nat.le_of_ble_eq_true rfl) (by kernel_rfl)
   have hI : (fun k x W => match k with | 0 => DS w2 (.slice none 0 0) w2.heap.size b1 V 53 (numL c.kind) x W | k + 1 => DS w2 (.slice none 0 0) w2.heap.size b1 V 53 (numL c.kind ++ (([textL c.cty, numL c.ix, numL c.day] : List (List UInt8)).take k).flatten) x W) 1 (a.tmps[15]?.getD undef) W := hI
   have hI : DS w2 (.slice none 0 0) w2.heap.size b1 V 53 (numL c.kind ++ (([textL c.cty, numL c.ix, numL c.day] : List (List UInt8)).take 0).flatten) (a.tmps[15]?.getD undef) W := hI
   generalize hx : a.tmps[15]?.getD undef = x at hI
   refine obl_callK rfl (wanted_none rfl) (by go_simp) (btext_any hI.own hI.le c.cty HFIT.out.cty (by simp; have := HKL.out; omega)) ?_
   rintro e w9 ⟨x9, rfl, ho9, hs9⟩
   exact ⟨_, rfl, _, rfl, trivial, hI.call (by decide) (by simpa [List.take] using ho9) hs9⟩
  | 2, _ =>
   have s5 : a.tmps[20]?.getD undef = (.int .i64 c.ix) := hd 5 (Nat.le_of_ble_eq_true rfl) (by kernel_rfl)
   have hI : (fun k x W => match k with | 0 => DS w2 (.slice none 0 0) w2.heap.size b1 V 53 (numL c.kind) x W | k + 1 => DS w2 (.slice none 0 0) w2.heap.size b1 V 53 (numL c.kind ++ (([textL c.cty, numL c.ix, numL c.day] : List (List UInt8)).take k).flatten) x W) 2 (a.tmps[18]?.getD undef) W := hI
   have hI : DS w2 (.slice none 0 0) w2.heap.size b1 V 53 (numL c.kind ++ (([textL c.cty, numL c.ix, numL c.day] : List (List UInt8)).take 1).flatten) (a.tmps[18]?.getD undef) W := hI
   generalize hx : a.tmps[18]?.getD undef = x at hI
   refine obl_callK rfl (wanted_none rfl) (by go_simp) (bnum_any hI.own hI.le c.ix HFIT.out.ix.1 HFIT.out.ix.2 (by simp; have := HKL.out; have := textL_len _ HFIT.out.cty; omega)) ?_
   rintro e w9 ⟨x9, rfl, ho9, hs9⟩
   exact ⟨_, rfl, _, rfl, trivial, hI.call (by decide) (by simpa [List.take] using ho9) hs9⟩
  | 3, _ =>
   have s8 : a.tmps[23]?.getD undef = (.int .i64 c.day) := hd 8 (Nat.le_of_ble_eq_true rfl) (by kernel_rfl)
   have hI : (fun k x W => match k with | 0 => DS w2 (.slice none 0 0) w2.heap.size b1 V 53 (numL c.kind) x W | k + 1 => DS w2 (.slice none 0 0) w2.heap.size b1 V 53 (numL c.kind ++ (([textL c.cty, numL c.ix, numL c.day] : List (List UInt8)).take k).flatten) x W) 3 (a.tmps[21]?.getD undef) W := hI
   have hI : DS w2 (.slice none 0 0) w2.heap.size b1 V 53 (numL c.kind ++ (([textL c.cty, numL c.ix, numL c.day] : List (List UInt8)).take 2).flatten) (a.tmps[21]?.getD undef) W := hI
   generalize hx : a.tmps[21]?.getD undef = x at hI
   refine obl_callK rfl (wanted_none rfl) (by go_simp) (bnum_any hI.own hI.le c.day HFIT.out.day.1 HFIT.out.day.2 (by simp; have := HKL.out; have := textL_len _ HFIT.out.cty; have := numL_len' _ HFIT.out.ix; omega)) ?_
   rintro e w9 ⟨x9, rfl, ho9, hs9⟩
   exact ⟨_, rfl, _, rfl, trivial, hI.call (by decide) (by simpa [List.take] using ho9) hs9⟩
  | 4, _ =>
   have hI : (fun k x W => match k with | 0 => DS w2 (.slice none 0 0) w2.heap.size b1 V 53 (numL c.kind) x W | k + 1 => DS w2 (.slice none 0 0) w2.heap.size b1 V 53 (numL c.kind ++ (([textL c.cty, numL c.ix, numL c.day] : List (List UInt8)).take k).flatten) x W) 4 (a.tmps[24]?.getD undef) W := hI
   have hI : DS w2 (.slice none 0 0) w2.heap.size b1 V 53 (numL c.kind ++ (([textL c.cty, numL c.ix, numL c.day] : List (List UInt8)).take 3).flatten) (a.tmps[24]?.getD undef) W := hI
   generalize hx : a.tmps[24]?.getD undef = x at hI
   refine obl_callV rfl (wanted_none rfl) (v := x) (by go_simp) ⟨rfl, trivial, ?_⟩
   simpa [List.take] using hI
  | n + 5, h => exact absurd h (by simp)
 ·skip
  have hI' : (fun k x W => match k with | 0 => DS w2 (.slice none 0 0) w2.heap.size b1 V 53 (numL c.kind) x W | k + 1 => DS w2 (.slice none 0 0) w2.heap.size b1 V 53 (numL c.kind ++ (([textL c.cty, numL c.ix, numL c.day] : List (List UInt8)).take k).flatten) x W) 5 (a.tmps[4]?.getD undef) wz := hI
  have hfr := grow_frame hc [(15, a.tmps[15]?.getD undef), (16, (.pointer (some ⟨b1, 1, none⟩))), (17, (.string c.cty)), (18, a.tmps[18]?.getD undef), (19, (.pointer (some ⟨b1, 9, none⟩))), (20, (.int .i64 c.ix)), (21, a.tmps[21]?.getD undef), (22, (.pointer (some ⟨b1, 5, none⟩))), (23, (.int .i64 c.day)), (24, a.tmps[24]?.getD undef), (4, a.tmps[4]?.getD undef)] (by kernel_rfl) (fun p hp => by
    simp only [List.mem_cons, List.not_mem_nil, or_false] at hp
    rcases hp with rfl | rfl | rfl | rfl | rfl | rfl | rfl | rfl | rfl | rfl | rfl
    ·rfl
    ·exact hs 1 16 (by decide) (by kernel_rfl)
    ·exact hs 2 17 (by decide) (by kernel_rfl)
    ·rfl
    ·exact hs 4 19 (by decide) (by kernel_rfl)
    ·exact hs 5 20 (by decide) (by kernel_rfl)
    ·rfl
    ·exact hs 7 22 (by decide) (by kernel_rfl)
    ·exact hs 8 23 (by decide) (by kernel_rfl)
    ·rfl
    ·rfl
    )
  generalize a.tmps[15]?.getD undef = z15 at hfr
  generalize a.tmps[18]?.getD undef = z18 at hfr
  generalize a.tmps[21]?.getD undef = z21 at hfr
  generalize a.tmps[24]?.getD undef = z24 at hfr
  generalize a.tmps[4]?.getD undef = z4 at hfr hI'
  simp only [List.range, List.range.loop, List.size_toArray, List.length_cons, List.length_nil, List.map_cons, List.map_nil, List.lookup_cons, List.lookup_nil, Nat.reduceAdd, Nat.reduceBEq, Option.getD_some, Option.getD_none, List.getElem?_toArray, List.getElem?_cons_succ, List.getElem?_cons_zero] at hfr
  subst hfr
  generalize z4 = xz at *
  have HDZ := Lib.hid (show DS w2 (.slice none 0 0) w2.heap.size b1 V 53 (numL c.kind ++ ([textL c.cty, numL c.ix, numL c.day] : List (List UInt8)).flatten) xz wz by simpa [List.take] using hI')
  clear hc hs hI hI'
  go_wp2
  have hk := HK.out
  have hbo : bodyL c = ([textL c.cty, numL c.ix, numL c.day] : List (List UInt8)).flatten := by rw [bodyL, if_pos hk]
  have hoz := HDZ.out.own
  rw [← hbo] at hoz
  have HOZ := Lib.hid hoz
  have hbf := HB1.out.trans ((HB2.out.trans ((HDZ.out.st.low (Own.nil_ _ _) (Nat.le_refl _) (Nat.le_refl _)).mono HB2.out.size)).mono HB1.out.size)
  have HBF := Lib.hid hbf
  clear hbo hoz hbf hk
  go_ret2
  exact ⟨.inr ⟨HG.out, xz, rfl, HOZ.out.more (Nat.le_trans HB1.out.size HB2.out.size)⟩, HBF.out⟩
set_option maxRecDepth 100000 in
set_option maxHeartbeats 16000000 in
theorem renc_k2 {w : World} {B : Nat} {v : Value} {c : Cm} (hv : CmV w B v c) (hB : B ≤ w.heap.size) (hl : c.doc.ls.length ≤ 100000) (hk : c.kind = 2) (hG : goodCB c = true) :
  Calls Try.prog 32 #[v] w (EncPost c w) := by
 obtain ⟨A0, m0, V, rfl, HV, HV2, HVI, HB1, HX1, HLS, HOK⟩ := cmd_pre hv hB
 clear hv
 have hgd := rgood_any (c := c) ⟨.slice A0 c.doc.ls.length m0, by rw [HV.out], HLS.out _ HB1.out, HOK.out⟩ (Nat.le_trans hB HB1.out.size) hl
 rw [hG] at hgd
 have HG := Lib.hid hG
 clear hG
 go_enter Try.func32, Try.ntmps32
 go_upto_region 1 with fail
 generalize World.alloc w _ = w1 at *
 generalize hb : w.heap.size = b1 at HX1 ⊢
 have HBB := Lib.hid hb
 clear hb
 have HXV := Lib.hid (loadV HX1.out HV.out)
 have hfit := good_fit HG.out
 have HFIT := Lib.hid hfit
 have HCV := Lib.hid (show ∀ W, W.heap[b1]? = some (.cells V 53 (0, 0)) → CBox W b1 c (.slice A0 c.doc.ls.length m0) from fun W hW => CBlk.box (by unfold CBlk; rw [HV.out]; exact hW))
 have HK := Lib.hid hk
 clear hfit hk
 go_upto_region 3 with (first
  | (with_reducible refine wpList_load_row rfl 53 (.tmp 1) rfl b1 rfl 53 V (0, 0) _ HXV.out Try.underlying53 rfl HVI.out ?_)
  | (go_at_call 27; (with_reducible refine hgd.mono ?_); rintro e w2 ⟨rfl, hb2⟩; have HB2 := Lib.hid hb2; clear hb2 hgd))
 have HD2 := Lib.hid (show DS w2 (.slice none 0 0) w2.heap.size b1 V 53 [] (.slice none 0 0) w2 from ⟨Own.nil_ _ _, AStep.refl _ _, (HB2.out.block b1 (lt_of_blk HXV.out)).trans HXV.out, Nat.le_refl _⟩)
 have hq := bnum_any HD2.out.own HD2.out.le c.kind HFIT.out.kind.1 HFIT.out.kind.2 (by simp)
 have c0 := (HCV.out w2 HD2.out.blk).c0
 go_upto_region 4 with (go_at_call 68; (with_reducible refine hq.mono ?_); rintro e w8 ⟨X, rfl, hox, hsx⟩; have HD8 := Lib.hid (HD2.out.call (l' := numL c.kind) (by decide) (by simpa using hox) hsx); clear hq hox hsx c0; have c0 := (HCV.out w8 HD8.out.blk).c0)
 rw [HK.out] at c0
 have HKL := Lib.hid (numL_len' _ HFIT.out.kind)
 clear HD2
 go_upto_region 8 with fail
 refine wp_region_chainT (by kernel_rfl) [none, some (.pointer (some ⟨b1, 1, none⟩)), some (.string c.cty), none, some (.pointer (some ⟨b1, 3, none⟩)), some (.int .i64 c.cat), none, some (.pointer (some ⟨b1, 5, none⟩)), some (.int .i64 c.day), none, some (.pointer (some ⟨b1, 6, none⟩)), some (.int .i64 c.til), none, some (.pointer (some ⟨b1, 4, none⟩)), some (.int .i64 c.bp), none, none] [0, 3, 6, 9, 12, 15, 16] (fun k x W => match k with | 0 => DS w2 (.slice none 0 0) w2.heap.size b1 V 53 (numL c.kind) x W | k + 1 => DS w2 (.slice none 0 0) w2.heap.size b1 V 53 (numL c.kind ++ (([textL c.cty, numL c.cat, numL c.day, numL c.til, numL c.bp] : List (List UInt8)).take k).flatten) x W) 4 (by kernel_rfl) (by kernel_rfl) (by kernel_rfl) (by kernel_rfl) (by kernel_rfl) (fun m x W W' h hb => by match m, h with | 0, h => exact h.below hb | n + 1, h => exact h.below hb) HD8.out (fun i hi hn m a W hc hI hd => ?_) (fun k hk a W hc hI hd => ?_) (fun a wz hc hI hs => ?_)
 ·match i, hi, hn with
  | 0, _, hn => exact absurd hn (by decide)
  | 1, _, _ =>
   have z1 := hc.same 1 (by kernel_rfl)
   simp only [List.getElem?_toArray, List.getElem?_cons_succ, List.getElem?_cons_zero, Option.getD_some] at z1
   refine obl_val rfl (wanted_none rfl) ?_ rfl
   go_simp
  | 2, _, _ =>
   have s1 : a.tmps[28]?.getD undef = (.pointer (some ⟨b1, 1, none⟩)) := hd 1 (Nat.le_of_ble_eq_true rfl) (by kernel_rfl)
   have hbk : W.heap[b1]? = some (.cells V 53 (0, 0)) := by match m, hI with | 0, hI => exact hI.blk | n + 1, hI => exact hI.blk
   obtain ⟨c0, c1, c2, c3, c4, c5, c6, c7, c8, c9, c10, c11, c12, c13, c14, c15, c16, c17, c18, c19, c20, c21⟩ := HCV.out W hbk
   refine obl_val rfl (wanted_none rfl) ?_ rfl
   go_simp
  | 3, _, hn => exact absurd hn (by decide)
  | 4, _, _ =>
   have z1 := hc.same 1 (by kernel_rfl)
   simp only [List.getElem?_toArray, List.getElem?_cons_succ, List.getElem?_cons_zero, Option.getD_some] at z1
   refine obl_val rfl (wanted_none rfl) ?_ rfl
   go_simp
  | 5, _, _ =>
   have s4 : a.tmps[31]?.getD undef = (.pointer (some ⟨b1, 3, none⟩)) := hd 4 (Nat.le_of_ble_eq_true rfl) (by kernel_rfl)
   have hbk : W.heap[b1]? = some (.cells V 53 (0, 0)) := by match m, hI with | 0, hI => exact hI.blk | n + 1, hI => exact hI.blk
   obtain ⟨c0, c1, c2, c3, c4, c5, c6, c7, c8, c9, c10, c11, c12, c13, c14, c15, c16, c17, c18, c19, c20, c21⟩ := HCV.out W hbk
   refine obl_val rfl (wanted_none rfl) ?_ rfl
   go_simp
  | 6, _, hn => exact absurd hn (by decide)
  | 7, _, _ =>
   have z1 := hc.same 1 (by kernel_rfl)
   simp only [List.getElem?_toArray, List.getElem?_cons_succ, List.getElem?_cons_zero, Option.getD_some] at z1
   refine obl_val rfl (wanted_none rfl) ?_ rfl
   go_simp
  | 8, _, _ =>
   have s7 : a.tmps[34]?.getD undef = (.pointer (some ⟨b1, 5, none⟩)) := hd 7 (Nat.le_of_ble_eq_true rfl) (by kernel_rfl)
   have hbk : W.heap[b1]? = some (.cells V 53 (0, 0)) := by match m, hI with | 0, hI => exact hI.blk | n + 1, hI => exact hI.blk
   obtain ⟨c0, c1, c2, c3, c4, c5, c6, c7, c8, c9, c10, c11, c12, c13, c14, c15, c16, c17, c18, c19, c20, c21⟩ := HCV.out W hbk
   refine obl_val rfl (wanted_none rfl) ?_ rfl
   go_simp
  | 9, _, hn => exact absurd hn (by decide)
  | 10, _, _ =>
   have z1 := hc.same 1 (by kernel_rfl)
   simp only [List.getElem?_toArray, List.getElem?_cons_succ, List.getElem?_cons_zero, Option.getD_some] at z1
   refine obl_val rfl (wanted_none rfl) ?_ rfl
   go_simp
  | 11, _, _ =>
   have s10 : a.tmps[37]?.getD undef = (.pointer (some ⟨b1, 6, none⟩)) := hd 10 (Nat.le_of_ble_eq_true rfl) (by kernel_rfl)
   have hbk : W.heap[b1]? = some (.cells V 53 (0, 0)) := by match m, hI with | 0, hI => exact hI.blk | n + 1, hI => exact hI.blk
   obtain ⟨c0, c1, c2, c3, c4, c5, c6, c7, c8, c9, c10, c11, c12, c13, c14, c15, c16, c17, c18, c19, c20, c21⟩ := HCV.out W hbk
   refine obl_val rfl (wanted_none rfl) ?_ rfl
   go_simp
  | 12, _, hn => exact absurd hn (by decide)
  | 13, _, _ =>
   have z1 := hc.same 1 (by kernel_rfl)
   simp only [List.getElem?_toArray, List.getElem?_cons_succ, List.getElem?_cons_zero, Option.getD_some] at z1
   refine obl_val rfl (wanted_none rfl) ?_ rfl
   go_simp
  | 14, _, _ =>
   have s13 : a.tmps[40]?.getD undef = (.pointer (some ⟨b1, 4, none⟩)) := hd 13 (Nat.le_of_ble_eq_true rfl) (by kernel_rfl)
   have hbk : W.heap[b1]? = some (.cells V 53 (0, 0)) := by match m, hI with | 0, hI => exact hI.blk | n + 1, hI => exact hI.blk
   obtain ⟨c0, c1, c2, c3, c4, c5, c6, c7, c8, c9, c10, c11, c12, c13, c14, c15, c16, c17, c18, c19, c20, c21⟩ := HCV.out W hbk
   refine obl_val rfl (wanted_none rfl) ?_ rfl
   go_simp
  | 15, _, hn => exact absurd hn (by decide)
  | 16, _, hn => exact absurd hn (by decide)
  | n + 17, h, _ => exact absurd h (by simp)
 ·match k, hk with
  | 0, _ =>
   have hI : (fun k x W => match k with | 0 => DS w2 (.slice none 0 0) w2.heap.size b1 V 53 (numL c.kind) x W | k + 1 => DS w2 (.slice none 0 0) w2.heap.size b1 V 53 (numL c.kind ++ (([textL c.cty, numL c.cat, numL c.day, numL c.til, numL c.bp] : List (List UInt8)).take k).flatten) x W) 0 (a.tmps[4]?.getD undef) W := hI
   have hI : DS w2 (.slice none 0 0) w2.heap.size b1 V 53 (numL c.kind) (a.tmps[4]?.getD undef) W := hI
   generalize hx : a.tmps[4]?.getD undef = x at hI
   refine obl_callV rfl (wanted_none rfl) (v := x) (by go_simp) ⟨rfl, trivial, ?_⟩
   simpa [List.take] using hI
  | 1, _ =>
   have s2 : a.tmps[29]?.getD undef = (.string c.cty) := hd 2 (Nat.le_of_ble_eq_true rfl) (by kernel_rfl)
   have hI : (fun k x W => match k with | 0 => DS w2 (.slice none 0 0) w2.heap.size b1 V 53 (numL c.kind) x W | k + 1 => DS w2 (.slice none 0 0) w2.heap.size b1 V 53 (numL c.kind ++ (([textL c.cty, numL c.cat, numL c.day, numL c.til, numL c.bp] : List (List UInt8)).take k).flatten) x W) 1 (a.tmps[27]?.getD undef) W := hI
   have hI : DS w2 (.slice none 0 0) w2.heap.size b1 V 53 (numL c.kind ++ (([textL c.cty, numL c.cat, numL c.day, numL c.til, numL c.bp] : List (List UInt8)).take 0).flatten) (a.tmps[27]?.getD undef) W := hI
   generalize hx : a.tmps[27]?.getD undef = x at hI
   refine obl_callK rfl (wanted_none rfl) (by go_simp) (btext_any hI.own hI.le c.cty HFIT.out.cty (by simp; have := HKL.out; omega)) ?_
   rintro e w9 ⟨x9, rfl, ho9, hs9⟩
   exact ⟨_, rfl, _, rfl, trivial, hI.call (by decide) (by simpa [List.take] using ho9) hs9⟩
  | 2, _ =>
   have s5 : a.tmps[32]?.getD undef = (.int .i64 c.cat) := hd 5 (Nat.le_of_ble_eq_true rfl) (by kernel_rfl)
   have hI : (fun k x W => match k with | 0 => DS w2 (.slice none 0 0) w2.heap.size b1 V 53 (numL c.kind) x W | k + 1 => DS w2 (.slice none 0 0) w2.heap.size b1 V 53 (numL c.kind ++ (([textL c.cty, numL c.cat, numL c.day, numL c.til, numL c.bp] : List (List UInt8)).take k).flatten) x W) 2 (a.tmps[30]?.getD undef) W := hI
   have hI : DS w2 (.slice none 0 0) w2.heap.size b1 V 53 (numL c.kind ++ (([textL c.cty, numL c.cat, numL c.day, numL c.til, numL c.bp] : List (List UInt8)).take 1).flatten) (a.tmps[30]?.getD undef) W := hI
   generalize hx : a.tmps[30]?.getD undef = x at hI
   refine obl_callK rfl (wanted_none rfl) (by go_simp) (bnum_any hI.own hI.le c.cat HFIT.out.cat.1 HFIT.out.cat.2 (by simp; have := HKL.out; have := textL_len _ HFIT.out.cty; omega)) ?_
   rintro e w9 ⟨x9, rfl, ho9, hs9⟩
   exact ⟨_, rfl, _, rfl, trivial, hI.call (by decide) (by simpa [List.take] using ho9) hs9⟩
  | 3, _ =>
   have s8 : a.tmps[35]?.getD undef = (.int .i64 c.day) := hd 8 (Nat.le_of_ble_eq_true rfl) (by kernel_rfl)
   have hI : (fun k x W => match k with | 0 => DS w2 (.slice none 0 0) w2.heap.size b1 V 53 (numL c.kind) x W | k + 1 => DS w2 (.slice none 0 0) w2.heap.size b1 V 53 (numL c.kind ++ (([textL c.cty, numL c.cat, numL c.day, numL c.til, numL c.bp] : List (List UInt8)).take k).flatten) x W) 3 (a.tmps[33]?.getD undef) W := hI
   have hI : DS w2 (.slice none 0 0) w2.heap.size b1 V 53 (numL c.kind ++ (([textL c.cty, numL c.cat, numL c.day, numL c.til, numL c.bp] : List (List UInt8)).take 2).flatten) (a.tmps[33]?.getD undef) W := hI
   generalize hx : a.tmps[33]?.getD undef = x at hI
   refine obl_callK rfl (wanted_none rfl) (by go_simp) (bnum_any hI.own hI.le c.day HFIT.out.day.1 HFIT.out.day.2 (by simp; have := HKL.out; have := textL_len _ HFIT.out.cty; have := numL_len' _ HFIT.out.cat; omega)) ?_
   rintro e w9 ⟨x9, rfl, ho9, hs9⟩
   exact ⟨_, rfl, _, rfl, trivial, hI.call (by decide) (by simpa [List.take] using ho9) hs9⟩
  | 4, _ =>
   have s11 : a.tmps[38]?.getD undef = (.int .i64 c.til) := hd 11 (Nat.le_of_ble_eq_true rfl) (by kernel_rfl)
   have hI : (fun k x W => match k with | 0 => DS w2 (.slice none 0 0) w2.heap.size b1 V 53 (numL c.kind) x W | k + 1 => DS w2 (.slice none 0 0) w2.heap.size b1 V 53 (numL c.kind ++ (([textL c.cty, numL c.cat, numL c.day, numL c.til, numL c.bp] : List (List UInt8)).take k).flatten) x W) 4 (a.tmps[36]?.getD undef) W := hI
   have hI : DS w2 (.slice none 0 0) w2.heap.size b1 V 53 (numL c.kind ++ (([textL c.cty, numL c.cat, numL c.day, numL c.til, numL c.bp] : List (List UInt8)).take 3).flatten) (a.tmps[36]?.getD undef) W := hI
   generalize hx : a.tmps[36]?.getD undef = x at hI
   refine obl_callK rfl (wanted_none rfl) (by go_simp) (bnum_any hI.own hI.le c.til HFIT.out.til.1 HFIT.out.til.2 (by simp; have := HKL.out; have := textL_len _ HFIT.out.cty; have := numL_len' _ HFIT.out.cat; have := numL_len' _ HFIT.out.day; omega)) ?_
   rintro e w9 ⟨x9, rfl, ho9, hs9⟩
   exact ⟨_, rfl, _, rfl, trivial, hI.call (by decide) (by simpa [List.take] using ho9) hs9⟩
  | 5, _ =>
   have s14 : a.tmps[41]?.getD undef = (.int .i64 c.bp) := hd 14 (Nat.le_of_ble_eq_true rfl) (by kernel_rfl)
   have hI : (fun k x W => match k with | 0 => DS w2 (.slice none 0 0) w2.heap.size b1 V 53 (numL c.kind) x W | k + 1 => DS w2 (.slice none 0 0) w2.heap.size b1 V 53 (numL c.kind ++ (([textL c.cty, numL c.cat, numL c.day, numL c.til, numL c.bp] : List (List UInt8)).take k).flatten) x W) 5 (a.tmps[39]?.getD undef) W := hI
   have hI : DS w2 (.slice none 0 0) w2.heap.size b1 V 53 (numL c.kind ++ (([textL c.cty, numL c.cat, numL c.day, numL c.til, numL c.bp] : List (List UInt8)).take 4).flatten) (a.tmps[39]?.getD undef) W := hI
   generalize hx : a.tmps[39]?.getD undef = x at hI
   refine obl_callK rfl (wanted_none rfl) (by go_simp) (bnum_any hI.own hI.le c.bp HFIT.out.bp.1 HFIT.out.bp.2 (by simp; have := HKL.out; have := textL_len _ HFIT.out.cty; have := numL_len' _ HFIT.out.cat; have := numL_len' _ HFIT.out.day; have := numL_len' _ HFIT.out.til; omega)) ?_
   rintro e w9 ⟨x9, rfl, ho9, hs9⟩
   exact ⟨_, rfl, _, rfl, trivial, hI.call (by decide) (by simpa [List.take] using ho9) hs9⟩
  | 6, _ =>
   have hI : (fun k x W => match k with | 0 => DS w2 (.slice none 0 0) w2.heap.size b1 V 53 (numL c.kind) x W | k + 1 => DS w2 (.slice none 0 0) w2.heap.size b1 V 53 (numL c.kind ++ (([textL c.cty, numL c.cat, numL c.day, numL c.til, numL c.bp] : List (List UInt8)).take k).flatten) x W) 6 (a.tmps[42]?.getD undef) W := hI
   have hI : DS w2 (.slice none 0 0) w2.heap.size b1 V 53 (numL c.kind ++ (([textL c.cty, numL c.cat, numL c.day, numL c.til, numL c.bp] : List (List UInt8)).take 5).flatten) (a.tmps[42]?.getD undef) W := hI
   generalize hx : a.tmps[42]?.getD undef = x at hI
   refine obl_callV rfl (wanted_none rfl) (v := x) (by go_simp) ⟨rfl, trivial, ?_⟩
   simpa [List.take] using hI
  | n + 7, h => exact absurd h (by simp)
 ·skip
  have hI' : (fun k x W => match k with | 0 => DS w2 (.slice none 0 0) w2.heap.size b1 V 53 (numL c.kind) x W | k + 1 => DS w2 (.slice none 0 0) w2.heap.size b1 V 53 (numL c.kind ++ (([textL c.cty, numL c.cat, numL c.day, numL c.til, numL c.bp] : List (List UInt8)).take k).flatten) x W) 7 (a.tmps[4]?.getD undef) wz := hI
  have hfr := grow_frame hc [(27, a.tmps[27]?.getD undef), (28, (.pointer (some ⟨b1, 1, none⟩))), (29, (.string c.cty)), (30, a.tmps[30]?.getD undef), (31, (.pointer (some ⟨b1, 3, none⟩))), (32, (.int .i64 c.cat)), (33, a.tmps[33]?.getD undef), (34, (.pointer (some ⟨b1, 5, none⟩))), (35, (.int .i64 c.day)), (36, a.tmps[36]?.getD undef), (37, (.pointer (some ⟨b1, 6, none⟩))), (38, (.int .i64 c.til)), (39, a.tmps[39]?.getD undef), (40, (.pointer (some ⟨b1, 4, none⟩))), (41, (.int .i64 c.bp)), (42, a.tmps[42]?.getD undef), (4, a.tmps[4]?.getD undef)] (by kernel_rfl) (fun p hp => by
    simp only [List.mem_cons, List.not_mem_nil, or_false] at hp
    rcases hp with rfl | rfl | rfl | rfl | rfl | rfl | rfl | rfl | rfl | rfl | rfl | rfl | rfl | rfl | rfl | rfl | rfl
    ·rfl
    ·exact hs 1 28 (by decide) (by kernel_rfl)
    ·exact hs 2 29 (by decide) (by kernel_rfl)
    ·rfl
    ·exact hs 4 31 (by decide) (by kernel_rfl)
    ·exact hs 5 32 (by decide) (by kernel_rfl)
    ·rfl
    ·exact hs 7 34 (by decide) (by kernel_rfl)
    ·exact hs 8 35 (by decide) (by kernel_rfl)
    ·rfl
    ·exact hs 10 37 (by decide) (by kernel_rfl)
    ·exact hs 11 38 (by decide) (by kernel_rfl)
    ·rfl
    ·exact hs 13 40 (by decide) (by kernel_rfl)
    ·exact hs 14 41 (by decide) (by kernel_rfl)
    ·rfl
    ·rfl
    )
  generalize a.tmps[27]?.getD undef = z27 at hfr
  generalize a.tmps[30]?.getD undef = z30 at hfr
  generalize a.tmps[33]?.getD undef = z33 at hfr
  generalize a.tmps[36]?.getD undef = z36 at hfr
  generalize a.tmps[39]?.getD undef = z39 at hfr
  generalize a.tmps[42]?.getD undef = z42 at hfr
  generalize a.tmps[4]?.getD undef = z4 at hfr hI'
  simp only [List.range, List.range.loop, List.size_toArray, List.length_cons, List.length_nil, List.map_cons, List.map_nil, List.lookup_cons, List.lookup_nil, Nat.reduceAdd, Nat.reduceBEq, Option.getD_some, Option.getD_none, List.getElem?_toArray, List.getElem?_cons_succ, List.getElem?_cons_zero] at hfr
  subst hfr
  generalize z4 = xz at *
  have HDZ := Lib.hid (show DS w2 (.slice none 0 0) w2.heap.size b1 V 53 (numL c.kind ++ ([textL c.cty, numL c.cat, numL c.day, numL c.til, numL c.bp] : List (List UInt8)).flatten) xz wz by simpa [List.take] using hI')
  clear hc hs hI hI'
  go_wp2
  have hk := HK.out
  have hbo : bodyL c = ([textL c.cty, numL c.cat, numL c.day, numL c.til, numL c.bp] : List (List UInt8)).flatten := by rw [bodyL, if_neg (by rw [hk]; decide), if_pos hk]
  have hoz := HDZ.out.own
  rw [← hbo] at hoz
  have HOZ := Lib.hid hoz
  have hbf := HB1.out.trans ((HB2.out.trans ((HDZ.out.st.low (Own.nil_ _ _) (Nat.le_refl _) (Nat.le_refl _)).mono HB2.out.size)).mono HB1.out.size)
  have HBF := Lib.hid hbf
  clear hbo hoz hbf hk
  go_ret2
  exact ⟨.inr ⟨HG.out, xz, rfl, HOZ.out.more (Nat.le_trans HB1.out.size HB2.out.size)⟩, HBF.out⟩
set_option maxRecDepth 100000 in
set_option maxHeartbeats 16000000 in
theorem renc_k3 {w : World} {B : Nat} {v : Value} {c : Cm} (hv : CmV w B v c) (hB : B ≤ w.heap.size) (hl : c.doc.ls.length ≤ 100000) (hk : c.kind = 3) (hG : goodCB c = true) :
  Calls Try.prog 32 #[v] w (EncPost c w) := by
 obtain ⟨A0, m0, V, rfl, HV, HV2, HVI, HB1, HX1, HLS, HOK⟩ := cmd_pre hv hB
 clear hv
 have hgd := rgood_any (c := c) ⟨.slice A0 c.doc.ls.length m0, by rw [HV.out], HLS.out _ HB1.out, HOK.out⟩ (Nat.le_trans hB HB1.out.size) hl
 rw [hG] at hgd
 have HG := Lib.hid hG
 clear hG
 go_enter Try.func32, Try.ntmps32
 go_upto_region 1 with fail
 generalize World.alloc w _ = w1 at *
 generalize hb : w.heap.size = b1 at HX1 ⊢
 have HBB := Lib.hid hb
 clear hb
 have HXV := Lib.hid (loadV HX1.out HV.out)
 have hfit := good_fit HG.out
 have HFIT := Lib.hid hfit
 have HCV := Lib.hid (show ∀ W, W.heap[b1]? = some (.cells V 53 (0, 0)) → CBox W b1 c (.slice A0 c.doc.ls.length m0) from fun W hW => CBlk.box (by unfold CBlk; rw [HV.out]; exact hW))
 have HK := Lib.hid hk
 clear hfit hk
 go_upto_region 3 with (first
  | (with_reducible refine wpList_load_row rfl 53 (.tmp 1) rfl b1 rfl 53 V (0, 0) _ HXV.out Try.underlying53 rfl HVI.out ?_)
  | (go_at_call 27; (with_reducible refine hgd.mono ?_); rintro e w2 ⟨rfl, hb2⟩; have HB2 := Lib.hid hb2; clear hb2 hgd))
 have HD2 := Lib.hid (show DS w2 (.slice none 0 0) w2.heap.size b1 V 53 [] (.slice none 0 0) w2 from ⟨Own.nil_ _ _, AStep.refl _ _, (HB2.out.block b1 (lt_of_blk HXV.out)).trans HXV.out, Nat.le_refl _⟩)
 have hq := bnum_any HD2.out.own HD2.out.le c.kind HFIT.out.kind.1 HFIT.out.kind.2 (by simp)
 have c0 := (HCV.out w2 HD2.out.blk).c0
 go_upto_region 4 with (go_at_call 68; (with_reducible refine hq.mono ?_); rintro e w8 ⟨X, rfl, hox, hsx⟩; have HD8 := Lib.hid (HD2.out.call (l' := numL c.kind) (by decide) (by simpa using hox) hsx); clear hq hox hsx c0; have c0 := (HCV.out w8 HD8.out.blk).c0)
 rw [HK.out] at c0
 have HKL := Lib.hid (numL_len' _ HFIT.out.kind)
 clear HD2
 go_upto_region 10 with fail
 refine wp_region_chainT (by kernel_rfl) [none, some (.pointer (some ⟨b1, 5, none⟩)), some (.int .i64 c.day), none, some (.pointer (some ⟨b1, 6, none⟩)), some (.int .i64 c.til), none, none] [0, 3, 6, 7] (fun k x W => match k with | 0 => DS w2 (.slice none 0 0) w2.heap.size b1 V 53 (numL c.kind) x W | k + 1 => DS w2 (.slice none 0 0) w2.heap.size b1 V 53 (numL c.kind ++ (([numL c.day, numL c.til] : List (List UInt8)).take k).flatten) x W) 4 (by kernel_rfl) (by kernel_rfl) (by kernel_rfl) (by kernel_rfl) (by kernel_rfl) (fun m x W W' h hb => by match m, h with | 0, h => exact h.below hb | n + 1, h => exact h.below hb) HD8.out (fun i hi hn m a W hc hI hd => ?_) (fun k hk a W hc hI hd => ?_) (fun a wz hc hI hs => ?_)
 ·match i, hi, hn with
  | 0, _, hn => exact absurd hn (by decide)
  | 1, _, _ =>
   have z1 := hc.same 1 (by kernel_rfl)
   simp only [List.getElem?_toArray, List.getElem?_cons_succ, List.getElem?_cons_zero, Option.getD_some] at z1
   refine obl_val rfl (wanted_none rfl) ?_ rfl
   go_simp
  | 2, _, _ =>
   have s1 : a.tmps[46]?.getD undef = (.pointer (some ⟨b1, 5, none⟩)) := hd 1 (Nat.le_of_ble_eq_true rfl) (by kernel_rfl)
   have hbk : W.heap[b1]? = some (.cells V 53 (0, 0)) := by match m, hI with | 0, hI => exact hI.blk | n + 1, hI => exact hI.blk
   obtain ⟨c0, c1, c2, c3, c4, c5, c6, c7, c8, c9, c10, c11, c12, c13, c14, c15, c16, c17, c18, c19, c20, c21⟩ := HCV.out W hbk
   refine obl_val rfl (wanted_none rfl) ?_ rfl
   go_simp
  | 3, _, hn => exact absurd hn (by decide)
  | 4, _, _ =>
   have z1 := hc.same 1 (by kernel_rfl)
   simp only [List.getElem?_toArray, List.getElem?_cons_succ, List.getElem?_cons_zero, Option.getD_some] at z1
   refine obl_val rfl (wanted_none rfl) ?_ rfl
   go_simp
  | 5, _, _ =>
   have s4 : a.tmps[49]?.getD undef = (.pointer (some ⟨b1, 6, none⟩)) := hd 4 (Nat.le_of_ble_eq_true rfl) (by kernel_rfl)
   have hbk : W.heap[b1]? = some (.cells V 53 (0, 0)) := by match m, hI with | 0, hI => exact hI.blk | n + 1, hI => exact hI.blk
   obtain ⟨c0, c1, c2, c3, c4, c5, c6, c7, c8, c9, c10, c11, c12, c13, c14, c15, c16, c17, c18, c19, c20, c21⟩ := HCV.out W hbk
   refine obl_val rfl (wanted_none rfl) ?_ rfl
   go_simp
  | 6, _, hn => exact absurd hn (by decide)
  | 7, _, hn => exact absurd hn (by decide)
  | n + 8, h, _ => exact absurd h (by simp)
 ·match k, hk with
  | 0, _ =>
   have hI : (fun k x W => match k with | 0 => DS w2 (.slice none 0 0) w2.heap.size b1 V 53 (numL c.kind) x W | k + 1 => DS w2 (.slice none 0 0) w2.heap.size b1 V 53 (numL c.kind ++ (([numL c.day, numL c.til] : List (List UInt8)).take k).flatten) x W) 0 (a.tmps[4]?.getD undef) W := hI
   have hI : DS w2 (.slice none 0 0) w2.heap.size b1 V 53 (numL c.kind) (a.tmps[4]?.getD undef) W := hI
   generalize hx : a.tmps[4]?.getD undef = x at hI
   refine obl_callV rfl (wanted_none rfl) (v := x) (by go_simp) ⟨rfl, trivial, ?_⟩
   simpa [List.take] using hI
  | 1, _ =>
   have s2 : a.tmps[47]?.getD undef = (.int .i64 c.day) := hd 2 (Nat.le_of_ble_eq_true rfl) (by kernel_rfl)
   have hI : (fun k x W => match k with | 0 => DS w2 (.slice none 0 0) w2.heap.size b1 V 53 (numL c.kind) x W | k + 1 => DS w2 (.slice none 0 0) w2.heap.size b1 V 53 (numL c.kind ++ (([numL c.day, numL c.til] : List (List UInt8)).take k).flatten) x W) 1 (a.tmps[45]?.getD undef) W := hI
   have hI : DS w2 (.slice none 0 0) w2.heap.size b1 V 53 (numL c.kind ++ (([numL c.day, numL c.til] : List (List UInt8)).take 0).flatten) (a.tmps[45]?.getD undef) W := hI
   generalize hx : a.tmps[45]?.getD undef = x at hI
   refine obl_callK rfl (wanted_none rfl) (by go_simp) (bnum_any hI.own hI.le c.day HFIT.out.day.1 HFIT.out.day.2 (by simp; have := HKL.out; omega)) ?_
   rintro e w9 ⟨x9, rfl, ho9, hs9⟩
   exact ⟨_, rfl, _, rfl, trivial, hI.call (by decide) (by simpa [List.take] using ho9) hs9⟩
  | 2, _ =>
   have s5 : a.tmps[50]?.getD undef = (.int .i64 c.til) := hd 5 (Nat.le_of_ble_eq_true rfl) (by kernel_rfl)
   have hI : (fun k x W => match k with | 0 => DS w2 (.slice none 0 0) w2.heap.size b1 V 53 (numL c.kind) x W | k + 1 => DS w2 (.slice none 0 0) w2.heap.size b1 V 53 (numL c.kind ++ (([numL c.day, numL c.til] : List (List UInt8)).take k).flatten) x W) 2 (a.tmps[48]?.getD undef) W := hI
   have hI : DS w2 (.slice none 0 0) w2.heap.size b1 V 53 (numL c.kind ++ (([numL c.day, numL c.til] : List (List UInt8)).take 1).flatten) (a.tmps[48]?.getD undef) W := hI
   generalize hx : a.tmps[48]?.getD undef = x at hI
   refine obl_callK rfl (wanted_none rfl) (by go_simp) (bnum_any hI.own hI.le c.til HFIT.out.til.1 HFIT.out.til.2 (by simp; have := HKL.out; have := numL_len' _ HFIT.out.day; omega)) ?_
   rintro e w9 ⟨x9, rfl, ho9, hs9⟩
   exact ⟨_, rfl, _, rfl, trivial, hI.call (by decide) (by simpa [List.take] using ho9) hs9⟩
  | 3, _ =>
   have hI : (fun k x W => match k with | 0 => DS w2 (.slice none 0 0) w2.heap.size b1 V 53 (numL c.kind) x W | k + 1 => DS w2 (.slice none 0 0) w2.heap.size b1 V 53 (numL c.kind ++ (([numL c.day, numL c.til] : List (List UInt8)).take k).flatten) x W) 3 (a.tmps[51]?.getD undef) W := hI
   have hI : DS w2 (.slice none 0 0) w2.heap.size b1 V 53 (numL c.kind ++ (([numL c.day, numL c.til] : List (List UInt8)).take 2).flatten) (a.tmps[51]?.getD undef) W := hI
   generalize hx : a.tmps[51]?.getD undef = x at hI
   refine obl_callV rfl (wanted_none rfl) (v := x) (by go_simp) ⟨rfl, trivial, ?_⟩
   simpa [List.take] using hI
  | n + 4, h => exact absurd h (by simp)
 ·skip
  have hI' : (fun k x W => match k with | 0 => DS w2 (.slice none 0 0) w2.heap.size b1 V 53 (numL c.kind) x W | k + 1 => DS w2 (.slice none 0 0) w2.heap.size b1 V 53 (numL c.kind ++ (([numL c.day, numL c.til] : List (List UInt8)).take k).flatten) x W) 4 (a.tmps[4]?.getD undef) wz := hI
  have hfr := grow_frame hc [(45, a.tmps[45]?.getD undef), (46, (.pointer (some ⟨b1, 5, none⟩))), (47, (.int .i64 c.day)), (48, a.tmps[48]?.getD undef), (49, (.pointer (some ⟨b1, 6, none⟩))), (50, (.int .i64 c.til)), (51, a.tmps[51]?.getD undef), (4, a.tmps[4]?.getD undef)] (by kernel_rfl) (fun p hp => by
    simp only [List.mem_cons, List.not_mem_nil, or_false] at hp
    rcases hp with rfl | rfl | rfl | rfl | rfl | rfl | rfl | rfl
    ·rfl
    ·exact hs 1 46 (by decide) (by kernel_rfl)
    ·exact hs 2 47 (by decide) (by kernel_rfl)
    ·rfl
    ·exact hs 4 49 (by decide) (by kernel_rfl)
    ·exact hs 5 50 (by decide) (by kernel_rfl)
    ·rfl
    ·rfl
    )
  generalize a.tmps[45]?.getD undef = z45 at hfr
  generalize a.tmps[48]?.getD undef = z48 at hfr
  generalize a.tmps[51]?.getD undef = z51 at hfr
  generalize a.tmps[4]?.getD undef = z4 at hfr hI'
  simp only [List.range, List.range.loop, List.size_toArray, List.length_cons, List.length_nil, List.map_cons, List.map_nil, List.lookup_cons, List.lookup_nil, Nat.reduceAdd, Nat.reduceBEq, Option.getD_some, Option.getD_none, List.getElem?_toArray, List.getElem?_cons_succ, List.getElem?_cons_zero] at hfr
  subst hfr
  generalize z4 = xz at *
  have HDZ := Lib.hid (show DS w2 (.slice none 0 0) w2.heap.size b1 V 53 (numL c.kind ++ ([numL c.day, numL c.til] : List (List UInt8)).flatten) xz wz by simpa [List.take] using hI')
  clear hc hs hI hI'
  go_wp2
  have hk := HK.out
  have hbo : bodyL c = ([numL c.day, numL c.til] : List (List UInt8)).flatten := by rw [bodyL, if_neg (by rw [hk]; decide), if_neg (by rw [hk]; decide), if_pos hk]
  have hoz := HDZ.out.own
  rw [← hbo] at hoz
  have HOZ := Lib.hid hoz
  have hbf := HB1.out.trans ((HB2.out.trans ((HDZ.out.st.low (Own.nil_ _ _) (Nat.le_refl _) (Nat.le_refl _)).mono HB2.out.size)).mono HB1.out.size)
  have HBF := Lib.hid hbf
  clear hbo hoz hbf hk
  go_ret2
  exact ⟨.inr ⟨HG.out, xz, rfl, HOZ.out.more (Nat.le_trans HB1.out.size HB2.out.size)⟩, HBF.out⟩
set_option maxRecDepth 100000 in
set_option maxHeartbeats 16000000 in
theorem renc_k4 {w : World} {B : Nat} {v : Value} {c : Cm} (hv : CmV w B v c) (hB : B ≤ w.heap.size) (hl : c.doc.ls.length ≤ 100000) (hk : c.kind = 4) (hG : goodCB c = true) :
  Calls Try.prog 32 #[v] w (EncPost c w) := by
 obtain ⟨A0, m0, V, rfl, HV, HV2, HVI, HB1, HX1, HLS, HOK⟩ := cmd_pre hv hB
 clear hv
 have hgd := rgood_any (c := c) ⟨.slice A0 c.doc.ls.length m0, by rw [HV.out], HLS.out _ HB1.out, HOK.out⟩ (Nat.le_trans hB HB1.out.size) hl
 rw [hG] at hgd
 have HG := Lib.hid hG
 clear hG
 go_enter Try.func32, Try.ntmps32
 go_upto_region 1 with fail
 generalize World.alloc w _ = w1 at *
 generalize hb : w.heap.size = b1 at HX1 ⊢
 have HBB := Lib.hid hb
 clear hb
 have HXV := Lib.hid (loadV HX1.out HV.out)
 have hfit := good_fit HG.out
 have HFIT := Lib.hid hfit
 have HCV := Lib.hid (show ∀ W, W.heap[b1]? = some (.cells V 53 (0, 0)) → CBox W b1 c (.slice A0 c.doc.ls.length m0) from fun W hW => CBlk.box (by unfold CBlk; rw [HV.out]; exact hW))
 have HK := Lib.hid hk
 clear hfit hk
 go_upto_region 3 with (first
  | (with_reducible refine wpList_load_row rfl 53 (.tmp 1) rfl b1 rfl 53 V (0, 0) _ HXV.out Try.underlying53 rfl HVI.out ?_)
  | (go_at_call 27; (with_reducible refine hgd.mono ?_); rintro e w2 ⟨rfl, hb2⟩; have HB2 := Lib.hid hb2; clear hb2 hgd))
 have HD2 := Lib.hid (show DS w2 (.slice none 0 0) w2.heap.size b1 V 53 [] (.slice none 0 0) w2 from ⟨Own.nil_ _ _, AStep.refl _ _, (HB2.out.block b1 (lt_of_blk HXV.out)).trans HXV.out, Nat.le_refl _⟩)
 have hq := bnum_any HD2.out.own HD2.out.le c.kind HFIT.out.kind.1 HFIT.out.kind.2 (by simp)
 have c0 := (HCV.out w2 HD2.out.blk).c0
 go_upto_region 4 with (go_at_call 68; (with_reducible refine hq.mono ?_); rintro e w8 ⟨X, rfl, hox, hsx⟩; have HD8 := Lib.hid (HD2.out.call (l' := numL c.kind) (by decide) (by simpa using hox) hsx); clear hq hox hsx c0; have c0 := (HCV.out w8 HD8.out.blk).c0)
 rw [HK.out] at c0
 have HKL := Lib.hid (numL_len' _ HFIT.out.kind)
 clear HD2
 go_upto_region 12 with fail
 refine wp_region_chainT (by kernel_rfl) [none, some (.pointer (some ⟨b1, 1, none⟩)), some (.string c.cty), none, some (.pointer (some ⟨b1, 2, none⟩)), some (.string c.txt), none, some (.pointer (some ⟨b1, 5, none⟩)), some (.int .i64 c.day), none, some (.pointer (some ⟨b1, 6, none⟩)), some (.int .i64 c.til), none, none] [0, 3, 6, 9, 12, 13] (fun k x W => match k with | 0 => DS w2 (.slice none 0 0) w2.heap.size b1 V 53 (numL c.kind) x W | k + 1 => DS w2 (.slice none 0 0) w2.heap.size b1 V 53 (numL c.kind ++ (([textL c.cty, textL c.txt, numL c.day, numL c.til] : List (List UInt8)).take k).flatten) x W) 4 (by kernel_rfl) (by kernel_rfl) (by kernel_rfl) (by kernel_rfl) (by kernel_rfl) (fun m x W W' h hb => by match m, h with | 0, h => exact h.below hb | n + 1, h => exact h.below hb) HD8.out (fun i hi hn m a W hc hI hd => ?_) (fun k hk a W hc hI hd => ?_) (fun a wz hc hI hs => ?_)
 ·match i, hi, hn with
  | 0, _, hn => exact absurd hn (by decide)
  | 1, _, _ =>
   have z1 := hc.same 1 (by kernel_rfl)
   simp only [List.getElem?_toArray, List.getElem?_cons_succ, List.getElem?_cons_zero, Option.getD_some] at z1
   refine obl_val rfl (wanted_none rfl) ?_ rfl
   go_simp
  | 2, _, _ =>
   have s1 : a.tmps[55]?.getD undef = (.pointer (some ⟨b1, 1, none⟩)) := hd 1 (Nat.le_of_ble_eq_true rfl) (by kernel_rfl)
   have hbk : W.heap[b1]? = some (.cells V 53 (0, 0)) := by match m, hI with | 0, hI => exact hI.blk | n + 1, hI => exact hI.blk
   obtain ⟨c0, c1, c2, c3, c4, c5, c6, c7, c8, c9, c10, c11, c12, c13, c14, c15, c16, c17, c18, c19, c20, c21⟩ := HCV.out W hbk
   refine obl_val rfl (wanted_none rfl) ?_ rfl
   go_simp
  | 3, _, hn => exact absurd hn (by decide)
  | 4, _, _ =>
   have z1 := hc.same 1 (by kernel_rfl)
   simp only [List.getElem?_toArray, List.getElem?_cons_succ, List.getElem?_cons_zero, Option.getD_some] at z1
   refine obl_val rfl (wanted_none rfl) ?_ rfl
   go_simp
  | 5, _, _ =>
   have s4 : a.tmps[58]?.getD undef = (.pointer (some ⟨b1, 2, none⟩)) := hd 4 (Nat.le_of_ble_eq_true rfl) (by kernel_rfl)
   have hbk : W.heap[b1]? = some (.cells V 53 (0, 0)) := by match m, hI with | 0, hI => exact hI.blk | n + 1, hI => exact hI.blk
   obtain ⟨c0, c1, c2, c3, c4, c5, c6, c7, c8, c9, c10, c11, c12, c13, c14, c15, c16, c17, c18, c19, c20, c21⟩ := HCV.out W hbk
   refine obl_val rfl (wanted_none rfl) ?_ rfl
   go_simp
  | 6, _, hn => exact absurd hn (by decide)
  | 7, _, _ =>
   have z1 := hc.same 1 (by kernel_rfl)
   simp only [List.getElem?_toArray, List.getElem?_cons_succ, List.getElem?_cons_zero, Option.getD_some] at z1
   refine obl_val rfl (wanted_none rfl) ?_ rfl
   go_simp
  | 8, _, _ =>
   have s7 : a.tmps[61]?.getD undef = (.pointer (some ⟨b1, 5, none⟩)) := hd 7 (Nat.le_of_ble_eq_true rfl) (by kernel_rfl)
   have hbk : W.heap[b1]? = some (.cells V 53 (0, 0)) := by match m, hI with | 0, hI => exact hI.blk | n + 1, hI => exact hI.blk
   obtain ⟨c0, c1, c2, c3, c4, c5, c6, c7, c8, c9, c10, c11, c12, c13, c14, c15, c16, c17, c18, c19, c20, c21⟩ := HCV.out W hbk
   refine obl_val rfl (wanted_none rfl) ?_ rfl
   go_simp
  | 9, _, hn => exact absurd hn (by decide)
  | 10, _, _ =>
   have z1 := hc.same 1 (by kernel_rfl)
   simp only [List.getElem?_toArray, List.getElem?_cons_succ, List.getElem?_cons_zero, Option.getD_some] at z1
   refine obl_val rfl (wanted_none rfl) ?_ rfl
   go_simp
  | 11, _, _ =>
   have s10 : a.tmps[64]?.getD undef = (.pointer (some ⟨b1, 6, none⟩)) := hd 10 (Nat.le_of_ble_eq_true rfl) (by kernel_rfl)
   have hbk : W.heap[b1]? = some (.cells V 53 (0, 0)) := by match m, hI with | 0, hI => exact hI.blk | n + 1, hI => exact hI.blk
   obtain ⟨c0, c1, c2, c3, c4, c5, c6, c7, c8, c9, c10, c11, c12, c13, c14, c15, c16, c17, c18, c19, c20, c21⟩ := HCV.out W hbk
   refine obl_val rfl (wanted_none rfl) ?_ rfl
   go_simp
  | 12, _, hn => exact absurd hn (by decide)
  | 13, _, hn => exact absurd hn (by decide)
  | n + 14, h, _ => exact absurd h (by simp)
 ·match k, hk with
  | 0, _ =>
   have hI : (fun k x W => match k with | 0 => DS w2 (.slice none 0 0) w2.heap.size b1 V 53 (numL c.kind) x W | k + 1 => DS w2 (.slice none 0 0) w2.heap.size b1 V 53 (numL c.kind ++ (([textL c.cty, textL c.txt, numL c.day, numL c.til] : List (List UInt8)).take k).flatten) x W) 0 (a.tmps[4]?.getD undef) W := hI
   have hI : DS w2 (.slice none 0 0) w2.heap.size b1 V 53 (numL c.kind) (a.tmps[4]?.getD undef) W := hI
   generalize hx : a.tmps[4]?.getD undef = x at hI
   refine obl_callV rfl (wanted_none rfl) (v := x) (by go_simp) ⟨rfl, trivial, ?_⟩
   simpa [List.take] using hI
  | 1, _ =>
   have s2 : a.tmps[56]?.getD undef = (.string c.cty) := hd 2 (Nat.le_of_ble_eq_true rfl) (by kernel_rfl)
   have hI : (fun k x W => match k with | 0 => DS w2 (.slice none 0 0) w2.heap.size b1 V 53 (numL c.kind) x W | k + 1 => DS w2 (.slice none 0 0) w2.heap.size b1 V 53 (numL c.kind ++ (([textL c.cty, textL c.txt, numL c.day, numL c.til] : List (List UInt8)).take k).flatten) x W) 1 (a.tmps[54]?.getD undef) W := hI
   have hI : DS w2 (.slice none 0 0) w2.heap.size b1 V 53 (numL c.kind ++ (([textL c.cty, textL c.txt, numL c.day, numL c.til] : List (List UInt8)).take 0).flatten) (a.tmps[54]?.getD undef) W := hI
   generalize hx : a.tmps[54]?.getD undef = x at hI
   refine obl_callK rfl (wanted_none rfl) (by go_simp) (btext_any hI.own hI.le c.cty HFIT.out.cty (by simp; have := HKL.out; omega)) ?_
   rintro e w9 ⟨x9, rfl, ho9, hs9⟩
   exact ⟨_, rfl, _, rfl, trivial, hI.call (by decide) (by simpa [List.take] using ho9) hs9⟩
  | 2, _ =>
   have s5 : a.tmps[59]?.getD undef = (.string c.txt) := hd 5 (Nat.le_of_ble_eq_true rfl) (by kernel_rfl)
   have hI : (fun k x W => match k with | 0 => DS w2 (.slice none 0 0) w2.heap.size b1 V 53 (numL c.kind) x W | k + 1 => DS w2 (.slice none 0 0) w2.heap.size b1 V 53 (numL c.kind ++ (([textL c.cty, textL c.txt, numL c.day, numL c.til] : List (List UInt8)).take k).flatten) x W) 2 (a.tmps[57]?.getD undef) W := hI
   have hI : DS w2 (.slice none 0 0) w2.heap.size b1 V 53 (numL c.kind ++ (([textL c.cty, textL c.txt, numL c.day, numL c.til] : List (List UInt8)).take 1).flatten) (a.tmps[57]?.getD undef) W := hI
   generalize hx : a.tmps[57]?.getD undef = x at hI
   refine obl_callK rfl (wanted_none rfl) (by go_simp) (btext_any hI.own hI.le c.txt HFIT.out.txt (by simp; have := HKL.out; have := textL_len _ HFIT.out.cty; omega)) ?_
   rintro e w9 ⟨x9, rfl, ho9, hs9⟩
   exact ⟨_, rfl, _, rfl, trivial, hI.call (by decide) (by simpa [List.take] using ho9) hs9⟩
  | 3, _ =>
   have s8 : a.tmps[62]?.getD undef = (.int .i64 c.day) := hd 8 (Nat.le_of_ble_eq_true rfl) (by kernel_rfl)
   have hI : (fun k x W => match k with | 0 => DS w2 (.slice none 0 0) w2.heap.size b1 V 53 (numL c.kind) x W | k + 1 => DS w2 (.slice none 0 0) w2.heap.size b1 V 53 (numL c.kind ++ (([textL c.cty, textL c.txt, numL c.day, numL c.til] : List (List UInt8)).take k).flatten) x W) 3 (a.tmps[60]?.getD undef) W := hI
   have hI : DS w2 (.slice none 0 0) w2.heap.size b1 V 53 (numL c.kind ++ (([textL c.cty, textL c.txt, numL c.day, numL c.til] : List (List UInt8)).take 2).flatten) (a.tmps[60]?.getD undef) W := hI
   generalize hx : a.tmps[60]?.getD undef = x at hI
   refine obl_callK rfl (wanted_none rfl) (by go_simp) (bnum_any hI.own hI.le c.day HFIT.out.day.1 HFIT.out.day.2 (by simp; have := HKL.out; have := textL_len _ HFIT.out.cty; have := textL_len _ HFIT.out.txt; omega)) ?_
   rintro e w9 ⟨x9, rfl, ho9, hs9⟩
   exact ⟨_, rfl, _, rfl, trivial, hI.call (by decide) (by simpa [List.take] using ho9) hs9⟩
  | 4, _ =>
   have s11 : a.tmps[65]?.getD undef = (.int .i64 c.til) := hd 11 (Nat.le_of_ble_eq_true rfl) (by kernel_rfl)
   have hI : (fun k x W => match k with | 0 => DS w2 (.slice none 0 0) w2.heap.size b1 V 53 (numL c.kind) x W | k + 1 => DS w2 (.slice none 0 0) w2.heap.size b1 V 53 (numL c.kind ++ (([textL c.cty, textL c.txt, numL c.day, numL c.til] : List (List UInt8)).take k).flatten) x W) 4 (a.tmps[63]?.getD undef) W := hI
   have hI : DS w2 (.slice none 0 0) w2.heap.size b1 V 53 (numL c.kind ++ (([textL c.cty, textL c.txt, numL c.day, numL c.til] : List (List UInt8)).take 3).flatten) (a.tmps[63]?.getD undef) W := hI
   generalize hx : a.tmps[63]?.getD undef = x at hI
   refine obl_callK rfl (wanted_none rfl) (by go_simp) (bnum_any hI.own hI.le c.til HFIT.out.til.1 HFIT.out.til.2 (by simp; have := HKL.out; have := textL_len _ HFIT.out.cty; have := textL_len _ HFIT.out.txt; have := numL_len' _ HFIT.out.day; omega)) ?_
   rintro e w9 ⟨x9, rfl, ho9, hs9⟩
   exact ⟨_, rfl, _, rfl, trivial, hI.call (by decide) (by simpa [List.take] using ho9) hs9⟩
  | 5, _ =>
   have hI : (fun k x W => match k with | 0 => DS w2 (.slice none 0 0) w2.heap.size b1 V 53 (numL c.kind) x W | k + 1 => DS w2 (.slice none 0 0) w2.heap.size b1 V 53 (numL c.kind ++ (([textL c.cty, textL c.txt, numL c.day, numL c.til] : List (List UInt8)).take k).flatten) x W) 5 (a.tmps[66]?.getD undef) W := hI
   have hI : DS w2 (.slice none 0 0) w2.heap.size b1 V 53 (numL c.kind ++ (([textL c.cty, textL c.txt, numL c.day, numL c.til] : List (List UInt8)).take 4).flatten) (a.tmps[66]?.getD undef) W := hI
   generalize hx : a.tmps[66]?.getD undef = x at hI
   refine obl_callV rfl (wanted_none rfl) (v := x) (by go_simp) ⟨rfl, trivial, ?_⟩
   simpa [List.take] using hI
  | n + 6, h => exact absurd h (by simp)
 ·skip
  have hI' : (fun k x W => match k with | 0 => DS w2 (.slice none 0 0) w2.heap.size b1 V 53 (numL c.kind) x W | k + 1 => DS w2 (.slice none 0 0) w2.heap.size b1 V 53 (numL c.kind ++ (([textL c.cty, textL c.txt, numL c.day, numL c.til] : List (List UInt8)).take k).flatten) x W) 6 (a.tmps[4]?.getD undef) wz := hI
  have hfr := grow_frame hc [(54, a.tmps[54]?.getD undef), (55, (.pointer (some ⟨b1, 1, none⟩))), (56, (.string c.cty)), (57, a.tmps[57]?.getD undef), (58, (.pointer (some ⟨b1, 2, none⟩))), (59, (.string c.txt)), (60, a.tmps[60]?.getD undef), (61, (.pointer (some ⟨b1, 5, none⟩))), (62, (.int .i64 c.day)), (63, a.tmps[63]?.getD undef), (64, (.pointer (some ⟨b1, 6, none⟩))), (65, (.int .i64 c.til)), (66, a.tmps[66]?.getD undef), (4, a.tmps[4]?.getD undef)] (by kernel_rfl) (fun p hp => by
    simp only [List.mem_cons, List.not_mem_nil, or_false] at hp
    rcases hp with rfl | rfl | rfl | rfl | rfl | rfl | rfl | rfl | rfl | rfl | rfl | rfl | rfl | rfl
    ·rfl
    ·exact hs 1 55 (by decide) (by kernel_rfl)
    ·exact hs 2 56 (by decide) (by kernel_rfl)
    ·rfl
    ·exact hs 4 58 (by decide) (by kernel_rfl)
    ·exact hs 5 59 (by decide) (by kernel_rfl)
    ·rfl
    ·exact hs 7 61 (by decide) (by kernel_rfl)
    ·exact hs 8 62 (by decide) (by kernel_rfl)
    ·rfl
    ·exact hs 10 64 (by decide) (by kernel_rfl)
    ·exact hs 11 65 (by decide) (by kernel_rfl)
    ·rfl
    ·rfl
    )
  generalize a.tmps[54]?.getD undef = z54 at hfr
  generalize a.tmps[57]?.getD undef = z57 at hfr
  generalize a.tmps[60]?.getD undef = z60 at hfr
  generalize a.tmps[63]?.getD undef = z63 at hfr
  generalize a.tmps[66]?.getD undef = z66 at hfr
  generalize a.tmps[4]?.getD undef = z4 at hfr hI'
  simp only [List.range, List.range.loop, List.size_toArray, List.length_cons, List.length_nil, List.map_cons, List.map_nil, List.lookup_cons, List.lookup_nil, Nat.reduceAdd, Nat.reduceBEq, Option.getD_some, Option.getD_none, List.getElem?_toArray, List.getElem?_cons_succ, List.getElem?_cons_zero] at hfr
  subst hfr
  generalize z4 = xz at *
  have HDZ := Lib.hid (show DS w2 (.slice none 0 0) w2.heap.size b1 V 53 (numL c.kind ++ ([textL c.cty, textL c.txt, numL c.day, numL c.til] : List (List UInt8)).flatten) xz wz by simpa [List.take] using hI')
  clear hc hs hI hI'
  go_wp2
  have hk := HK.out
  have hbo : bodyL c = ([textL c.cty, textL c.txt, numL c.day, numL c.til] : List (List UInt8)).flatten := by rw [bodyL, if_neg (by rw [hk]; decide), if_neg (by rw [hk]; decide), if_neg (by rw [hk]; decide), if_pos hk]
  have hoz := HDZ.out.own
  rw [← hbo] at hoz
  have HOZ := Lib.hid hoz
  have hbf := HB1.out.trans ((HB2.out.trans ((HDZ.out.st.low (Own.nil_ _ _) (Nat.le_refl _) (Nat.le_refl _)).mono HB2.out.size)).mono HB1.out.size)
  have HBF := Lib.hid hbf
  clear hbo hoz hbf hk
  go_ret2
  exact ⟨.inr ⟨HG.out, xz, rfl, HOZ.out.more (Nat.le_trans HB1.out.size HB2.out.size)⟩, HBF.out⟩
set_option maxRecDepth 100000 in
set_option maxHeartbeats 16000000 in
theorem renc_k5 {w : World} {B : Nat} {v : Value} {c : Cm} (hv : CmV w B v c) (hB : B ≤ w.heap.size) (hl : c.doc.ls.length ≤ 100000) (hk : c.kind = 5) (hG : goodCB c = true) :
  Calls Try.prog 32 #[v] w (EncPost c w) := by
 obtain ⟨A0, m0, V, rfl, HV, HV2, HVI, HB1, HX1, HLS, HOK⟩ := cmd_pre hv hB
 clear hv
 have hgd := rgood_any (c := c) ⟨.slice A0 c.doc.ls.length m0, by rw [HV.out], HLS.out _ HB1.out, HOK.out⟩ (Nat.le_trans hB HB1.out.size) hl
 rw [hG] at hgd
 have HG := Lib.hid hG
 clear hG
 go_enter Try.func32, Try.ntmps32
 go_upto_region 1 with fail
 generalize World.alloc w _ = w1 at *
 generalize hb : w.heap.size = b1 at HX1 ⊢
 have HBB := Lib.hid hb
 clear hb
 have HXV := Lib.hid (loadV HX1.out HV.out)
 have hfit := good_fit HG.out
 have HFIT := Lib.hid hfit
 have HCV := Lib.hid (show ∀ W, W.heap[b1]? = some (.cells V 53 (0, 0)) → CBox W b1 c (.slice A0 c.doc.ls.length m0) from fun W hW => CBlk.box (by unfold CBlk; rw [HV.out]; exact hW))
 have HK := Lib.hid hk
 clear hfit hk
 go_upto_region 3 with (first
  | (with_reducible refine wpList_load_row rfl 53 (.tmp 1) rfl b1 rfl 53 V (0, 0) _ HXV.out Try.underlying53 rfl HVI.out ?_)
  | (go_at_call 27; (with_reducible refine hgd.mono ?_); rintro e w2 ⟨rfl, hb2⟩; have HB2 := Lib.hid hb2; clear hb2 hgd))
 have HD2 := Lib.hid (show DS w2 (.slice none 0 0) w2.heap.size b1 V 53 [] (.slice none 0 0) w2 from ⟨Own.nil_ _ _, AStep.refl _ _, (HB2.out.block b1 (lt_of_blk HXV.out)).trans HXV.out, Nat.le_refl _⟩)
 have hq := bnum_any HD2.out.own HD2.out.le c.kind HFIT.out.kind.1 HFIT.out.kind.2 (by simp)
 have c0 := (HCV.out w2 HD2.out.blk).c0
 go_upto_region 4 with (go_at_call 68; (with_reducible refine hq.mono ?_); rintro e w8 ⟨X, rfl, hox, hsx⟩; have HD8 := Lib.hid (HD2.out.call (l' := numL c.kind) (by decide) (by simpa using hox) hsx); clear hq hox hsx c0; have c0 := (HCV.out w8 HD8.out.blk).c0)
 rw [HK.out] at c0
 have HKL := Lib.hid (numL_len' _ HFIT.out.kind)
 clear HD2
 go_upto_region 14 with fail
 refine wp_region_chainT (by kernel_rfl) [none, some (.pointer (some ⟨b1, 2, none⟩)), some (.string c.txt), none, some (.pointer (some ⟨b1, 10, none⟩)), some (.pointer (some ⟨b1, 11, none⟩)), some (.int .i64 c.py), none, some (.pointer (some ⟨b1, 10, none⟩)), some (.pointer (some ⟨b1, 12, none⟩)), some (.int .i64 c.px), none, some (.pointer (some ⟨b1, 7, none⟩)), some (.int .i64 c.nm), none, some (.pointer (some ⟨b1, 8, none⟩)), some (.int .i64 c.dn), none, none] [0, 3, 7, 11, 14, 17, 18] (fun k x W => match k with | 0 => DS w2 (.slice none 0 0) w2.heap.size b1 V 53 (numL c.kind) x W | k + 1 => DS w2 (.slice none 0 0) w2.heap.size b1 V 53 (numL c.kind ++ (([textL c.txt, numL c.py, numL c.px, numL c.nm, numL c.dn] : List (List UInt8)).take k).flatten) x W) 4 (by kernel_rfl) (by kernel_rfl) (by kernel_rfl) (by kernel_rfl) (by kernel_rfl) (fun m x W W' h hb => by match m, h with | 0, h => exact h.below hb | n + 1, h => exact h.below hb) HD8.out (fun i hi hn m a W hc hI hd => ?_) (fun k hk a W hc hI hd => ?_) (fun a wz hc hI hs => ?_)
 ·match i, hi, hn with
  | 0, _, hn => exact absurd hn (by decide)
  | 1, _, _ =>
   have z1 := hc.same 1 (by kernel_rfl)
   simp only [List.getElem?_toArray, List.getElem?_cons_succ, List.getElem?_cons_zero, Option.getD_some] at z1
   refine obl_val rfl (wanted_none rfl) ?_ rfl
   go_simp
  | 2, _, _ =>
   have s1 : a.tmps[70]?.getD undef = (.pointer (some ⟨b1, 2, none⟩)) := hd 1 (Nat.le_of_ble_eq_true rfl) (by kernel_rfl)
   have hbk : W.heap[b1]? = some (.cells V 53 (0, 0)) := by match m, hI with | 0, hI => exact hI.blk | n + 1, hI => exact hI.blk
   obtain ⟨c0, c1, c2, c3, c4, c5, c6, c7, c8, c9, c10, c11, c12, c13, c14, c15, c16, c17, c18, c19, c20, c21⟩ := HCV.out W hbk
   refine obl_val rfl (wanted_none rfl) ?_ rfl
   go_simp
  | 3, _, hn => exact absurd hn (by decide)
  | 4, _, _ =>
   have z1 := hc.same 1 (by kernel_rfl)
   simp only [List.getElem?_toArray, List.getElem?_cons_succ, List.getElem?_cons_zero, Option.getD_some] at z1
   refine obl_val rfl (wanted_none rfl) ?_ rfl
   go_simp
  | 5, _, _ =>
   have s4 : a.tmps[73]?.getD undef = (.pointer (some ⟨b1, 10, none⟩)) := hd 4 (Nat.le_of_ble_eq_true rfl) (by kernel_rfl)
   refine obl_val rfl (wanted_none rfl) ?_ rfl
   go_simp
  | 6, _, _ =>
   have s5 : a.tmps[74]?.getD undef = (.pointer (some ⟨b1, 11, none⟩)) := hd 5 (Nat.le_of_ble_eq_true rfl) (by kernel_rfl)
   have hbk : W.heap[b1]? = some (.cells V 53 (0, 0)) := by match m, hI with | 0, hI => exact hI.blk | n + 1, hI => exact hI.blk
   obtain ⟨c0, c1, c2, c3, c4, c5, c6, c7, c8, c9, c10, c11, c12, c13, c14, c15, c16, c17, c18, c19, c20, c21⟩ := HCV.out W hbk
   refine obl_val rfl (wanted_none rfl) ?_ rfl
   go_simp
  | 7, _, hn => exact absurd hn (by decide)
  | 8, _, _ =>
   have z1 := hc.same 1 (by kernel_rfl)
   simp only [List.getElem?_toArray, List.getElem?_cons_succ, List.getElem?_cons_zero, Option.getD_some] at z1
   refine obl_val rfl (wanted_none rfl) ?_ rfl
   go_simp
  | 9, _, _ =>
   have s8 : a.tmps[77]?.getD undef = (.pointer (some ⟨b1, 10, none⟩)) := hd 8 (Nat.le_of_ble_eq_true rfl) (by kernel_rfl)
   refine obl_val rfl (wanted_none rfl) ?_ rfl
   go_simp
  | 10, _, _ =>
   have s9 : a.tmps[78]?.getD undef = (.pointer (some ⟨b1, 12, none⟩)) := hd 9 (Nat.le_of_ble_eq_true rfl) (by kernel_rfl)
   have hbk : W.heap[b1]? = some (.cells V 53 (0, 0)) := by match m, hI with | 0, hI => exact hI.blk | n + 1, hI => exact hI.blk
   obtain ⟨c0, c1, c2, c3, c4, c5, c6, c7, c8, c9, c10, c11, c12, c13, c14, c15, c16, c17, c18, c19, c20, c21⟩ := HCV.out W hbk
   refine obl_val rfl (wanted_none rfl) ?_ rfl
   go_simp
  | 11, _, hn => exact absurd hn (by decide)
  | 12, _, _ =>
   have z1 := hc.same 1 (by kernel_rfl)
   simp only [List.getElem?_toArray, List.getElem?_cons_succ, List.getElem?_cons_zero, Option.getD_some] at z1
   refine obl_val rfl (wanted_none rfl) ?_ rfl
   go_simp
  | 13, _, _ =>
   have s12 : a.tmps[81]?.getD undef = (.pointer (some ⟨b1, 7, none⟩)) := hd 12 (Nat.le_of_ble_eq_true rfl) (by kernel_rfl)
   have hbk : W.heap[b1]? = some (.cells V 53 (0, 0)) := by match m, hI with | 0, hI => exact hI.blk | n + 1, hI => exact hI.blk
   obtain ⟨c0, c1, c2, c3, c4, c5, c6, c7, c8, c9, c10, c11, c12, c13, c14, c15, c16, c17, c18, c19, c20, c21⟩ := HCV.out W hbk
   refine obl_val rfl (wanted_none rfl) ?_ rfl
   go_simp
  | 14, _, hn => exact absurd hn (by decide)
  | 15, _, _ =>
   have z1 := hc.same 1 (by kernel_rfl)
   simp only [List.getElem?_toArray, List.getElem?_cons_succ, List.getElem?_cons_zero, Option.getD_some] at z1
   refine obl_val rfl (wanted_none rfl) ?_ rfl
   go_simp
  | 16, _, _ =>
   have s15 : a.tmps[84]?.getD undef = (.pointer (some ⟨b1, 8, none⟩)) := hd 15 (Nat.le_of_ble_eq_true rfl) (by kernel_rfl)
   have hbk : W.heap[b1]? = some (.cells V 53 (0, 0)) := by match m, hI with | 0, hI => exact hI.blk | n + 1, hI => exact hI.blk
   obtain ⟨c0, c1, c2, c3, c4, c5, c6, c7, c8, c9, c10, c11, c12, c13, c14, c15, c16, c17, c18, c19, c20, c21⟩ := HCV.out W hbk
   refine obl_val rfl (wanted_none rfl) ?_ rfl
   go_simp
  | 17, _, hn => exact absurd hn (by decide)
  | 18, _, hn => exact absurd hn (by decide)
  | n + 19, h, _ => exact absurd h (by simp)
 ·match k, hk with
  | 0, _ =>
   have hI : (fun k x W => match k with | 0 => DS w2 (.slice none 0 0) w2.heap.size b1 V 53 (numL c.kind) x W | k + 1 => DS w2 (.slice none 0 0) w2.heap.size b1 V 53 (numL c.kind ++ (([textL c.txt, numL c.py, numL c.px, numL c.nm, numL c.dn] : List (List UInt8)).take k).flatten) x W) 0 (a.tmps[4]?.getD undef) W := hI
   have hI : DS w2 (.slice none 0 0) w2.heap.size b1 V 53 (numL c.kind) (a.tmps[4]?.getD undef) W := hI
   generalize hx : a.tmps[4]?.getD undef = x at hI
   refine obl_callV rfl (wanted_none rfl) (v := x) (by go_simp) ⟨rfl, trivial, ?_⟩
   simpa [List.take] using hI
  | 1, _ =>
   have s2 : a.tmps[71]?.getD undef = (.string c.txt) := hd 2 (Nat.le_of_ble_eq_true rfl) (by kernel_rfl)
   have hI : (fun k x W => match k with | 0 => DS w2 (.slice none 0 0) w2.heap.size b1 V 53 (numL c.kind) x W | k + 1 => DS w2 (.slice none 0 0) w2.heap.size b1 V 53 (numL c.kind ++ (([textL c.txt, numL c.py, numL c.px, numL c.nm, numL c.dn] : List (List UInt8)).take k).flatten) x W) 1 (a.tmps[69]?.getD undef) W := hI
   have hI : DS w2 (.slice none 0 0) w2.heap.size b1 V 53 (numL c.kind ++ (([textL c.txt, numL c.py, numL c.px, numL c.nm, numL c.dn] : List (List UInt8)).take 0).flatten) (a.tmps[69]?.getD undef) W := hI
   generalize hx : a.tmps[69]?.getD undef = x at hI
   refine obl_callK rfl (wanted_none rfl) (by go_simp) (btext_any hI.own hI.le c.txt HFIT.out.txt (by simp; have := HKL.out; omega)) ?_
   rintro e w9 ⟨x9, rfl, ho9, hs9⟩
   exact ⟨_, rfl, _, rfl, trivial, hI.call (by decide) (by simpa [List.take] using ho9) hs9⟩
  | 2, _ =>
   have s6 : a.tmps[75]?.getD undef = (.int .i64 c.py) := hd 6 (Nat.le_of_ble_eq_true rfl) (by kernel_rfl)
   have hI : (fun k x W => match k with | 0 => DS w2 (.slice none 0 0) w2.heap.size b1 V 53 (numL c.kind) x W | k + 1 => DS w2 (.slice none 0 0) w2.heap.size b1 V 53 (numL c.kind ++ (([textL c.txt, numL c.py, numL c.px, numL c.nm, numL c.dn] : List (List UInt8)).take k).flatten) x W) 2 (a.tmps[72]?.getD undef) W := hI
   have hI : DS w2 (.slice none 0 0) w2.heap.size b1 V 53 (numL c.kind ++ (([textL c.txt, numL c.py, numL c.px, numL c.nm, numL c.dn] : List (List UInt8)).take 1).flatten) (a.tmps[72]?.getD undef) W := hI
   generalize hx : a.tmps[72]?.getD undef = x at hI
   refine obl_callK rfl (wanted_none rfl) (by go_simp) (bnum_any hI.own hI.le c.py HFIT.out.py.1 HFIT.out.py.2 (by simp; have := HKL.out; have := textL_len _ HFIT.out.txt; omega)) ?_
   rintro e w9 ⟨x9, rfl, ho9, hs9⟩
   exact ⟨_, rfl, _, rfl, trivial, hI.call (by decide) (by simpa [List.take] using ho9) hs9⟩
  | 3, _ =>
   have s10 : a.tmps[79]?.getD undef = (.int .i64 c.px) := hd 10 (Nat.le_of_ble_eq_true rfl) (by kernel_rfl)
   have hI : (fun k x W => match k with | 0 => DS w2 (.slice none 0 0) w2.heap.size b1 V 53 (numL c.kind) x W | k + 1 => DS w2 (.slice none 0 0) w2.heap.size b1 V 53 (numL c.kind ++ (([textL c.txt, numL c.py, numL c.px, numL c.nm, numL c.dn] : List (List UInt8)).take k).flatten) x W) 3 (a.tmps[76]?.getD undef) W := hI
   have hI : DS w2 (.slice none 0 0) w2.heap.size b1 V 53 (numL c.kind ++ (([textL c.txt, numL c.py, numL c.px, numL c.nm, numL c.dn] : List (List UInt8)).take 2).flatten) (a.tmps[76]?.getD undef) W := hI
   generalize hx : a.tmps[76]?.getD undef = x at hI
   refine obl_callK rfl (wanted_none rfl) (by go_simp) (bnum_any hI.own hI.le c.px HFIT.out.px.1 HFIT.out.px.2 (by simp; have := HKL.out; have := textL_len _ HFIT.out.txt; have := numL_len' _ HFIT.out.py; omega)) ?_
   rintro e w9 ⟨x9, rfl, ho9, hs9⟩
   exact ⟨_, rfl, _, rfl, trivial, hI.call (by decide) (by simpa [List.take] using ho9) hs9⟩
  | 4, _ =>
   have s13 : a.tmps[82]?.getD undef = (.int .i64 c.nm) := hd 13 (Nat.le_of_ble_eq_true rfl) (by kernel_rfl)
   have hI : (fun k x W => match k with | 0 => DS w2 (.slice none 0 0) w2.heap.size b1 V 53 (numL c.kind) x W | k + 1 => DS w2 (.slice none 0 0) w2.heap.size b1 V 53 (numL c.kind ++ (([textL c.txt, numL c.py, numL c.px, numL c.nm, numL c.dn] : List (List UInt8)).take k).flatten) x W) 4 (a.tmps[80]?.getD undef) W := hI
   have hI : DS w2 (.slice none 0 0) w2.heap.size b1 V 53 (numL c.kind ++ (([textL c.txt, numL c.py, numL c.px, numL c.nm, numL c.dn] : List (List UInt8)).take 3).flatten) (a.tmps[80]?.getD undef) W := hI
   generalize hx : a.tmps[80]?.getD undef = x at hI
   refine obl_callK rfl (wanted_none rfl) (by go_simp) (bnum_any hI.own hI.le c.nm HFIT.out.nm.1 HFIT.out.nm.2 (by simp; have := HKL.out; have := textL_len _ HFIT.out.txt; have := numL_len' _ HFIT.out.py; have := numL_len' _ HFIT.out.px; omega)) ?_
   rintro e w9 ⟨x9, rfl, ho9, hs9⟩
   exact ⟨_, rfl, _, rfl, trivial, hI.call (by decide) (by simpa [List.take] using ho9) hs9⟩
  | 5, _ =>
   have s16 : a.tmps[85]?.getD undef = (.int .i64 c.dn) := hd 16 (Nat.le_of_ble_eq_true rfl) (by kernel_rfl)
   have hI : (fun k x W => match k with | 0 => DS w2 (.slice none 0 0) w2.heap.size b1 V 53 (numL c.kind) x W | k + 1 => DS w2 (.slice none 0 0) w2.heap.size b1 V 53 (numL c.kind ++ (([textL c.txt, numL c.py, numL c.px, numL c.nm, numL c.dn] : List (List UInt8)).take k).flatten) x W) 5 (a.tmps[83]?.getD undef) W := hI
   have hI : DS w2 (.slice none 0 0) w2.heap.size b1 V 53 (numL c.kind ++ (([textL c.txt, numL c.py, numL c.px, numL c.nm, numL c.dn] : List (List UInt8)).take 4).flatten) (a.tmps[83]?.getD undef) W := hI
   generalize hx : a.tmps[83]?.getD undef = x at hI
   refine obl_callK rfl (wanted_none rfl) (by go_simp) (bnum_any hI.own hI.le c.dn HFIT.out.dn.1 HFIT.out.dn.2 (by simp; have := HKL.out; have := textL_len _ HFIT.out.txt; have := numL_len' _ HFIT.out.py; have := numL_len' _ HFIT.out.px; have := numL_len' _ HFIT.out.nm; omega)) ?_
   rintro e w9 ⟨x9, rfl, ho9, hs9⟩
   exact ⟨_, rfl, _, rfl, trivial, hI.call (by decide) (by simpa [List.take] using ho9) hs9⟩
  | 6, _ =>
   have hI : (fun k x W => match k with | 0 => DS w2 (.slice none 0 0) w2.heap.size b1 V 53 (numL c.kind) x W | k + 1 => DS w2 (.slice none 0 0) w2.heap.size b1 V 53 (numL c.kind ++ (([textL c.txt, numL c.py, numL c.px, numL c.nm, numL c.dn] : List (List UInt8)).take k).flatten) x W) 6 (a.tmps[86]?.getD undef) W := hI
   have hI : DS w2 (.slice none 0 0) w2.heap.size b1 V 53 (numL c.kind ++ (([textL c.txt, numL c.py, numL c.px, numL c.nm, numL c.dn] : List (List UInt8)).take 5).flatten) (a.tmps[86]?.getD undef) W := hI
   generalize hx : a.tmps[86]?.getD undef = x at hI
   refine obl_callV rfl (wanted_none rfl) (v := x) (by go_simp) ⟨rfl, trivial, ?_⟩
   simpa [List.take] using hI
  | n + 7, h => exact absurd h (by simp)
 ·skip
  have hI' : (fun k x W => match k with | 0 => DS w2 (.slice none 0 0) w2.heap.size b1 V 53 (numL c.kind) x W | k + 1 => DS w2 (.slice none 0 0) w2.heap.size b1 V 53 (numL c.kind ++ (([textL c.txt, numL c.py, numL c.px, numL c.nm, numL c.dn] : List (List UInt8)).take k).flatten) x W) 7 (a.tmps[4]?.getD undef) wz := hI
  have hfr := grow_frame hc [(69, a.tmps[69]?.getD undef), (70, (.pointer (some ⟨b1, 2, none⟩))), (71, (.string c.txt)), (72, a.tmps[72]?.getD undef), (73, (.pointer (some ⟨b1, 10, none⟩))), (74, (.pointer (some ⟨b1, 11, none⟩))), (75, (.int .i64 c.py)), (76, a.tmps[76]?.getD undef), (77, (.pointer (some ⟨b1, 10, none⟩))), (78, (.pointer (some ⟨b1, 12, none⟩))), (79, (.int .i64 c.px)), (80, a.tmps[80]?.getD undef), (81, (.pointer (some ⟨b1, 7, none⟩))), (82, (.int .i64 c.nm)), (83, a.tmps[83]?.getD undef), (84, (.pointer (some ⟨b1, 8, none⟩))), (85, (.int .i64 c.dn)), (86, a.tmps[86]?.getD undef), (4, a.tmps[4]?.getD undef)] (by kernel_rfl) (fun p hp => by
    simp only [List.mem_cons, List.not_mem_nil, or_false] at hp
    rcases hp with rfl | rfl | rfl | rfl | rfl | rfl | rfl | rfl | rfl | rfl | rfl | rfl | rfl | rfl | rfl | rfl | rfl | rfl | rfl
    ·rfl
    ·exact hs 1 70 (by decide) (by kernel_rfl)
    ·exact hs 2 71 (by decide) (by kernel_rfl)
    ·rfl
    ·exact hs 4 73 (by decide) (by kernel_rfl)
    ·exact hs 5 74 (by decide) (by kernel_rfl)
    ·exact hs 6 75 (by decide) (by kernel_rfl)
    ·rfl
    ·exact hs 8 77 (by decide) (by kernel_rfl)
    ·exact hs 9 78 (by decide) (by kernel_rfl)
    ·exact hs 10 79 (by decide) (by kernel_rfl)
    ·rfl
    ·exact hs 12 81 (by decide) (by kernel_rfl)
    ·exact hs 13 82 (by decide) (by kernel_rfl)
    ·rfl
    ·exact hs 15 84 (by decide) (by kernel_rfl)
    ·exact hs 16 85 (by decide) (by kernel_rfl)
    ·rfl
    ·rfl
    )
  generalize a.tmps[69]?.getD undef = z69 at hfr
  generalize a.tmps[72]?.getD undef = z72 at hfr
  generalize a.tmps[76]?.getD undef = z76 at hfr
  generalize a.tmps[80]?.getD undef = z80 at hfr
  generalize a.tmps[83]?.getD undef = z83 at hfr
  generalize a.tmps[86]?.getD undef = z86 at hfr
  generalize a.tmps[4]?.getD undef = z4 at hfr hI'
  simp only [List.range, List.range.loop, List.size_toArray, List.length_cons, List.length_nil, List.map_cons, List.map_nil, List.lookup_cons, List.lookup_nil, Nat.reduceAdd, Nat.reduceBEq, Option.getD_some, Option.getD_none, List.getElem?_toArray, List.getElem?_cons_succ, List.getElem?_cons_zero] at hfr
  subst hfr
  generalize z4 = xz at *
  have HDZ := Lib.hid (show DS w2 (.slice none 0 0) w2.heap.size b1 V 53 (numL c.kind ++ ([textL c.txt, numL c.py, numL c.px, numL c.nm, numL c.dn] : List (List UInt8)).flatten) xz wz by simpa [List.take] using hI')
  clear hc hs hI hI'
  go_wp2
  have hk := HK.out
  have hbo : bodyL c = ([textL c.txt, numL c.py, numL c.px, numL c.nm, numL c.dn] : List (List UInt8)).flatten := by rw [bodyL, if_neg (by rw [hk]; decide), if_neg (by rw [hk]; decide), if_neg (by rw [hk]; decide), if_neg (by rw [hk]; decide), if_pos hk]
  have hoz := HDZ.out.own
  rw [← hbo] at hoz
  have HOZ := Lib.hid hoz
  have hbf := HB1.out.trans ((HB2.out.trans ((HDZ.out.st.low (Own.nil_ _ _) (Nat.le_refl _) (Nat.le_refl _)).mono HB2.out.size)).mono HB1.out.size)
  have HBF := Lib.hid hbf
  clear hbo hoz hbf hk
  go_ret2
  exact ⟨.inr ⟨HG.out, xz, rfl, HOZ.out.more (Nat.le_trans HB1.out.size HB2.out.size)⟩, HBF.out⟩
set_option maxRecDepth 100000 in
set_option maxHeartbeats 16000000 in
theorem renc_k6 {w : World} {B : Nat} {v : Value} {c : Cm} (hv : CmV w B v c) (hB : B ≤ w.heap.size) (hl : c.doc.ls.length ≤ 100000) (hk : c.kind = 6) (hG : goodCB c = true) :
  Calls Try.prog 32 #[v] w (EncPost c w) := by
 obtain ⟨A0, m0, V, rfl, HV, HV2, HVI, HB1, HX1, HLS, HOK⟩ := cmd_pre hv hB
 clear hv
 have hgd := rgood_any (c := c) ⟨.slice A0 c.doc.ls.length m0, by rw [HV.out], HLS.out _ HB1.out, HOK.out⟩ (Nat.le_trans hB HB1.out.size) hl
 rw [hG] at hgd
 have HG := Lib.hid hG
 clear hG
 go_enter Try.func32, Try.ntmps32
 go_upto_region 1 with fail
 generalize World.alloc w _ = w1 at *
 generalize hb : w.heap.size = b1 at HX1 ⊢
 have HBB := Lib.hid hb
 clear hb
 have HXV := Lib.hid (loadV HX1.out HV.out)
 have hfit := good_fit HG.out
 have HFIT := Lib.hid hfit
 have HCV := Lib.hid (show ∀ W, W.heap[b1]? = some (.cells V 53 (0, 0)) → CBox W b1 c (.slice A0 c.doc.ls.length m0) from fun W hW => CBlk.box (by unfold CBlk; rw [HV.out]; exact hW))
 have HK := Lib.hid hk
 clear hfit hk
 go_upto_region 3 with (first
  | (with_reducible refine wpList_load_row rfl 53 (.tmp 1) rfl b1 rfl 53 V (0, 0) _ HXV.out Try.underlying53 rfl HVI.out ?_)
  | (go_at_call 27; (with_reducible refine hgd.mono ?_); rintro e w2 ⟨rfl, hb2⟩; have HB2 := Lib.hid hb2; clear hb2 hgd))
 have HD2 := Lib.hid (show DS w2 (.slice none 0 0) w2.heap.size b1 V 53 [] (.slice none 0 0) w2 from ⟨Own.nil_ _ _, AStep.refl _ _, (HB2.out.block b1 (lt_of_blk HXV.out)).trans HXV.out, Nat.le_refl _⟩)
 have hq := bnum_any HD2.out.own HD2.out.le c.kind HFIT.out.kind.1 HFIT.out.kind.2 (by simp)
 have c0 := (HCV.out w2 HD2.out.blk).c0
 go_upto_region 4 with (go_at_call 68; (with_reducible refine hq.mono ?_); rintro e w8 ⟨X, rfl, hox, hsx⟩; have HD8 := Lib.hid (HD2.out.call (l' := numL c.kind) (by decide) (by simpa using hox) hsx); clear hq hox hsx c0; have c0 := (HCV.out w8 HD8.out.blk).c0)
 rw [HK.out] at c0
 have HKL := Lib.hid (numL_len' _ HFIT.out.kind)
 clear HD2
 obtain ⟨_, c1, c2, c3, c4, c5, c6, c7, c8, c9, c10, c11, c12, c13, c14, c15, c16, c17, c18, c19, c20, c21⟩ := HCV.out w8 HD8.out.blk
 have hq := btext_any HD8.out.own HD8.out.le c.txt HFIT.out.txt (by have := HKL.out; omega)
 go_wp2_with (go_at_call 69; (with_reducible refine hq.mono ?_); rintro e wz ⟨xz, rfl, hox, hsx⟩; have HDZ := Lib.hid (HD8.out.call (l' := numL c.kind ++ ([textL c.txt] : List (List UInt8)).flatten) (by decide) (by simpa using hox) hsx); clear hq hox hsx)
 have hk := HK.out
 have hbo : bodyL c = ([textL c.txt] : List (List UInt8)).flatten := by rw [bodyL, if_neg (by rw [hk]; decide), if_neg (by rw [hk]; decide), if_neg (by rw [hk]; decide), if_neg (by rw [hk]; decide), if_neg (by rw [hk]; decide), if_pos hk]
 have hoz := HDZ.out.own
 rw [← hbo] at hoz
 have HOZ := Lib.hid hoz
 have hbf := HB1.out.trans ((HB2.out.trans ((HDZ.out.st.low (Own.nil_ _ _) (Nat.le_refl _) (Nat.le_refl _)).mono HB2.out.size)).mono HB1.out.size)
 have HBF := Lib.hid hbf
 clear hbo hoz hbf hk
 go_ret2
 exact ⟨.inr ⟨HG.out, xz, rfl, HOZ.out.more (Nat.le_trans HB1.out.size HB2.out.size)⟩, HBF.out⟩
set_option maxRecDepth 100000 in
set_option maxHeartbeats 16000000 in
theorem renc_k7 {w : World} {B : Nat} {v : Value} {c : Cm} (hv : CmV w B v c) (hB : B ≤ w.heap.size) (hl : c.doc.ls.length ≤ 100000) (hk : c.kind = 7) (hG : goodCB c = true) :
  Calls Try.prog 32 #[v] w (EncPost c w) := by
 obtain ⟨A0, m0, V, rfl, HV, HV2, HVI, HB1, HX1, HLS, HOK⟩ := cmd_pre hv hB
 clear hv
 have hgd := rgood_any (c := c) ⟨.slice A0 c.doc.ls.length m0, by rw [HV.out], HLS.out _ HB1.out, HOK.out⟩ (Nat.le_trans hB HB1.out.size) hl
 rw [hG] at hgd
 have HG := Lib.hid hG
 clear hG
 go_enter Try.func32, Try.ntmps32
 go_upto_region 1 with fail
 generalize World.alloc w _ = w1 at *
 generalize hb : w.heap.size = b1 at HX1 ⊢
 have HBB := Lib.hid hb
 clear hb
 have HXV := Lib.hid (loadV HX1.out HV.out)
 have hfit := good_fit HG.out
 have HFIT := Lib.hid hfit
 have HCV := Lib.hid (show ∀ W, W.heap[b1]? = some (.cells V 53 (0, 0)) → CBox W b1 c (.slice A0 c.doc.ls.length m0) from fun W hW => CBlk.box (by unfold CBlk; rw [HV.out]; exact hW))
 have HK := Lib.hid hk
 clear hfit hk
 go_upto_region 3 with (first
  | (with_reducible refine wpList_load_row rfl 53 (.tmp 1) rfl b1 rfl 53 V (0, 0) _ HXV.out Try.underlying53 rfl HVI.out ?_)
  | (go_at_call 27; (with_reducible refine hgd.mono ?_); rintro e w2 ⟨rfl, hb2⟩; have HB2 := Lib.hid hb2; clear hb2 hgd))
 have HD2 := Lib.hid (show DS w2 (.slice none 0 0) w2.heap.size b1 V 53 [] (.slice none 0 0) w2 from ⟨Own.nil_ _ _, AStep.refl _ _, (HB2.out.block b1 (lt_of_blk HXV.out)).trans HXV.out, Nat.le_refl _⟩)
 have hq := bnum_any HD2.out.own HD2.out.le c.kind HFIT.out.kind.1 HFIT.out.kind.2 (by simp)
 have c0 := (HCV.out w2 HD2.out.blk).c0
 go_upto_region 4 with (go_at_call 68; (with_reducible refine hq.mono ?_); rintro e w8 ⟨X, rfl, hox, hsx⟩; have HD8 := Lib.hid (HD2.out.call (l' := numL c.kind) (by decide) (by simpa using hox) hsx); clear hq hox hsx c0; have c0 := (HCV.out w8 HD8.out.blk).c0)
 rw [HK.out] at c0
 have HKL := Lib.hid (numL_len' _ HFIT.out.kind)
 clear HD2
 go_upto_region 18 with fail
 refine wp_region_chainT (by kernel_rfl) [none, some (.pointer (some ⟨b1, 10, none⟩)), some (.pointer (some ⟨b1, 11, none⟩)), some (.int .i64 c.py), none, some (.pointer (some ⟨b1, 7, none⟩)), some (.int .i64 c.nm), none, none] [0, 4, 7, 8] (fun k x W => match k with | 0 => DS w2 (.slice none 0 0) w2.heap.size b1 V 53 (numL c.kind) x W | k + 1 => DS w2 (.slice none 0 0) w2.heap.size b1 V 53 (numL c.kind ++ (([numL c.py, numL c.nm] : List (List UInt8)).take k).flatten) x W) 4 (by kernel_rfl) (by kernel_rfl) (by kernel_rfl) (by kernel_rfl) (by kernel_rfl) (fun m x W W' h hb => by match m, h with | 0, h => exact h.below hb | n + 1, h => exact h.below hb) HD8.out (fun i hi hn m a W hc hI hd => ?_) (fun k hk a W hc hI hd => ?_) (fun a wz hc hI hs => ?_)
 ·match i, hi, hn with
  | 0, _, hn => exact absurd hn (by decide)
  | 1, _, _ =>
   have z1 := hc.same 1 (by kernel_rfl)
   simp only [List.getElem?_toArray, List.getElem?_cons_succ, List.getElem?_cons_zero, Option.getD_some] at z1
   refine obl_val rfl (wanted_none rfl) ?_ rfl
   go_simp
  | 2, _, _ =>
   have s1 : a.tmps[96]?.getD undef = (.pointer (some ⟨b1, 10, none⟩)) := hd 1 (Nat.le_of_ble_eq_true rfl) (by kernel_rfl)
   refine obl_val rfl (wanted_none rfl) ?_ rfl
   go_simp
  | 3, _, _ =>
   have s2 : a.tmps[97]?.getD undef = (.pointer (some ⟨b1, 11, none⟩)) := hd 2 (Nat.le_of_ble_eq_true rfl) (by kernel_rfl)
   have hbk : W.heap[b1]? = some (.cells V 53 (0, 0)) := by match m, hI with | 0, hI => exact hI.blk | n + 1, hI => exact hI.blk
   obtain ⟨c0, c1, c2, c3, c4, c5, c6, c7, c8, c9, c10, c11, c12, c13, c14, c15, c16, c17, c18, c19, c20, c21⟩ := HCV.out W hbk
   refine obl_val rfl (wanted_none rfl) ?_ rfl
   go_simp
  | 4, _, hn => exact absurd hn (by decide)
  | 5, _, _ =>
   have z1 := hc.same 1 (by kernel_rfl)
   simp only [List.getElem?_toArray, List.getElem?_cons_succ, List.getElem?_cons_zero, Option.getD_some] at z1
   refine obl_val rfl (wanted_none rfl) ?_ rfl
   go_simp
  | 6, _, _ =>
   have s5 : a.tmps[100]?.getD undef = (.pointer (some ⟨b1, 7, none⟩)) := hd 5 (Nat.le_of_ble_eq_true rfl) (by kernel_rfl)
   have hbk : W.heap[b1]? = some (.cells V 53 (0, 0)) := by match m, hI with | 0, hI => exact hI.blk | n + 1, hI => exact hI.blk
   obtain ⟨c0, c1, c2, c3, c4, c5, c6, c7, c8, c9, c10, c11, c12, c13, c14, c15, c16, c17, c18, c19, c20, c21⟩ := HCV.out W hbk
   refine obl_val rfl (wanted_none rfl) ?_ rfl
   go_simp
  | 7, _, hn => exact absurd hn (by decide)
  | 8, _, hn => exact absurd hn (by decide)
  | n + 9, h, _ => exact absurd h (by simp)
 ·match k, hk with
  | 0, _ =>
   have hI : (fun k x W => match k with | 0 => DS w2 (.slice none 0 0) w2.heap.size b1 V 53 (numL c.kind) x W | k + 1 => DS w2 (.slice none 0 0) w2.heap.size b1 V 53 (numL c.kind ++ (([numL c.py, numL c.nm] : List (List UInt8)).take k).flatten) x W) 0 (a.tmps[4]?.getD undef) W := hI
   have hI : DS w2 (.slice none 0 0) w2.heap.size b1 V 53 (numL c.kind) (a.tmps[4]?.getD undef) W := hI
   generalize hx : a.tmps[4]?.getD undef = x at hI
   refine obl_callV rfl (wanted_none rfl) (v := x) (by go_simp) ⟨rfl, trivial, ?_⟩
   simpa [List.take] using hI
  | 1, _ =>
   have s3 : a.tmps[98]?.getD undef = (.int .i64 c.py) := hd 3 (Nat.le_of_ble_eq_true rfl) (by kernel_rfl)
   have hI : (fun k x W => match k with | 0 => DS w2 (.slice none 0 0) w2.heap.size b1 V 53 (numL c.kind) x W | k + 1 => DS w2 (.slice none 0 0) w2.heap.size b1 V 53 (numL c.kind ++ (([numL c.py, numL c.nm] : List (List UInt8)).take k).flatten) x W) 1 (a.tmps[95]?.getD undef) W := hI
   have hI : DS w2 (.slice none 0 0) w2.heap.size b1 V 53 (numL c.kind ++ (([numL c.py, numL c.nm] : List (List UInt8)).take 0).flatten) (a.tmps[95]?.getD undef) W := hI
   generalize hx : a.tmps[95]?.getD undef = x at hI
   refine obl_callK rfl (wanted_none rfl) (by go_simp) (bnum_any hI.own hI.le c.py HFIT.out.py.1 HFIT.out.py.2 (by simp; have := HKL.out; omega)) ?_
   rintro e w9 ⟨x9, rfl, ho9, hs9⟩
   exact ⟨_, rfl, _, rfl, trivial, hI.call (by decide) (by simpa [List.take] using ho9) hs9⟩
  | 2, _ =>
   have s6 : a.tmps[101]?.getD undef = (.int .i64 c.nm) := hd 6 (Nat.le_of_ble_eq_true rfl) (by kernel_rfl)
   have hI : (fun k x W => match k with | 0 => DS w2 (.slice none 0 0) w2.heap.size b1 V 53 (numL c.kind) x W | k + 1 => DS w2 (.slice none 0 0) w2.heap.size b1 V 53 (numL c.kind ++ (([numL c.py, numL c.nm] : List (List UInt8)).take k).flatten) x W) 2 (a.tmps[99]?.getD undef) W := hI
   have hI : DS w2 (.slice none 0 0) w2.heap.size b1 V 53 (numL c.kind ++ (([numL c.py, numL c.nm] : List (List UInt8)).take 1).flatten) (a.tmps[99]?.getD undef) W := hI
   generalize hx : a.tmps[99]?.getD undef = x at hI
   refine obl_callK rfl (wanted_none rfl) (by go_simp) (bnum_any hI.own hI.le c.nm HFIT.out.nm.1 HFIT.out.nm.2 (by simp; have := HKL.out; have := numL_len' _ HFIT.out.py; omega)) ?_
   rintro e w9 ⟨x9, rfl, ho9, hs9⟩
   exact ⟨_, rfl, _, rfl, trivial, hI.call (by decide) (by simpa [List.take] using ho9) hs9⟩
  | 3, _ =>
   have hI : (fun k x W => match k with | 0 => DS w2 (.slice none 0 0) w2.heap.size b1 V 53 (numL c.kind) x W | k + 1 => DS w2 (.slice none 0 0) w2.heap.size b1 V 53 (numL c.kind ++ (([numL c.py, numL c.nm] : List (List UInt8)).take k).flatten) x W) 3 (a.tmps[102]?.getD undef) W := hI
   have hI : DS w2 (.slice none 0 0) w2.heap.size b1 V 53 (numL c.kind ++ (([numL c.py, numL c.nm] : List (List UInt8)).take 2).flatten) (a.tmps[102]?.getD undef) W := hI
   generalize hx : a.tmps[102]?.getD undef = x at hI
   refine obl_callV rfl (wanted_none rfl) (v := x) (by go_simp) ⟨rfl, trivial, ?_⟩
   simpa [List.take] using hI
  | n + 4, h => exact absurd h (by simp)
 ·skip
  have hI' : (fun k x W => match k with | 0 => DS w2 (.slice none 0 0) w2.heap.size b1 V 53 (numL c.kind) x W | k + 1 => DS w2 (.slice none 0 0) w2.heap.size b1 V 53 (numL c.kind ++ (([numL c.py, numL c.nm] : List (List UInt8)).take k).flatten) x W) 4 (a.tmps[4]?.getD undef) wz := hI
  have hfr := grow_frame hc [(95, a.tmps[95]?.getD undef), (96, (.pointer (some ⟨b1, 10, none⟩))), (97, (.pointer (some ⟨b1, 11, none⟩))), (98, (.int .i64 c.py)), (99, a.tmps[99]?.getD undef), (100, (.pointer (some ⟨b1, 7, none⟩))), (101, (.int .i64 c.nm)), (102, a.tmps[102]?.getD undef), (4, a.tmps[4]?.getD undef)] (by kernel_rfl) (fun p hp => by
    simp only [List.mem_cons, List.not_mem_nil, or_false] at hp
    rcases hp with rfl | rfl | rfl | rfl | rfl | rfl | rfl | rfl | rfl
    ·rfl
    ·exact hs 1 96 (by decide) (by kernel_rfl)
    ·exact hs 2 97 (by decide) (by kernel_rfl)
    ·exact hs 3 98 (by decide) (by kernel_rfl)
    ·rfl
    ·exact hs 5 100 (by decide) (by kernel_rfl)
    ·exact hs 6 101 (by decide) (by kernel_rfl)
    ·rfl
    ·rfl
    )
  generalize a.tmps[95]?.getD undef = z95 at hfr
  generalize a.tmps[99]?.getD undef = z99 at hfr
  generalize a.tmps[102]?.getD undef = z102 at hfr
  generalize a.tmps[4]?.getD undef = z4 at hfr hI'
  simp only [List.range, List.range.loop, List.size_toArray, List.length_cons, List.length_nil, List.map_cons, List.map_nil, List.lookup_cons, List.lookup_nil, Nat.reduceAdd, Nat.reduceBEq, Option.getD_some, Option.getD_none, List.getElem?_toArray, List.getElem?_cons_succ, List.getElem?_cons_zero] at hfr
  subst hfr
  generalize z4 = xz at *
  have HDZ := Lib.hid (show DS w2 (.slice none 0 0) w2.heap.size b1 V 53 (numL c.kind ++ ([numL c.py, numL c.nm] : List (List UInt8)).flatten) xz wz by simpa [List.take] using hI')
  clear hc hs hI hI'
  go_wp2
  have hk := HK.out
  have hbo : bodyL c = ([numL c.py, numL c.nm] : List (List UInt8)).flatten := by rw [bodyL, if_neg (by rw [hk]; decide), if_neg (by rw [hk]; decide), if_neg (by rw [hk]; decide), if_neg (by rw [hk]; decide), if_neg (by rw [hk]; decide), if_neg (by rw [hk]; decide), if_pos hk]
  have hoz := HDZ.out.own
  rw [← hbo] at hoz
  have HOZ := Lib.hid hoz
  have hbf := HB1.out.trans ((HB2.out.trans ((HDZ.out.st.low (Own.nil_ _ _) (Nat.le_refl _) (Nat.le_refl _)).mono HB2.out.size)).mono HB1.out.size)
  have HBF := Lib.hid hbf
  clear hbo hoz hbf hk
  go_ret2
  exact ⟨.inr ⟨HG.out, xz, rfl, HOZ.out.more (Nat.le_trans HB1.out.size HB2.out.size)⟩, HBF.out⟩
set_option maxRecDepth 100000 in
set_option maxHeartbeats 16000000 in
theorem renc_k8 {w : World} {B : Nat} {v : Value} {c : Cm} (hv : CmV w B v c) (hB : B ≤ w.heap.size) (hl : c.doc.ls.length ≤ 100000) (hk : c.kind = 8) (hG : goodCB c = true) :
  Calls Try.prog 32 #[v] w (EncPost c w) := by
 obtain ⟨A0, m0, V, rfl, HV, HV2, HVI, HB1, HX1, HLS, HOK⟩ := cmd_pre hv hB
 clear hv
 have hgd := rgood_any (c := c) ⟨.slice A0 c.doc.ls.length m0, by rw [HV.out], HLS.out _ HB1.out, HOK.out⟩ (Nat.le_trans hB HB1.out.size) hl
 rw [hG] at hgd
 have HG := Lib.hid hG
 clear hG
 go_enter Try.func32, Try.ntmps32
 go_upto_region 1 with fail
 generalize World.alloc w _ = w1 at *
 generalize hb : w.heap.size = b1 at HX1 ⊢
 have HBB := Lib.hid hb
 clear hb
 have HXV := Lib.hid (loadV HX1.out HV.out)
 have hfit := good_fit HG.out
 have HFIT := Lib.hid hfit
 have HCV := Lib.hid (show ∀ W, W.heap[b1]? = some (.cells V 53 (0, 0)) → CBox W b1 c (.slice A0 c.doc.ls.length m0) from fun W hW => CBlk.box (by unfold CBlk; rw [HV.out]; exact hW))
 have HK := Lib.hid hk
 clear hfit hk
 go_upto_region 3 with (first
  | (with_reducible refine wpList_load_row rfl 53 (.tmp 1) rfl b1 rfl 53 V (0, 0) _ HXV.out Try.underlying53 rfl HVI.out ?_)
  | (go_at_call 27; (with_reducible refine hgd.mono ?_); rintro e w2 ⟨rfl, hb2⟩; have HB2 := Lib.hid hb2; clear hb2 hgd))
 have HD2 := Lib.hid (show DS w2 (.slice none 0 0) w2.heap.size b1 V 53 [] (.slice none 0 0) w2 from ⟨Own.nil_ _ _, AStep.refl _ _, (HB2.out.block b1 (lt_of_blk HXV.out)).trans HXV.out, Nat.le_refl _⟩)
 have hq := bnum_any HD2.out.own HD2.out.le c.kind HFIT.out.kind.1 HFIT.out.kind.2 (by simp)
 have c0 := (HCV.out w2 HD2.out.blk).c0
 go_upto_region 4 with (go_at_call 68; (with_reducible refine hq.mono ?_); rintro e w8 ⟨X, rfl, hox, hsx⟩; have HD8 := Lib.hid (HD2.out.call (l' := numL c.kind) (by decide) (by simpa using hox) hsx); clear hq hox hsx c0; have c0 := (HCV.out w8 HD8.out.blk).c0)
 rw [HK.out] at c0
 have HKL := Lib.hid (numL_len' _ HFIT.out.kind)
 clear HD2
 obtain ⟨_, c1, c2, c3, c4, c5, c6, c7, c8, c9, c10, c11, c12, c13, c14, c15, c16, c17, c18, c19, c20, c21⟩ := HCV.out w8 HD8.out.blk
 have hq := rdoc_any HD8.out.own HD8.out.le (by have := HKL.out; omega) (d := c.doc) (lv := .slice A0 c.doc.ls.length m0) (HLS.out w8 (HB1.out.trans ((HB2.out.trans ((HD8.out.st.low (Own.nil_ _ _) (Nat.le_refl _) (Nat.le_refl _)).mono HB2.out.size)).mono HB1.out.size))) (Nat.le_trans hB (Nat.le_trans HB1.out.size HB2.out.size)) (HFIT.out.doc HK.out)
 simp only [Dm.vs] at hq
 go_wp2_with (go_at_call 70; (with_reducible refine hq.mono ?_); rintro e wz ⟨xz, rfl, hox, hsx⟩; have HDZ := Lib.hid (HD8.out.call (l' := numL c.kind ++ docL c.doc) (by decide) (by simpa using hox) hsx); clear hq hox hsx)
 have hk := HK.out
 have hbo : bodyL c = docL c.doc := by rw [bodyL, if_neg (by rw [hk]; decide), if_neg (by rw [hk]; decide), if_neg (by rw [hk]; decide), if_neg (by rw [hk]; decide), if_neg (by rw [hk]; decide), if_neg (by rw [hk]; decide), if_neg (by rw [hk]; decide), if_pos hk]
 have hoz := HDZ.out.own
 rw [← hbo] at hoz
 have HOZ := Lib.hid hoz
 have hbf := HB1.out.trans ((HB2.out.trans ((HDZ.out.st.low (Own.nil_ _ _) (Nat.le_refl _) (Nat.le_refl _)).mono HB2.out.size)).mono HB1.out.size)
 have HBF := Lib.hid hbf
 clear hbo hoz hbf hk
 go_ret2
 exact ⟨.inr ⟨HG.out, xz, rfl, HOZ.out.more (Nat.le_trans HB1.out.size HB2.out.size)⟩, HBF.out⟩
set_option maxRecDepth 100000 in
set_option maxHeartbeats 16000000 in
theorem renc_k9 {w : World} {B : Nat} {v : Value} {c : Cm} (hv : CmV w B v c) (hB : B ≤ w.heap.size) (hl : c.doc.ls.length ≤ 100000) (hk : c.kind = 9) (hG : goodCB c = true) :
  Calls Try.prog 32 #[v] w (EncPost c w) := by
 obtain ⟨A0, m0, V, rfl, HV, HV2, HVI, HB1, HX1, HLS, HOK⟩ := cmd_pre hv hB
 clear hv
 have hgd := rgood_any (c := c) ⟨.slice A0 c.doc.ls.length m0, by rw [HV.out], HLS.out _ HB1.out, HOK.out⟩ (Nat.le_trans hB HB1.out.size) hl
 rw [hG] at hgd
 have HG := Lib.hid hG
 clear hG
 go_enter Try.func32, Try.ntmps32
 go_upto_region 1 with fail
 generalize World.alloc w _ = w1 at *
 generalize hb : w.heap.size = b1 at HX1 ⊢
 have HBB := Lib.hid hb
 clear hb
 have HXV := Lib.hid (loadV HX1.out HV.out)
 have hfit := good_fit HG.out
 have HFIT := Lib.hid hfit
 have HCV := Lib.hid (show ∀ W, W.heap[b1]? = some (.cells V 53 (0, 0)) → CBox W b1 c (.slice A0 c.doc.ls.length m0) from fun W hW => CBlk.box (by unfold CBlk; rw [HV.out]; exact hW))
 have HK := Lib.hid hk
 clear hfit hk
 go_upto_region 3 with (first
  | (with_reducible refine wpList_load_row rfl 53 (.tmp 1) rfl b1 rfl 53 V (0, 0) _ HXV.out Try.underlying53 rfl HVI.out ?_)
  | (go_at_call 27; (with_reducible refine hgd.mono ?_); rintro e w2 ⟨rfl, hb2⟩; have HB2 := Lib.hid hb2; clear hb2 hgd))
 have HD2 := Lib.hid (show DS w2 (.slice none 0 0) w2.heap.size b1 V 53 [] (.slice none 0 0) w2 from ⟨Own.nil_ _ _, AStep.refl _ _, (HB2.out.block b1 (lt_of_blk HXV.out)).trans HXV.out, Nat.le_refl _⟩)
 have hq := bnum_any HD2.out.own HD2.out.le c.kind HFIT.out.kind.1 HFIT.out.kind.2 (by simp)
 have c0 := (HCV.out w2 HD2.out.blk).c0
 go_upto_region 4 with (go_at_call 68; (with_reducible refine hq.mono ?_); rintro e w8 ⟨X, rfl, hox, hsx⟩; have HD8 := Lib.hid (HD2.out.call (l' := numL c.kind) (by decide) (by simpa using hox) hsx); clear hq hox hsx c0; have c0 := (HCV.out w8 HD8.out.blk).c0)
 rw [HK.out] at c0
 have HKL := Lib.hid (numL_len' _ HFIT.out.kind)
 clear HD2
 go_upto_region 23 with fail
 refine wp_region_chainT (by kernel_rfl) [none, some (.pointer (some ⟨b1, 10, none⟩)), some (.pointer (some ⟨b1, 10, none⟩)), some (.int .i64 c.pk), none, some (.pointer (some ⟨b1, 10, none⟩)), some (.pointer (some ⟨b1, 11, none⟩)), some (.int .i64 c.py), none, some (.pointer (some ⟨b1, 10, none⟩)), some (.pointer (some ⟨b1, 12, none⟩)), some (.int .i64 c.px), none, none] [0, 4, 8, 12, 13] (fun k x W => match k with | 0 => DS w2 (.slice none 0 0) w2.heap.size b1 V 53 (numL c.kind) x W | k + 1 => DS w2 (.slice none 0 0) w2.heap.size b1 V 53 (numL c.kind ++ (([numL c.pk, numL c.py, numL c.px] : List (List UInt8)).take k).flatten) x W) 4 (by kernel_rfl) (by kernel_rfl) (by kernel_rfl) (by kernel_rfl) (by kernel_rfl) (fun m x W W' h hb => by match m, h with | 0, h => exact h.below hb | n + 1, h => exact h.below hb) HD8.out (fun i hi hn m a W hc hI hd => ?_) (fun k hk a W hc hI hd => ?_) (fun a wz hc hI hs => ?_)
 ·match i, hi, hn with
  | 0, _, hn => exact absurd hn (by decide)
  | 1, _, _ =>
   have z1 := hc.same 1 (by kernel_rfl)
   simp only [List.getElem?_toArray, List.getElem?_cons_succ, List.getElem?_cons_zero, Option.getD_some] at z1
   refine obl_val rfl (wanted_none rfl) ?_ rfl
   go_simp
  | 2, _, _ =>
   have s1 : a.tmps[113]?.getD undef = (.pointer (some ⟨b1, 10, none⟩)) := hd 1 (Nat.le_of_ble_eq_true rfl) (by kernel_rfl)
   refine obl_val rfl (wanted_none rfl) ?_ rfl
   go_simp
  | 3, _, _ =>
   have s2 : a.tmps[114]?.getD undef = (.pointer (some ⟨b1, 10, none⟩)) := hd 2 (Nat.le_of_ble_eq_true rfl) (by kernel_rfl)
   have hbk : W.heap[b1]? = some (.cells V 53 (0, 0)) := by match m, hI with | 0, hI => exact hI.blk | n + 1, hI => exact hI.blk
   obtain ⟨c0, c1, c2, c3, c4, c5, c6, c7, c8, c9, c10, c11, c12, c13, c14, c15, c16, c17, c18, c19, c20, c21⟩ := HCV.out W hbk
   refine obl_val rfl (wanted_none rfl) ?_ rfl
   go_simp
  | 4, _, hn => exact absurd hn (by decide)
  | 5, _, _ =>
   have z1 := hc.same 1 (by kernel_rfl)
   simp only [List.getElem?_toArray, List.getElem?_cons_succ, List.getElem?_cons_zero, Option.getD_some] at z1
   refine obl_val rfl (wanted_none rfl) ?_ rfl
   go_simp
  | 6, _, _ =>
   have s5 : a.tmps[117]?.getD undef = (.pointer (some ⟨b1, 10, none⟩)) := hd 5 (Nat.le_of_ble_eq_true rfl) (by kernel_rfl)
   refine obl_val rfl (wanted_none rfl) ?_ rfl
   go_simp
  | 7, _, _ =>
   have s6 : a.tmps[118]?.getD undef = (.pointer (some ⟨b1, 11, none⟩)) := hd 6 (Nat.le_of_ble_eq_true rfl) (by kernel_rfl)
   have hbk : W.heap[b1]? = some (.cells V 53 (0, 0)) := by match m, hI with | 0, hI => exact hI.blk | n + 1, hI => exact hI.blk
   obtain ⟨c0, c1, c2, c3, c4, c5, c6, c7, c8, c9, c10, c11, c12, c13, c14, c15, c16, c17, c18, c19, c20, c21⟩ := HCV.out W hbk
   refine obl_val rfl (wanted_none rfl) ?_ rfl
   go_simp
  | 8, _, hn => exact absurd hn (by decide)
  | 9, _, _ =>
   have z1 := hc.same 1 (by kernel_rfl)
   simp only [List.getElem?_toArray, List.getElem?_cons_succ, List.getElem?_cons_zero, Option.getD_some] at z1
   refine obl_val rfl (wanted_none rfl) ?_ rfl
   go_simp
  | 10, _, _ =>
   have s9 : a.tmps[121]?.getD undef = (.pointer (some ⟨b1, 10, none⟩)) := hd 9 (Nat.le_of_ble_eq_true rfl) (by kernel_rfl)
   refine obl_val rfl (wanted_none rfl) ?_ rfl
   go_simp
  | 11, _, _ =>
   have s10 : a.tmps[122]?.getD undef = (.pointer (some ⟨b1, 12, none⟩)) := hd 10 (Nat.le_of_ble_eq_true rfl) (by kernel_rfl)
   have hbk : W.heap[b1]? = some (.cells V 53 (0, 0)) := by match m, hI with | 0, hI => exact hI.blk | n + 1, hI => exact hI.blk
   obtain ⟨c0, c1, c2, c3, c4, c5, c6, c7, c8, c9, c10, c11, c12, c13, c14, c15, c16, c17, c18, c19, c20, c21⟩ := HCV.out W hbk
   refine obl_val rfl (wanted_none rfl) ?_ rfl
   go_simp
  | 12, _, hn => exact absurd hn (by decide)
  | 13, _, hn => exact absurd hn (by decide)
  | n + 14, h, _ => exact absurd h (by simp)
 ·match k, hk with
  | 0, _ =>
   have hI : (fun k x W => match k with | 0 => DS w2 (.slice none 0 0) w2.heap.size b1 V 53 (numL c.kind) x W | k + 1 => DS w2 (.slice none 0 0) w2.heap.size b1 V 53 (numL c.kind ++ (([numL c.pk, numL c.py, numL c.px] : List (List UInt8)).take k).flatten) x W) 0 (a.tmps[4]?.getD undef) W := hI
   have hI : DS w2 (.slice none 0 0) w2.heap.size b1 V 53 (numL c.kind) (a.tmps[4]?.getD undef) W := hI
   generalize hx : a.tmps[4]?.getD undef = x at hI
   refine obl_callV rfl (wanted_none rfl) (v := x) (by go_simp) ⟨rfl, trivial, ?_⟩
   simpa [List.take] using hI
  | 1, _ =>
   have s3 : a.tmps[115]?.getD undef = (.int .i64 c.pk) := hd 3 (Nat.le_of_ble_eq_true rfl) (by kernel_rfl)
   have hI : (fun k x W => match k with | 0 => DS w2 (.slice none 0 0) w2.heap.size b1 V 53 (numL c.kind) x W | k + 1 => DS w2 (.slice none 0 0) w2.heap.size b1 V 53 (numL c.kind ++ (([numL c.pk, numL c.py, numL c.px] : List (List UInt8)).take k).flatten) x W) 1 (a.tmps[112]?.getD undef) W := hI
   have hI : DS w2 (.slice none 0 0) w2.heap.size b1 V 53 (numL c.kind ++ (([numL c.pk, numL c.py, numL c.px] : List (List UInt8)).take 0).flatten) (a.tmps[112]?.getD undef) W := hI
   generalize hx : a.tmps[112]?.getD undef = x at hI
   refine obl_callK rfl (wanted_none rfl) (by go_simp) (bnum_any hI.own hI.le c.pk HFIT.out.pk.1 HFIT.out.pk.2 (by simp; have := HKL.out; omega)) ?_
   rintro e w9 ⟨x9, rfl, ho9, hs9⟩
   exact ⟨_, rfl, _, rfl, trivial, hI.call (by decide) (by simpa [List.take] using ho9) hs9⟩
  | 2, _ =>
   have s7 : a.tmps[119]?.getD undef = (.int .i64 c.py) := hd 7 (Nat.le_of_ble_eq_true rfl) (by kernel_rfl)
   have hI : (fun k x W => match k with | 0 => DS w2 (.slice none 0 0) w2.heap.size b1 V 53 (numL c.kind) x W | k + 1 => DS w2 (.slice none 0 0) w2.heap.size b1 V 53 (numL c.kind ++ (([numL c.pk, numL c.py, numL c.px] : List (List UInt8)).take k).flatten) x W) 2 (a.tmps[116]?.getD undef) W := hI
   have hI : DS w2 (.slice none 0 0) w2.heap.size b1 V 53 (numL c.kind ++ (([numL c.pk, numL c.py, numL c.px] : List (List UInt8)).take 1).flatten) (a.tmps[116]?.getD undef) W := hI
   generalize hx : a.tmps[116]?.getD undef = x at hI
   refine obl_callK rfl (wanted_none rfl) (by go_simp) (bnum_any hI.own hI.le c.py HFIT.out.py.1 HFIT.out.py.2 (by simp; have := HKL.out; have := numL_len' _ HFIT.out.pk; omega)) ?_
   rintro e w9 ⟨x9, rfl, ho9, hs9⟩
   exact ⟨_, rfl, _, rfl, trivial, hI.call (by decide) (by simpa [List.take] using ho9) hs9⟩
  | 3, _ =>
   have s11 : a.tmps[123]?.getD undef = (.int .i64 c.px) := hd 11 (Nat.le_of_ble_eq_true rfl) (by kernel_rfl)
   have hI : (fun k x W => match k with | 0 => DS w2 (.slice none 0 0) w2.heap.size b1 V 53 (numL c.kind) x W | k + 1 => DS w2 (.slice none 0 0) w2.heap.size b1 V 53 (numL c.kind ++ (([numL c.pk, numL c.py, numL c.px] : List (List UInt8)).take k).flatten) x W) 3 (a.tmps[120]?.getD undef) W := hI
   have hI : DS w2 (.slice none 0 0) w2.heap.size b1 V 53 (numL c.kind ++ (([numL c.pk, numL c.py, numL c.px] : List (List UInt8)).take 2).flatten) (a.tmps[120]?.getD undef) W := hI
   generalize hx : a.tmps[120]?.getD undef = x at hI
   refine obl_callK rfl (wanted_none rfl) (by go_simp) (bnum_any hI.own hI.le c.px HFIT.out.px.1 HFIT.out.px.2 (by simp; have := HKL.out; have := numL_len' _ HFIT.out.pk; have := numL_len' _ HFIT.out.py; omega)) ?_
   rintro e w9 ⟨x9, rfl, ho9, hs9⟩
   exact ⟨_, rfl, _, rfl, trivial, hI.call (by decide) (by simpa [List.take] using ho9) hs9⟩
  | 4, _ =>
   have hI : (fun k x W => match k with | 0 => DS w2 (.slice none 0 0) w2.heap.size b1 V 53 (numL c.kind) x W | k + 1 => DS w2 (.slice none 0 0) w2.heap.size b1 V 53 (numL c.kind ++ (([numL c.pk, numL c.py, numL c.px] : List (List UInt8)).take k).flatten) x W) 4 (a.tmps[124]?.getD undef) W := hI
   have hI : DS w2 (.slice none 0 0) w2.heap.size b1 V 53 (numL c.kind ++ (([numL c.pk, numL c.py, numL c.px] : List (List UInt8)).take 3).flatten) (a.tmps[124]?.getD undef) W := hI
   generalize hx : a.tmps[124]?.getD undef = x at hI
   refine obl_callV rfl (wanted_none rfl) (v := x) (by go_simp) ⟨rfl, trivial, ?_⟩
   simpa [List.take] using hI
  | n + 5, h => exact absurd h (by simp)
 ·skip
  have hI' : (fun k x W => match k with | 0 => DS w2 (.slice none 0 0) w2.heap.size b1 V 53 (numL c.kind) x W | k + 1 => DS w2 (.slice none 0 0) w2.heap.size b1 V 53 (numL c.kind ++ (([numL c.pk, numL c.py, numL c.px] : List (List UInt8)).take k).flatten) x W) 5 (a.tmps[4]?.getD undef) wz := hI
  have hfr := grow_frame hc [(112, a.tmps[112]?.getD undef), (113, (.pointer (some ⟨b1, 10, none⟩))), (114, (.pointer (some ⟨b1, 10, none⟩))), (115, (.int .i64 c.pk)), (116, a.tmps[116]?.getD undef), (117, (.pointer (some ⟨b1, 10, none⟩))), (118, (.pointer (some ⟨b1, 11, none⟩))), (119, (.int .i64 c.py)), (120, a.tmps[120]?.getD undef), (121, (.pointer (some ⟨b1, 10, none⟩))), (122, (.pointer (some ⟨b1, 12, none⟩))), (123, (.int .i64 c.px)), (124, a.tmps[124]?.getD undef), (4, a.tmps[4]?.getD undef)] (by kernel_rfl) (fun p hp => by
    simp only [List.mem_cons, List.not_mem_nil, or_false] at hp
    rcases hp with rfl | rfl | rfl | rfl | rfl | rfl | rfl | rfl | rfl | rfl | rfl | rfl | rfl | rfl
    ·rfl
    ·exact hs 1 113 (by decide) (by kernel_rfl)
    ·exact hs 2 114 (by decide) (by kernel_rfl)
    ·exact hs 3 115 (by decide) (by kernel_rfl)
    ·rfl
    ·exact hs 5 117 (by decide) (by kernel_rfl)
    ·exact hs 6 118 (by decide) (by kernel_rfl)
    ·exact hs 7 119 (by decide) (by kernel_rfl)
    ·rfl
    ·exact hs 9 121 (by decide) (by kernel_rfl)
    ·exact hs 10 122 (by decide) (by kernel_rfl)
    ·exact hs 11 123 (by decide) (by kernel_rfl)
    ·rfl
    ·rfl
    )
  generalize a.tmps[112]?.getD undef = z112 at hfr
  generalize a.tmps[116]?.getD undef = z116 at hfr
  generalize a.tmps[120]?.getD undef = z120 at hfr
  generalize a.tmps[124]?.getD undef = z124 at hfr
  generalize a.tmps[4]?.getD undef = z4 at hfr hI'
  simp only [List.range, List.range.loop, List.size_toArray, List.length_cons, List.length_nil, List.map_cons, List.map_nil, List.lookup_cons, List.lookup_nil, Nat.reduceAdd, Nat.reduceBEq, Option.getD_some, Option.getD_none, List.getElem?_toArray, List.getElem?_cons_succ, List.getElem?_cons_zero] at hfr
  subst hfr
  generalize z4 = xz at *
  have HDZ := Lib.hid (show DS w2 (.slice none 0 0) w2.heap.size b1 V 53 (numL c.kind ++ ([numL c.pk, numL c.py, numL c.px] : List (List UInt8)).flatten) xz wz by simpa [List.take] using hI')
  clear hc hs hI hI'
  go_wp2
  have hk := HK.out
  have hbo : bodyL c = ([numL c.pk, numL c.py, numL c.px] : List (List UInt8)).flatten := by rw [bodyL, if_neg (by rw [hk]; decide), if_neg (by rw [hk]; decide), if_neg (by rw [hk]; decide), if_neg (by rw [hk]; decide), if_neg (by rw [hk]; decide), if_neg (by rw [hk]; decide), if_neg (by rw [hk]; decide), if_neg (by rw [hk]; decide), if_pos (.inl hk)]
  have hoz := HDZ.out.own
  rw [← hbo] at hoz
  have HOZ := Lib.hid hoz
  have hbf := HB1.out.trans ((HB2.out.trans ((HDZ.out.st.low (Own.nil_ _ _) (Nat.le_refl _) (Nat.le_refl _)).mono HB2.out.size)).mono HB1.out.size)
  have HBF := Lib.hid hbf
  clear hbo hoz hbf hk
  go_ret2
  exact ⟨.inr ⟨HG.out, xz, rfl, HOZ.out.more (Nat.le_trans HB1.out.size HB2.out.size)⟩, HBF.out⟩
set_option maxRecDepth 100000 in
set_option maxHeartbeats 16000000 in
theorem renc_k10 {w : World} {B : Nat} {v : Value} {c : Cm} (hv : CmV w B v c) (hB : B ≤ w.heap.size) (hl : c.doc.ls.length ≤ 100000) (hk : c.kind = 10) (hG : goodCB c = true) :
  Calls Try.prog 32 #[v] w (EncPost c w) := by
 obtain ⟨A0, m0, V, rfl, HV, HV2, HVI, HB1, HX1, HLS, HOK⟩ := cmd_pre hv hB
 clear hv
 have hgd := rgood_any (c := c) ⟨.slice A0 c.doc.ls.length m0, by rw [HV.out], HLS.out _ HB1.out, HOK.out⟩ (Nat.le_trans hB HB1.out.size) hl
 rw [hG] at hgd
 have HG := Lib.hid hG
 clear hG
 go_enter Try.func32, Try.ntmps32
 go_upto_region 1 with fail
 generalize World.alloc w _ = w1 at *
 generalize hb : w.heap.size = b1 at HX1 ⊢
 have HBB := Lib.hid hb
 clear hb
 have HXV := Lib.hid (loadV HX1.out HV.out)
 have hfit := good_fit HG.out
 have HFIT := Lib.hid hfit
 have HCV := Lib.hid (show ∀ W, W.heap[b1]? = some (.cells V 53 (0, 0)) → CBox W b1 c (.slice A0 c.doc.ls.length m0) from fun W hW => CBlk.box (by unfold CBlk; rw [HV.out]; exact hW))
 have HK := Lib.hid hk
 clear hfit hk
 go_upto_region 3 with (first
  | (with_reducible refine wpList_load_row rfl 53 (.tmp 1) rfl b1 rfl 53 V (0, 0) _ HXV.out Try.underlying53 rfl HVI.out ?_)
  | (go_at_call 27; (with_reducible refine hgd.mono ?_); rintro e w2 ⟨rfl, hb2⟩; have HB2 := Lib.hid hb2; clear hb2 hgd))
 have HD2 := Lib.hid (show DS w2 (.slice none 0 0) w2.heap.size b1 V 53 [] (.slice none 0 0) w2 from ⟨Own.nil_ _ _, AStep.refl _ _, (HB2.out.block b1 (lt_of_blk HXV.out)).trans HXV.out, Nat.le_refl _⟩)
 have hq := bnum_any HD2.out.own HD2.out.le c.kind HFIT.out.kind.1 HFIT.out.kind.2 (by simp)
 have c0 := (HCV.out w2 HD2.out.blk).c0
 go_upto_region 4 with (go_at_call 68; (with_reducible refine hq.mono ?_); rintro e w8 ⟨X, rfl, hox, hsx⟩; have HD8 := Lib.hid (HD2.out.call (l' := numL c.kind) (by decide) (by simpa using hox) hsx); clear hq hox hsx c0; have c0 := (HCV.out w8 HD8.out.blk).c0)
 rw [HK.out] at c0
 have HKL := Lib.hid (numL_len' _ HFIT.out.kind)
 clear HD2
 go_upto_region 23 with fail
 refine wp_region_chainT (by kernel_rfl) [none, some (.pointer (some ⟨b1, 10, none⟩)), some (.pointer (some ⟨b1, 10, none⟩)), some (.int .i64 c.pk), none, some (.pointer (some ⟨b1, 10, none⟩)), some (.pointer (some ⟨b1, 11, none⟩)), some (.int .i64 c.py), none, some (.pointer (some ⟨b1, 10, none⟩)), some (.pointer (some ⟨b1, 12, none⟩)), some (.int .i64 c.px), none, none] [0, 4, 8, 12, 13] (fun k x W => match k with | 0 => DS w2 (.slice none 0 0) w2.heap.size b1 V 53 (numL c.kind) x W | k + 1 => DS w2 (.slice none 0 0) w2.heap.size b1 V 53 (numL c.kind ++ (([numL c.pk, numL c.py, numL c.px] : List (List UInt8)).take k).flatten) x W) 4 (by kernel_rfl) (by kernel_rfl) (by kernel_rfl) (by kernel_rfl) (by kernel_rfl) (fun m x W W' h hb => by match m, h with | 0, h => exact h.below hb | n + 1, h => exact h.below hb) HD8.out (fun i hi hn m a W hc hI hd => ?_) (fun k hk a W hc hI hd => ?_) (fun a wz hc hI hs => ?_)
 ·match i, hi, hn with
  | 0, _, hn => exact absurd hn (by decide)
  | 1, _, _ =>
   have z1 := hc.same 1 (by kernel_rfl)
   simp only [List.getElem?_toArray, List.getElem?_cons_succ, List.getElem?_cons_zero, Option.getD_some] at z1
   refine obl_val rfl (wanted_none rfl) ?_ rfl
   go_simp
  | 2, _, _ =>
   have s1 : a.tmps[113]?.getD undef = (.pointer (some ⟨b1, 10, none⟩)) := hd 1 (Nat.le_of_ble_eq_true rfl) (by kernel_rfl)
   refine obl_val rfl (wanted_none rfl) ?_ rfl
   go_simp
  | 3, _, _ =>
   have s2 : a.tmps[114]?.getD undef = (.pointer (some ⟨b1, 10, none⟩)) := hd 2 (Nat.le_of_ble_eq_true rfl) (by kernel_rfl)
   have hbk : W.heap[b1]? = some (.cells V 53 (0, 0)) := by match m, hI with | 0, hI => exact hI.blk | n + 1, hI => exact hI.blk
   obtain ⟨c0, c1, c2, c3, c4, c5, c6, c7, c8, c9, c10, c11, c12, c13, c14, c15, c16, c17, c18, c19, c20, c21⟩ := HCV.out W hbk
   refine obl_val rfl (wanted_none rfl) ?_ rfl
   go_simp
  | 4, _, hn => exact absurd hn (by decide)
  | 5, _, _ =>
   have z1 := hc.same 1 (by kernel_rfl)
   simp only [List.getElem?_toArray, List.getElem?_cons_succ, List.getElem?_cons_zero, Option.getD_some] at z1
   refine obl_val rfl (wanted_none rfl) ?_ rfl
   go_simp
  | 6, _, _ =>
   have s5 : a.tmps[117]?.getD undef = (.pointer (some ⟨b1, 10, none⟩)) := hd 5 (Nat.le_of_ble_eq_true rfl) (by kernel_rfl)
   refine obl_val rfl (wanted_none rfl) ?_ rfl
   go_simp
  | 7, _, _ =>
   have s6 : a.tmps[118]?.getD undef = (.pointer (some ⟨b1, 11, none⟩)) := hd 6 (Nat.le_of_ble_eq_true rfl) (by kernel_rfl)
   have hbk : W.heap[b1]? = some (.cells V 53 (0, 0)) := by match m, hI with | 0, hI => exact hI.blk | n + 1, hI => exact hI.blk
   obtain ⟨c0, c1, c2, c3, c4, c5, c6, c7, c8, c9, c10, c11, c12, c13, c14, c15, c16, c17, c18, c19, c20, c21⟩ := HCV.out W hbk
   refine obl_val rfl (wanted_none rfl) ?_ rfl
   go_simp
  | 8, _, hn => exact absurd hn (by decide)
  | 9, _, _ =>
   have z1 := hc.same 1 (by kernel_rfl)
   simp only [List.getElem?_toArray, List.getElem?_cons_succ, List.getElem?_cons_zero, Option.getD_some] at z1
   refine obl_val rfl (wanted_none rfl) ?_ rfl
   go_simp
  | 10, _, _ =>
   have s9 : a.tmps[121]?.getD undef = (.pointer (some ⟨b1, 10, none⟩)) := hd 9 (Nat.le_of_ble_eq_true rfl) (by kernel_rfl)
   refine obl_val rfl (wanted_none rfl) ?_ rfl
   go_simp
  | 11, _, _ =>
   have s10 : a.tmps[122]?.getD undef = (.pointer (some ⟨b1, 12, none⟩)) := hd 10 (Nat.le_of_ble_eq_true rfl) (by kernel_rfl)
   have hbk : W.heap[b1]? = some (.cells V 53 (0, 0)) := by match m, hI with | 0, hI => exact hI.blk | n + 1, hI => exact hI.blk
   obtain ⟨c0, c1, c2, c3, c4, c5, c6, c7, c8, c9, c10, c11, c12, c13, c14, c15, c16, c17, c18, c19, c20, c21⟩ := HCV.out W hbk
   refine obl_val rfl (wanted_none rfl) ?_ rfl
   go_simp
  | 12, _, hn => exact absurd hn (by decide)
  | 13, _, hn => exact absurd hn (by decide)
  | n + 14, h, _ => exact absurd h (by simp)
 ·match k, hk with
  | 0, _ =>
   have hI : (fun k x W => match k with | 0 => DS w2 (.slice none 0 0) w2.heap.size b1 V 53 (numL c.kind) x W | k + 1 => DS w2 (.slice none 0 0) w2.heap.size b1 V 53 (numL c.kind ++ (([numL c.pk, numL c.py, numL c.px] : List (List UInt8)).take k).flatten) x W) 0 (a.tmps[4]?.getD undef) W := hI
   have hI : DS w2 (.slice none 0 0) w2.heap.size b1 V 53 (numL c.kind) (a.tmps[4]?.getD undef) W := hI
   generalize hx : a.tmps[4]?.getD undef = x at hI
   refine obl_callV rfl (wanted_none rfl) (v := x) (by go_simp) ⟨rfl, trivial, ?_⟩
   simpa [List.take] using hI
  | 1, _ =>
   have s3 : a.tmps[115]?.getD undef = (.int .i64 c.pk) := hd 3 (Nat.le_of_ble_eq_true rfl) (by kernel_rfl)
   have hI : (fun k x W => match k with | 0 => DS w2 (.slice none 0 0) w2.heap.size b1 V 53 (numL c.kind) x W | k + 1 => DS w2 (.slice none 0 0) w2.heap.size b1 V 53 (numL c.kind ++ (([numL c.pk, numL c.py, numL c.px] : List (List UInt8)).take k).flatten) x W) 1 (a.tmps[112]?.getD undef) W := hI
   have hI : DS w2 (.slice none 0 0) w2.heap.size b1 V 53 (numL c.kind ++ (([numL c.pk, numL c.py, numL c.px] : List (List UInt8)).take 0).flatten) (a.tmps[112]?.getD undef) W := hI
   generalize hx : a.tmps[112]?.getD undef = x at hI
   refine obl_callK rfl (wanted_none rfl) (by go_simp) (bnum_any hI.own hI.le c.pk HFIT.out.pk.1 HFIT.out.pk.2 (by simp; have := HKL.out; omega)) ?_
   rintro e w9 ⟨x9, rfl, ho9, hs9⟩
   exact ⟨_, rfl, _, rfl, trivial, hI.call (by decide) (by simpa [List.take] using ho9) hs9⟩
  | 2, _ =>
   have s7 : a.tmps[119]?.getD undef = (.int .i64 c.py) := hd 7 (Nat.le_of_ble_eq_true rfl) (by kernel_rfl)
   have hI : (fun k x W => match k with | 0 => DS w2 (.slice none 0 0) w2.heap.size b1 V 53 (numL c.kind) x W | k + 1 => DS w2 (.slice none 0 0) w2.heap.size b1 V 53 (numL c.kind ++ (([numL c.pk, numL c.py, numL c.px] : List (List UInt8)).take k).flatten) x W) 2 (a.tmps[116]?.getD undef) W := hI
   have hI : DS w2 (.slice none 0 0) w2.heap.size b1 V 53 (numL c.kind ++ (([numL c.pk, numL c.py, numL c.px] : List (List UInt8)).take 1).flatten) (a.tmps[116]?.getD undef) W := hI
   generalize hx : a.tmps[116]?.getD undef = x at hI
   refine obl_callK rfl (wanted_none rfl) (by go_simp) (bnum_any hI.own hI.le c.py HFIT.out.py.1 HFIT.out.py.2 (by simp; have := HKL.out; have := numL_len' _ HFIT.out.pk; omega)) ?_
   rintro e w9 ⟨x9, rfl, ho9, hs9⟩
   exact ⟨_, rfl, _, rfl, trivial, hI.call (by decide) (by simpa [List.take] using ho9) hs9⟩
  | 3, _ =>
   have s11 : a.tmps[123]?.getD undef = (.int .i64 c.px) := hd 11 (Nat.le_of_ble_eq_true rfl) (by kernel_rfl)
   have hI : (fun k x W => match k with | 0 => DS w2 (.slice none 0 0) w2.heap.size b1 V 53 (numL c.kind) x W | k + 1 => DS w2 (.slice none 0 0) w2.heap.size b1 V 53 (numL c.kind ++ (([numL c.pk, numL c.py, numL c.px] : List (List UInt8)).take k).flatten) x W) 3 (a.tmps[120]?.getD undef) W := hI
   have hI : DS w2 (.slice none 0 0) w2.heap.size b1 V 53 (numL c.kind ++ (([numL c.pk, numL c.py, numL c.px] : List (List UInt8)).take 2).flatten) (a.tmps[120]?.getD undef) W := hI
   generalize hx : a.tmps[120]?.getD undef = x at hI
   refine obl_callK rfl (wanted_none rfl) (by go_simp) (bnum_any hI.own hI.le c.px HFIT.out.px.1 HFIT.out.px.2 (by simp; have := HKL.out; have := numL_len' _ HFIT.out.pk; have := numL_len' _ HFIT.out.py; omega)) ?_
   rintro e w9 ⟨x9, rfl, ho9, hs9⟩
   exact ⟨_, rfl, _, rfl, trivial, hI.call (by decide) (by simpa [List.take] using ho9) hs9⟩
  | 4, _ =>
   have hI : (fun k x W => match k with | 0 => DS w2 (.slice none 0 0) w2.heap.size b1 V 53 (numL c.kind) x W | k + 1 => DS w2 (.slice none 0 0) w2.heap.size b1 V 53 (numL c.kind ++ (([numL c.pk, numL c.py, numL c.px] : List (List UInt8)).take k).flatten) x W) 4 (a.tmps[124]?.getD undef) W := hI
   have hI : DS w2 (.slice none 0 0) w2.heap.size b1 V 53 (numL c.kind ++ (([numL c.pk, numL c.py, numL c.px] : List (List UInt8)).take 3).flatten) (a.tmps[124]?.getD undef) W := hI
   generalize hx : a.tmps[124]?.getD undef = x at hI
   refine obl_callV rfl (wanted_none rfl) (v := x) (by go_simp) ⟨rfl, trivial, ?_⟩
   simpa [List.take] using hI
  | n + 5, h => exact absurd h (by simp)
 ·skip
  have hI' : (fun k x W => match k with | 0 => DS w2 (.slice none 0 0) w2.heap.size b1 V 53 (numL c.kind) x W | k + 1 => DS w2 (.slice none 0 0) w2.heap.size b1 V 53 (numL c.kind ++ (([numL c.pk, numL c.py, numL c.px] : List (List UInt8)).take k).flatten) x W) 5 (a.tmps[4]?.getD undef) wz := hI
  have hfr := grow_frame hc [(112, a.tmps[112]?.getD undef), (113, (.pointer (some ⟨b1, 10, none⟩))), (114, (.pointer (some ⟨b1, 10, none⟩))), (115, (.int .i64 c.pk)), (116, a.tmps[116]?.getD undef), (117, (.pointer (some ⟨b1, 10, none⟩))), (118, (.pointer (some ⟨b1, 11, none⟩))), (119, (.int .i64 c.py)), (120, a.tmps[120]?.getD undef), (121, (.pointer (some ⟨b1, 10, none⟩))), (122, (.pointer (some ⟨b1, 12, none⟩))), (123, (.int .i64 c.px)), (124, a.tmps[124]?.getD undef), (4, a.tmps[4]?.getD undef)] (by kernel_rfl) (fun p hp => by
    simp only [List.mem_cons, List.not_mem_nil, or_false] at hp
    rcases hp with rfl | rfl | rfl | rfl | rfl | rfl | rfl | rfl | rfl | rfl | rfl | rfl | rfl | rfl
    ·rfl
    ·exact hs 1 113 (by decide) (by kernel_rfl)
    ·exact hs 2 114 (by decide) (by kernel_rfl)
    ·exact hs 3 115 (by decide) (by kernel_rfl)
    ·rfl
    ·exact hs 5 117 (by decide) (by kernel_rfl)
    ·exact hs 6 118 (by decide) (by kernel_rfl)
    ·exact hs 7 119 (by decide) (by kernel_rfl)
    ·rfl
    ·exact hs 9 121 (by decide) (by kernel_rfl)
    ·exact hs 10 122 (by decide) (by kernel_rfl)
    ·exact hs 11 123 (by decide) (by kernel_rfl)
    ·rfl
    ·rfl
    )
  generalize a.tmps[112]?.getD undef = z112 at hfr
  generalize a.tmps[116]?.getD undef = z116 at hfr
  generalize a.tmps[120]?.getD undef = z120 at hfr
  generalize a.tmps[124]?.getD undef = z124 at hfr
  generalize a.tmps[4]?.getD undef = z4 at hfr hI'
  simp only [List.range, List.range.loop, List.size_toArray, List.length_cons, List.length_nil, List.map_cons, List.map_nil, List.lookup_cons, List.lookup_nil, Nat.reduceAdd, Nat.reduceBEq, Option.getD_some, Option.getD_none, List.getElem?_toArray, List.getElem?_cons_succ, List.getElem?_cons_zero] at hfr
  subst hfr
  generalize z4 = xz at *
  have HDZ := Lib.hid (show DS w2 (.slice none 0 0) w2.heap.size b1 V 53 (numL c.kind ++ ([numL c.pk, numL c.py, numL c.px] : List (List UInt8)).flatten) xz wz by simpa [List.take] using hI')
  clear hc hs hI hI'
  go_wp2
  have hk := HK.out
  have hbo : bodyL c = ([numL c.pk, numL c.py, numL c.px] : List (List UInt8)).flatten := by rw [bodyL, if_neg (by rw [hk]; decide), if_neg (by rw [hk]; decide), if_neg (by rw [hk]; decide), if_neg (by rw [hk]; decide), if_neg (by rw [hk]; decide), if_neg (by rw [hk]; decide), if_neg (by rw [hk]; decide), if_neg (by rw [hk]; decide), if_pos (.inr hk)]
  have hoz := HDZ.out.own
  rw [← hbo] at hoz
  have HOZ := Lib.hid hoz
  have hbf := HB1.out.trans ((HB2.out.trans ((HDZ.out.st.low (Own.nil_ _ _) (Nat.le_refl _) (Nat.le_refl _)).mono HB2.out.size)).mono HB1.out.size)
  have HBF := Lib.hid hbf
  clear hbo hoz hbf hk
  go_ret2
  exact ⟨.inr ⟨HG.out, xz, rfl, HOZ.out.more (Nat.le_trans HB1.out.size HB2.out.size)⟩, HBF.out⟩
set_option maxRecDepth 100000 in
set_option maxHeartbeats 16000000 in
theorem renc_k11 {w : World} {B : Nat} {v : Value} {c : Cm} (hv : CmV w B v c) (hB : B ≤ w.heap.size) (hl : c.doc.ls.length ≤ 100000) (hk : c.kind = 11) (hG : goodCB c = true) :
  Calls Try.prog 32 #[v] w (EncPost c w) := by
 obtain ⟨A0, m0, V, rfl, HV, HV2, HVI, HB1, HX1, HLS, HOK⟩ := cmd_pre hv hB
 clear hv
 have hgd := rgood_any (c := c) ⟨.slice A0 c.doc.ls.length m0, by rw [HV.out], HLS.out _ HB1.out, HOK.out⟩ (Nat.le_trans hB HB1.out.size) hl
 rw [hG] at hgd
 have HG := Lib.hid hG
 clear hG
 go_enter Try.func32, Try.ntmps32
 go_upto_region 1 with fail
 generalize World.alloc w _ = w1 at *
 generalize hb : w.heap.size = b1 at HX1 ⊢
 have HBB := Lib.hid hb
 clear hb
 have HXV := Lib.hid (loadV HX1.out HV.out)
 have hfit := good_fit HG.out
 have HFIT := Lib.hid hfit
 have HCV := Lib.hid (show ∀ W, W.heap[b1]? = some (.cells V 53 (0, 0)) → CBox W b1 c (.slice A0 c.doc.ls.length m0) from fun W hW => CBlk.box (by unfold CBlk; rw [HV.out]; exact hW))
 have HK := Lib.hid hk
 clear hfit hk
 go_upto_region 3 with (first
  | (with_reducible refine wpList_load_row rfl 53 (.tmp 1) rfl b1 rfl 53 V (0, 0) _ HXV.out Try.underlying53 rfl HVI.out ?_)
  | (go_at_call 27; (with_reducible refine hgd.mono ?_); rintro e w2 ⟨rfl, hb2⟩; have HB2 := Lib.hid hb2; clear hb2 hgd))
 have HD2 := Lib.hid (show DS w2 (.slice none 0 0) w2.heap.size b1 V 53 [] (.slice none 0 0) w2 from ⟨Own.nil_ _ _, AStep.refl _ _, (HB2.out.block b1 (lt_of_blk HXV.out)).trans HXV.out, Nat.le_refl _⟩)
 have hq := bnum_any HD2.out.own HD2.out.le c.kind HFIT.out.kind.1 HFIT.out.kind.2 (by simp)
 have c0 := (HCV.out w2 HD2.out.blk).c0
 go_upto_region 4 with (go_at_call 68; (with_reducible refine hq.mono ?_); rintro e w8 ⟨X, rfl, hox, hsx⟩; have HD8 := Lib.hid (HD2.out.call (l' := numL c.kind) (by decide) (by simpa using hox) hsx); clear hq hox hsx c0; have c0 := (HCV.out w8 HD8.out.blk).c0)
 rw [HK.out] at c0
 have HKL := Lib.hid (numL_len' _ HFIT.out.kind)
 clear HD2
 obtain ⟨_, c1, c2, c3, c4, c5, c6, c7, c8, c9, c10, c11, c12, c13, c14, c15, c16, c17, c18, c19, c20, c21⟩ := HCV.out w8 HD8.out.blk
 have hq := bnum_any HD8.out.own HD8.out.le c.py HFIT.out.py.1 HFIT.out.py.2 (by have := HKL.out; omega)
 go_wp2_with (go_at_call 68; (with_reducible refine hq.mono ?_); rintro e wz ⟨xz, rfl, hox, hsx⟩; have HDZ := Lib.hid (HD8.out.call (l' := numL c.kind ++ ([numL c.py] : List (List UInt8)).flatten) (by decide) (by simpa using hox) hsx); clear hq hox hsx)
 have hk := HK.out
 have hbo : bodyL c = ([numL c.py] : List (List UInt8)).flatten := by rw [bodyL, if_neg (by rw [hk]; decide), if_neg (by rw [hk]; decide), if_neg (by rw [hk]; decide), if_neg (by rw [hk]; decide), if_neg (by rw [hk]; decide), if_neg (by rw [hk]; decide), if_neg (by rw [hk]; decide), if_neg (by rw [hk]; decide), if_neg (by rw [hk]; decide), if_pos hk]
 have hoz := HDZ.out.own
 rw [← hbo] at hoz
 have HOZ := Lib.hid hoz
 have hbf := HB1.out.trans ((HB2.out.trans ((HDZ.out.st.low (Own.nil_ _ _) (Nat.le_refl _) (Nat.le_refl _)).mono HB2.out.size)).mono HB1.out.size)
 have HBF := Lib.hid hbf
 clear hbo hoz hbf hk
 go_ret2
 exact ⟨.inr ⟨HG.out, xz, rfl, HOZ.out.more (Nat.le_trans HB1.out.size HB2.out.size)⟩, HBF.out⟩
theorem rencode_any {w : World} {B : Nat} {v : Value} {c : Cm} (hv : CmV w B v c) (hB : B ≤ w.heap.size) (hl : c.doc.ls.length ≤ 100000) : Calls Try.prog 32 #[v] w (EncPost c w) := by
 cases hG : goodCB c
 ·exact renc_bad hv hB hl hG
 by_cases h1 : c.kind = 1
 ·exact renc_k1 hv hB hl h1 hG
 by_cases h2 : c.kind = 2
 ·exact renc_k2 hv hB hl h2 hG
 by_cases h3 : c.kind = 3
 ·exact renc_k3 hv hB hl h3 hG
 by_cases h4 : c.kind = 4
 ·exact renc_k4 hv hB hl h4 hG
 by_cases h5 : c.kind = 5
 ·exact renc_k5 hv hB hl h5 hG
 by_cases h6 : c.kind = 6
 ·exact renc_k6 hv hB hl h6 hG
 by_cases h7 : c.kind = 7
 ·exact renc_k7 hv hB hl h7 hG
 by_cases h8 : c.kind = 8
 ·exact renc_k8 hv hB hl h8 hG
 by_cases h9 : c.kind = 9
 ·exact renc_k9 hv hB hl h9 hG
 by_cases h10 : c.kind = 10
 ·exact renc_k10 hv hB hl h10 hG
 by_cases h11 : c.kind = 11
 ·exact renc_k11 hv hB hl h11 hG
 have hk := (good_kind hG).1
 unfold kindB at hk
 simp [h1, h2, h3, h4, h5, h6, h7, h8, h9, h10, h11] at hk
end Go.Proofs.Ytnfpmobmfcgfnaa

