/- THE WALK OF CrcWraps. -/
import Derived.Test.YtmcjefdnkcpghaaLaw1
import Derived.Deep.RegionWith
import Derived.Test.YtmcjefdnkcpghaaGrowB
namespace Go.Proofs.Ytmcjefdnkcpghaa
open Go.RowKit
/-- what Unwrap tells, whatever came in: the program's and the document's are one -/
def UwRes (w0 : World) (l : List UInt8) (y : Value) (f : Int) (w : World) : Prop :=
  ∃ m : List UInt8, Byt w w0.heap.size y m ∧ (m, f) = (if l.length < 4 then ([], 10) else if Crc.on 0 (nats (l.drop 4)) = wantL l then (l.drop 4, 0) else ([], 12))
theorem unwrap_res (v : Value) (l : List UInt8) (w : World) (B : Nat) (hv : Byt w B v l) :
    Calls Try.prog 28 #[v] w fun e w' => ∃ y f, e = .returned (.tuple #[y, .int .i64 f]) ∧ UwRes w l y f w' ∧ Below w.heap.size w w' := by
  by_cases hl : l.length < 4
  · refine (unwrap_short v l w B hv hl).mono ?_
    rintro e w' ⟨rfl, rfl⟩
    exact ⟨_, _, rfl, ⟨[], Byt.nil_ _ _, by rw [if_pos hl]⟩, Below.refl _ _⟩
  · refine (unwrap_long v l w B hv (by omega)).mono ?_
    rintro e w' ⟨h1, h2, h3⟩
    by_cases hs : Crc.on 0 (nats (l.drop 4)) = wantL l
    · obtain ⟨r, rfl, hr⟩ := h1 hs
      exact ⟨_, _, rfl, ⟨_, hr, by rw [if_neg hl, if_pos hs]⟩, h3⟩
    · rw [h2 hs]
      exact ⟨_, _, rfl, ⟨[], Byt.nil_ _ _, by rw [if_neg hl, if_neg hs]⟩, h3⟩
theorem runwrap_res (v : Value) (l : List UInt8) (w : World) (B : Nat) (hv : Byt w B v l) (hl2 : l.length ≤ 1000000) :
    Calls Try.prog 29 #[v] w fun e w' => ∃ y f, e = .returned (.tuple #[y, .int .i64 f]) ∧ UwRes w l y f w' ∧ Below w.heap.size w w' := by
  by_cases hl : l.length < 4
  · refine (runwrap_short v l w B hv hl).mono ?_
    rintro e w' ⟨rfl, rfl⟩
    exact ⟨_, _, rfl, ⟨[], Byt.nil_ _ _, by rw [if_pos hl]⟩, Below.refl _ _⟩
  · refine (runwrap_long v l w B hv (by omega) hl2).mono ?_
    rintro e w' ⟨h1, h2, h3⟩
    by_cases hs : Crc.on 0 (nats (l.drop 4)) = wantL l
    · obtain ⟨r, rfl, hr⟩ := h1 hs
      exact ⟨_, _, rfl, ⟨_, hr, by rw [if_neg hl, if_pos hs]⟩, h3⟩
    · rw [h2 hs]
      exact ⟨_, _, rfl, ⟨[], Byt.nil_ _ _, by rw [if_neg hl, if_neg hs]⟩, h3⟩
/-- the texts that the law holds against each other, in one world and all that are grown from it -/
def Same5 (w : World) (B : Nat) (x r v y z : Value) (l m t : List UInt8) : Prop := Byt w B x t ∧ Byt w B r l ∧ Byt w B v l ∧ Byt w B y m ∧ Byt w B z m
theorem Same5.run {w : World} {B : Nat} {x r v y z : Value} {l m t : List UInt8} (h : Same5 w B x r v y z l m t) :
    (convert 23 9 x).run Try.prog w = .ok (.string ⟨t.toArray⟩) w ∧ (convert 23 9 r).run Try.prog w = .ok (.string ⟨l.toArray⟩) w ∧ (convert 23 9 v).run Try.prog w = .ok (.string ⟨l.toArray⟩) w ∧
    (convert 23 9 y).run Try.prog w = .ok (.string ⟨m.toArray⟩) w ∧ (convert 23 9 z).run Try.prog w = .ok (.string ⟨m.toArray⟩) w :=
  ⟨h.1.str, h.2.1.str, h.2.2.1.str, h.2.2.2.1.str, h.2.2.2.2.str⟩
theorem Same5.below {w w' : World} {B : Nat} {x r v y z : Value} {l m t : List UInt8} (h : Same5 w B x r v y z l m t) (hb : Below B w w') : Same5 w' B x r v y z l m t :=
  ⟨h.1.below hb, h.2.1.below hb, h.2.2.1.below hb, h.2.2.2.1.below hb, h.2.2.2.2.below hb⟩
set_option linter.unusedSimpArgs false in
set_option maxRecDepth 100000 in
set_option maxHeartbeats 2000000 in
theorem crcWraps_walk (v : Value) (l : List UInt8) {B : Nat} {w : World} (hv : Byt w B v l) :
    Calls Try.prog 4 #[v] w (LawPost w) := by
  have hv1 := hv.heap
  clear hv
  obtain ⟨A, c, rfl, hc, hm, hr⟩ := id hv1
  unfold maxLen at hm
  clear hr
  by_cases hla : l.length ≤ 20000
  rotate_left
  · go_enter Try.func4, Try.ntmps4
    go_wp2_with (go_at_call 22; refine (lives06 _).mono ?_; rintro e w3 ⟨rfl, hb3⟩)
    go_ret
    exact ⟨rfl, hb3⟩
  go_enter Try.func4, Try.ntmps4
  go_wp2_with fail
  refine (wrap_any _ l _ _ hv1 (by omega)).mono ?_
  rintro e w1 ⟨x, rfl, hx1, hb1⟩
  have hbel1 := Lib.hid hb1
  have hv2 := hv1.below hb1
  have hx2 := hx1.byt
  clear hb1
  go_wp2_with fail
  refine (unwrap_long _ _ _ _ hx2 (by rw [wrapL_length]; omega)).mono ?_
  rintro e w2 ⟨hp, _, hb2⟩
  obtain ⟨r, rfl, hr⟩ := hp (want_wrapL _)
  rw [drop_wrapL] at hr
  have hbel2 := Lib.hid (hbel1.out.trans (hb2.mono hbel1.out.size))
  have hv3 := hv2.below (hb2.mono hbel1.out.size)
  have hx3 := hx2.below hb2
  have hr3 := hr.heap
  clear hb2 hp hr
  go_wp2_with fail
  refine (unwrap_res _ _ _ _ hv3).mono ?_
  rintro e w3 ⟨y, f, rfl, hy, hb3⟩
  obtain ⟨m, hy, hmf⟩ := hy
  have hbel3 := Lib.hid (hbel2.out.trans (hb3.mono hbel2.out.size))
  have hv4 := hv3.below (hb3.mono hbel2.out.size)
  have hx4 := hx3.heap.below hb3
  have hr4 := hr3.below hb3
  clear hb3
  go_wp2_with fail
  refine (runwrap_res _ _ _ _ hv4 (by omega)).mono ?_
  rintro e w4 ⟨z, f', rfl, hz, hb4⟩
  obtain ⟨m', hz, hmf'⟩ := hz
  obtain ⟨rfl, rfl⟩ : m = m' ∧ f = f' := by
    have := hmf.trans hmf'.symm
    simpa using this
  have hbel4 := Lib.hid (hbel3.out.trans (hb4.mono hbel3.out.size))
  have h5 : Same5 w4 w4.heap.size x r (.slice A l.length c) y z l m (wrapL l) := ⟨(hx4.heap.below hb4).heap, (hr4.heap.below hb4).heap, (hv4.heap.below hb4).heap, (hy.heap.below hb4).heap, hz.heap⟩
  clear hb4 hmf hmf' hx1 hx2 hx3 hx4 hr3 hr4 hv1 hv2 hv3 hv4 hy hz
  go_wp2_with fail
  have HB := Lib.hid (show Below w.heap.size w w4.drew from hbel4.out.drew)
  have H5 := Lib.hid (show Same5 w4.drew w4.drew.heap.size x r (.slice A l.length c) y z l m (wrapL l) from h5)
  clear h5
  refine wp_region_sp (by kernel_rfl) [isS x, isS (.string ⟨(wrapL l).toArray⟩), isS (.slice A l.length c), bytS (wrapL l), isS (.string ⟨(wrapL l).toArray⟩), isS (.bool true), isS (.bool true), isS r, isS (.string ⟨l.toArray⟩), isS (.slice A l.length c), isS (.string ⟨l.toArray⟩), isS (.bool true), isS (.bool true), isS (.bool true), isS (.int .i64 0), isS (.bool true), isS (.bool true), isS (.bool true), isS y, isS (.string ⟨m.toArray⟩), isS z, isS (.string ⟨m.toArray⟩), isS (.bool true), isS (.bool true), isS (.bool true), isS (.int .i64 f), isS (.int .i64 f), isS (.bool true), isS (.bool true), isS (.bool true), isS (.bool true), isS (.bool true), isS (.bool true)] (by kernel_rfl) (by kernel_rfl) (fun i hi => ?_) (fun a w5 hc hs => ?_)
  · match i, hi with
    | 0, _ =>
      intro a W hc hd
      have z3 := hc.same 3 (by kernel_rfl)
      simp only [List.getElem?_toArray, List.getElem?_cons_succ, List.getElem?_cons_zero, Option.getD_some] at z3
      refine obl_val rfl (wanted_none rfl) ?_ rfl
      go_simp
    | 1, _ =>
      intro a W hc hd
      have s0 : a.tmps[31]?.getD undef = x := hd 0 (by kernel_rfl)
      obtain ⟨q1, q2, q3, q4, q5⟩ := (H5.out.below hc.below).run
      refine obl_val rfl (wanted_none rfl) ?_ rfl
      go_simp
    | 2, _ =>
      intro a W hc hd
      have z0 := hc.same 0 (by kernel_rfl)
      simp only [List.getElem?_toArray, List.getElem?_cons_succ, List.getElem?_cons_zero, Option.getD_some] at z0
      refine obl_val rfl (wanted_none rfl) ?_ rfl
      go_simp
    | 3, _ =>
      intro a W hc hd
      have s2 : a.tmps[33]?.getD undef = (.slice A l.length c) := hd 2 (by kernel_rfl)
      refine obl_call rfl (wanted_none rfl) (by go_simp) (rwrap_any _ l W W.heap.size (H5.out.below hc.below).2.2.1.heap (by omega)) ?_
      rintro e w5 ⟨r5, rfl, hown, hb⟩
      exact ⟨r5, rfl, hown.byt, hb⟩
    | 4, _ =>
      intro a W hc hd
      have s3 : (bytS (wrapL l)).f (a.tmps[34]?.getD undef) W := hd 3 (by kernel_rfl)
      have q := Byt.str s3
      refine obl_val rfl (wanted_none rfl) ?_ rfl
      go_simp
    | 5, _ =>
      intro a W hc hd
      have s1 : a.tmps[32]?.getD undef = (.string ⟨(wrapL l).toArray⟩) := hd 1 (by kernel_rfl)
      have s4 : a.tmps[35]?.getD undef = (.string ⟨(wrapL l).toArray⟩) := hd 4 (by kernel_rfl)
      refine obl_val rfl (wanted_none rfl) ?_ rfl
      go_simp
    | 6, _ =>
      intro a W hc hd
      have s5 : a.tmps[36]?.getD undef = (.bool true) := hd 5 (by kernel_rfl)
      refine obl_val rfl (wanted_none rfl) ?_ rfl
      go_simp
    | 7, _ =>
      intro a W hc hd
      have z4 := hc.same 4 (by kernel_rfl)
      have s6 : a.tmps[37]?.getD undef = (.bool true) := hd 6 (by kernel_rfl)
      simp only [List.getElem?_toArray, List.getElem?_cons_succ, List.getElem?_cons_zero, Option.getD_some] at z4
      refine obl_val rfl (wanted_some rfl rfl s6) ?_ rfl
      go_simp
    | 8, _ =>
      intro a W hc hd
      have s7 : a.tmps[38]?.getD undef = r := hd 7 (by kernel_rfl)
      have s6 : a.tmps[37]?.getD undef = (.bool true) := hd 6 (by kernel_rfl)
      obtain ⟨q1, q2, q3, q4, q5⟩ := (H5.out.below hc.below).run
      refine obl_val rfl (wanted_some rfl rfl s6) ?_ rfl
      go_simp
    | 9, _ =>
      intro a W hc hd
      have z0 := hc.same 0 (by kernel_rfl)
      have s6 : a.tmps[37]?.getD undef = (.bool true) := hd 6 (by kernel_rfl)
      simp only [List.getElem?_toArray, List.getElem?_cons_succ, List.getElem?_cons_zero, Option.getD_some] at z0
      refine obl_val rfl (wanted_some rfl rfl s6) ?_ rfl
      go_simp
    | 10, _ =>
      intro a W hc hd
      have s9 : a.tmps[40]?.getD undef = (.slice A l.length c) := hd 9 (by kernel_rfl)
      have s6 : a.tmps[37]?.getD undef = (.bool true) := hd 6 (by kernel_rfl)
      obtain ⟨q1, q2, q3, q4, q5⟩ := (H5.out.below hc.below).run
      refine obl_val rfl (wanted_some rfl rfl s6) ?_ rfl
      go_simp
    | 11, _ =>
      intro a W hc hd
      have s8 : a.tmps[39]?.getD undef = (.string ⟨l.toArray⟩) := hd 8 (by kernel_rfl)
      have s10 : a.tmps[41]?.getD undef = (.string ⟨l.toArray⟩) := hd 10 (by kernel_rfl)
      have s6 : a.tmps[37]?.getD undef = (.bool true) := hd 6 (by kernel_rfl)
      refine obl_val rfl (wanted_some rfl rfl s6) ?_ rfl
      go_simp
    | 12, _ =>
      intro a W hc hd
      have s6 : a.tmps[37]?.getD undef = (.bool true) := hd 6 (by kernel_rfl)
      have s11 : a.tmps[42]?.getD undef = (.bool true) := hd 11 (by kernel_rfl)
      refine obl_val rfl (wanted_none rfl) ?_ rfl
      go_simp
    | 13, _ =>
      intro a W hc hd
      have s12 : a.tmps[43]?.getD undef = (.bool true) := hd 12 (by kernel_rfl)
      refine obl_val rfl (wanted_none rfl) ?_ rfl
      go_simp
    | 14, _ =>
      intro a W hc hd
      have z5 := hc.same 5 (by kernel_rfl)
      have s13 : a.tmps[44]?.getD undef = (.bool true) := hd 13 (by kernel_rfl)
      simp only [List.getElem?_toArray, List.getElem?_cons_succ, List.getElem?_cons_zero, Option.getD_some] at z5
      refine obl_val rfl (wanted_some rfl rfl s13) ?_ rfl
      go_simp
    | 15, _ =>
      intro a W hc hd
      have s14 : a.tmps[45]?.getD undef = (.int .i64 0) := hd 14 (by kernel_rfl)
      have s13 : a.tmps[44]?.getD undef = (.bool true) := hd 13 (by kernel_rfl)
      refine obl_val rfl (wanted_some rfl rfl s13) ?_ rfl
      go_simp
    | 16, _ =>
      intro a W hc hd
      have s13 : a.tmps[44]?.getD undef = (.bool true) := hd 13 (by kernel_rfl)
      have s15 : a.tmps[46]?.getD undef = (.bool true) := hd 15 (by kernel_rfl)
      refine obl_val rfl (wanted_none rfl) ?_ rfl
      go_simp
    | 17, _ =>
      intro a W hc hd
      have s16 : a.tmps[47]?.getD undef = (.bool true) := hd 16 (by kernel_rfl)
      refine obl_val rfl (wanted_none rfl) ?_ rfl
      go_simp
    | 18, _ =>
      intro a W hc hd
      have z6 := hc.same 6 (by kernel_rfl)
      have s17 : a.tmps[48]?.getD undef = (.bool true) := hd 17 (by kernel_rfl)
      simp only [List.getElem?_toArray, List.getElem?_cons_succ, List.getElem?_cons_zero, Option.getD_some] at z6
      refine obl_val rfl (wanted_some rfl rfl s17) ?_ rfl
      go_simp
    | 19, _ =>
      intro a W hc hd
      have s18 : a.tmps[49]?.getD undef = y := hd 18 (by kernel_rfl)
      have s17 : a.tmps[48]?.getD undef = (.bool true) := hd 17 (by kernel_rfl)
      obtain ⟨q1, q2, q3, q4, q5⟩ := (H5.out.below hc.below).run
      refine obl_val rfl (wanted_some rfl rfl s17) ?_ rfl
      go_simp
    | 20, _ =>
      intro a W hc hd
      have z8 := hc.same 8 (by kernel_rfl)
      have s17 : a.tmps[48]?.getD undef = (.bool true) := hd 17 (by kernel_rfl)
      simp only [List.getElem?_toArray, List.getElem?_cons_succ, List.getElem?_cons_zero, Option.getD_some] at z8
      refine obl_val rfl (wanted_some rfl rfl s17) ?_ rfl
      go_simp
    | 21, _ =>
      intro a W hc hd
      have s20 : a.tmps[51]?.getD undef = z := hd 20 (by kernel_rfl)
      have s17 : a.tmps[48]?.getD undef = (.bool true) := hd 17 (by kernel_rfl)
      obtain ⟨q1, q2, q3, q4, q5⟩ := (H5.out.below hc.below).run
      refine obl_val rfl (wanted_some rfl rfl s17) ?_ rfl
      go_simp
    | 22, _ =>
      intro a W hc hd
      have s19 : a.tmps[50]?.getD undef = (.string ⟨m.toArray⟩) := hd 19 (by kernel_rfl)
      have s21 : a.tmps[52]?.getD undef = (.string ⟨m.toArray⟩) := hd 21 (by kernel_rfl)
      have s17 : a.tmps[48]?.getD undef = (.bool true) := hd 17 (by kernel_rfl)
      refine obl_val rfl (wanted_some rfl rfl s17) ?_ rfl
      go_simp
    | 23, _ =>
      intro a W hc hd
      have s17 : a.tmps[48]?.getD undef = (.bool true) := hd 17 (by kernel_rfl)
      have s22 : a.tmps[53]?.getD undef = (.bool true) := hd 22 (by kernel_rfl)
      refine obl_val rfl (wanted_none rfl) ?_ rfl
      go_simp
    | 24, _ =>
      intro a W hc hd
      have s23 : a.tmps[54]?.getD undef = (.bool true) := hd 23 (by kernel_rfl)
      refine obl_val rfl (wanted_none rfl) ?_ rfl
      go_simp
    | 25, _ =>
      intro a W hc hd
      have z7 := hc.same 7 (by kernel_rfl)
      have s24 : a.tmps[55]?.getD undef = (.bool true) := hd 24 (by kernel_rfl)
      simp only [List.getElem?_toArray, List.getElem?_cons_succ, List.getElem?_cons_zero, Option.getD_some] at z7
      refine obl_val rfl (wanted_some rfl rfl s24) ?_ rfl
      go_simp
    | 26, _ =>
      intro a W hc hd
      have z9 := hc.same 9 (by kernel_rfl)
      have s24 : a.tmps[55]?.getD undef = (.bool true) := hd 24 (by kernel_rfl)
      simp only [List.getElem?_toArray, List.getElem?_cons_succ, List.getElem?_cons_zero, Option.getD_some] at z9
      refine obl_val rfl (wanted_some rfl rfl s24) ?_ rfl
      go_simp
    | 27, _ =>
      intro a W hc hd
      have s25 : a.tmps[56]?.getD undef = (.int .i64 f) := hd 25 (by kernel_rfl)
      have s26 : a.tmps[57]?.getD undef = (.int .i64 f) := hd 26 (by kernel_rfl)
      have s24 : a.tmps[55]?.getD undef = (.bool true) := hd 24 (by kernel_rfl)
      refine obl_val rfl (wanted_some rfl rfl s24) ?_ rfl
      go_simp
    | 28, _ =>
      intro a W hc hd
      have s24 : a.tmps[55]?.getD undef = (.bool true) := hd 24 (by kernel_rfl)
      have s27 : a.tmps[58]?.getD undef = (.bool true) := hd 27 (by kernel_rfl)
      refine obl_val rfl (wanted_none rfl) ?_ rfl
      go_simp
    | 29, _ =>
      intro a W hc hd
      have s28 : a.tmps[59]?.getD undef = (.bool true) := hd 28 (by kernel_rfl)
      refine obl_val rfl (wanted_none rfl) ?_ rfl
      go_simp
    | 30, _ =>
      intro a W hc hd
      have s29 : a.tmps[60]?.getD undef = (.bool true) := hd 29 (by kernel_rfl)
      refine obl_call rfl (wanted_some rfl rfl s29) (by go_simp) (lives06 W) ?_
      rintro e w5 ⟨rfl, hb⟩
      exact ⟨_, rfl, rfl, hb⟩
    | 31, _ =>
      intro a W hc hd
      have s29 : a.tmps[60]?.getD undef = (.bool true) := hd 29 (by kernel_rfl)
      have s30 : a.tmps[61]?.getD undef = (.bool true) := hd 30 (by kernel_rfl)
      refine obl_val rfl (wanted_none rfl) ?_ rfl
      go_simp
    | 32, _ =>
      intro a W hc hd
      have s31 : a.tmps[62]?.getD undef = (.bool true) := hd 31 (by kernel_rfl)
      refine obl_val rfl (wanted_none rfl) ?_ rfl
      go_simp
    | n + 33, h => exact absurd h (by simp)
  · have h62 : a.tmps[2]?.getD undef = .bool true := hs 32 2 (by decide) (by kernel_rfl)
    have hd := hc.defers
    have hB := HB.out.trans (hc.below.mono HB.out.size)
    clear hs
    go_wp2_with fail
    refine bodyPost_ret (results_tmp rfl _ _ _) hd ⟨?_, hB⟩
    rw [Array.getD_eq_getD_getElem?, h62]
end Go.Proofs.Ytmcjefdnkcpghaa
