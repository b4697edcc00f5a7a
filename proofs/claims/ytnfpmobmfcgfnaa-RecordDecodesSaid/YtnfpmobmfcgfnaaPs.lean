/- THE WALK OF record.getDoc (printed by gen/gengdo.py). -/
import Derived.Test.YtnfpmobmfcgfnaaPr
import Derived.Test.YtnfpmobmfcgfnaaReG
namespace Go.Proofs.Ytnfpmobmfcgfnaa
open Go.RowKit
theorem Only.trans2 {w0 w w' : World} {g : Nat} {row : Option Nat} (h : Only g w0 w) (hg : w.grownBy w' row) (hr : ∀ k, row = some k → w0.heap.size ≤ k) : Only g w0 w' :=
 h.grown hg (fun k hk hl => absurd (hr k hk) (by omega))
set_option maxRecDepth 100000 in
set_option maxHeartbeats 16000000 in
theorem getdoc_any {w : World} {g B : Nat} {s : RS} (h : RdS w g B s) : Calls Try.prog 101 #[.pointer (some ⟨g, 0, none⟩)] w fun e w' => ∃ lv, e = .returned (.agg ((getDocS s).1.vs lv)) ∧ OwN lnK w' w.heap.size lv (getDocS s).1.ls ∧ RdS w' g B (getDocS s).2 ∧ Only g w w' := by
 obtain ⟨a1, s1, h1⟩ : ∃ a t, textS s = (a, t) := ⟨_, _, rfl⟩
 obtain ⟨a2, s2, h2⟩ : ∃ a t, flagS s1 = (a, t) := ⟨_, _, rfl⟩
 obtain ⟨a3, s3, h3⟩ : ∃ a t, flagS s2 = (a, t) := ⟨_, _, rfl⟩
 obtain ⟨a4, s4, h4⟩ : ∃ a t, textS s3 = (a, t) := ⟨_, _, rfl⟩
 obtain ⟨a5, s5, h5⟩ : ∃ a t, numS s4 = (a, t) := ⟨_, _, rfl⟩
 obtain ⟨a6, s6, h6⟩ : ∃ a t, textS s5 = (a, t) := ⟨_, _, rfl⟩
 obtain ⟨a7, s7, h7⟩ : ∃ a t, textS s6 = (a, t) := ⟨_, _, rfl⟩
 obtain ⟨a8, s8, h8⟩ : ∃ a t, textS s7 = (a, t) := ⟨_, _, rfl⟩
 obtain ⟨a9, s9, h9⟩ : ∃ a t, numS s8 = (a, t) := ⟨_, _, rfl⟩
 have hl : headS s = (⟨a1, a2, a3, a4, a5, a6, a7, a8, []⟩, a9, s9) := by simp only [headS, h1, h2, h3, h4, h5, h6, h7, h8, h9]
 have ha9 : I64 a9 := by have := numS_ok s8; rw [h9] at this; exact this
 have HA9 := Lib.hid ha9
 have HHD := Lib.hid hl
 clear hl ha9
 have HOKR := Lib.hid (rdS_ok g B)
 have HR0 := Lib.hid (BR.mk0 (R := fun s w => RdS w g B s) (rdS_ok g B) h (Dm.zero.vs (.slice none 0 0)) 25)
 have HGL := Lib.hid h.lt
 have H1 := Lib.hid h1
 have H2 := Lib.hid h2
 have H3 := Lib.hid h3
 have H4 := Lib.hid h4
 have H5 := Lib.hid h5
 have H6 := Lib.hid h6
 have H7 := Lib.hid h7
 have H8 := Lib.hid h8
 have H9 := Lib.hid h9
 clear h h1 h2 h3 h4 h5 h6 h7 h8 h9
 simp only [Dm.zero, Dm.vs] at HR0
 go_enter Try.func101, Try.ntmps101
 go_upto_region 2 with fail
 generalize World.alloc w _ = w1 at *
 generalize hbl : w.heap.size = bl at HR0 ⊢
 have HBL := Lib.hid hbl
 clear hbl
 have HR0 := Lib.hid (show BR (fun s w => RdS w g B s) w g s bl (#[.string ⟨#[]⟩, .bool false, .bool false, .string ⟨#[]⟩, .int .i64 0, .string ⟨#[]⟩, .string ⟨#[]⟩, .string ⟨#[]⟩, .slice none 0 0]) 25 (.slice none 0 0) [] w1 from HR0.out)
 have q1 := text_s HR0.out.rd
 rw [H1.out] at q1
 go_upto_region 3 with (first
  | (go_at_call 100; (with_reducible refine q1.mono ?_); rintro e x1 ⟨rfl, hrx, hox⟩; have HC1 := Lib.hid (HR0.out.call HGL.out hrx hox); clear q1 hrx hox; have y0 := cells_of HC1.out.bk 0 _ rfl; have k0 := HC1.out.bk.free 0))
 have hs1 := HC1.out.set HOKR.out HGL.out 0 (.string a1) (cs' := #[.string a1, .bool false, .bool false, .string ⟨#[]⟩, .int .i64 0, .string ⟨#[]⟩, .string ⟨#[]⟩, .string ⟨#[]⟩, .slice none 0 0]) rfl
 have HR1 := Lib.hid hs1
 clear hs1 HC1 y0 k0
 generalize World.setCell _ _ _ = w2 at HR1 ⊢
 have q2 := flag_s HR1.out.rd
 rw [H2.out] at q2
 go_upto_region 4 with (first
  | (go_at_call 116; (with_reducible refine q2.mono ?_); rintro e x2 ⟨rfl, hrx, hox⟩; have HC2 := Lib.hid (HR1.out.call HGL.out hrx hox); clear q2 hrx hox; have q3 := flag_s HC2.out.rd; rw [H3.out] at q3)
  | (go_at_call 116; (with_reducible refine q3.mono ?_); rintro e x3 ⟨rfl, hrx, hox⟩; have HC3 := Lib.hid (HC2.out.call HGL.out hrx hox); clear q3 hrx hox; have y1 := cells_of HC3.out.bk 1 _ rfl; have k1 := HC3.out.bk.free 1; have y2 := cells_of HC3.out.bk 2 _ rfl; have k2 := HC3.out.bk.free 2))
 have hs2 := HC3.out.set HOKR.out HGL.out 1 (.bool a2) (cs' := #[.string a1, .bool a2, .bool false, .string ⟨#[]⟩, .int .i64 0, .string ⟨#[]⟩, .string ⟨#[]⟩, .string ⟨#[]⟩, .slice none 0 0]) rfl
 have hs3 := hs2.set HOKR.out HGL.out 2 (.bool a3) (cs' := #[.string a1, .bool a2, .bool a3, .string ⟨#[]⟩, .int .i64 0, .string ⟨#[]⟩, .string ⟨#[]⟩, .string ⟨#[]⟩, .slice none 0 0]) rfl
 have HR3 := Lib.hid hs3
 clear hs2 hs3 HC2 HC3 y1 y2 k1 k2
 generalize World.setCell _ _ _ = w3 at HR3 ⊢
 have q4 := text_s HR3.out.rd
 rw [H4.out] at q4
 go_upto_region 5 with (first
  | (go_at_call 100; (with_reducible refine q4.mono ?_); rintro e x4 ⟨rfl, hrx, hox⟩; have HC4 := Lib.hid (HR3.out.call HGL.out hrx hox); clear q4 hrx hox; have y3 := cells_of HC4.out.bk 3 _ rfl; have k3 := HC4.out.bk.free 3))
 have hs4 := HC4.out.set HOKR.out HGL.out 3 (.string a4) (cs' := #[.string a1, .bool a2, .bool a3, .string a4, .int .i64 0, .string ⟨#[]⟩, .string ⟨#[]⟩, .string ⟨#[]⟩, .slice none 0 0]) rfl
 have HR4 := Lib.hid hs4
 clear hs4 HC4 y3 k3
 generalize World.setCell _ _ _ = w4 at HR4 ⊢
 have q5 := num_s HR4.out.rd
 rw [H5.out] at q5
 go_upto_region 6 with (first
  | (go_at_call 73; (with_reducible refine q5.mono ?_); rintro e x5 ⟨rfl, hrx, hox⟩; have HC5 := Lib.hid (HR4.out.call HGL.out hrx hox); clear q5 hrx hox; have y4 := cells_of HC5.out.bk 4 _ rfl; have k4 := HC5.out.bk.free 4))
 have hs5 := HC5.out.set HOKR.out HGL.out 4 (.int .i64 a5) (cs' := #[.string a1, .bool a2, .bool a3, .string a4, .int .i64 a5, .string ⟨#[]⟩, .string ⟨#[]⟩, .string ⟨#[]⟩, .slice none 0 0]) rfl
 have HR5 := Lib.hid hs5
 clear hs5 HC5 y4 k4
 generalize World.setCell _ _ _ = w5 at HR5 ⊢
 have q6 := text_s HR5.out.rd
 rw [H6.out] at q6
 go_upto_region 7 with (first
  | (go_at_call 100; (with_reducible refine q6.mono ?_); rintro e x6 ⟨rfl, hrx, hox⟩; have HC6 := Lib.hid (HR5.out.call HGL.out hrx hox); clear q6 hrx hox; have q7 := text_s HC6.out.rd; rw [H7.out] at q7)
  | (go_at_call 100; (with_reducible refine q7.mono ?_); rintro e x7 ⟨rfl, hrx, hox⟩; have HC7 := Lib.hid (HC6.out.call HGL.out hrx hox); clear q7 hrx hox; have q8 := text_s HC7.out.rd; rw [H8.out] at q8)
  | (go_at_call 100; (with_reducible refine q8.mono ?_); rintro e x8 ⟨rfl, hrx, hox⟩; have HC8 := Lib.hid (HC7.out.call HGL.out hrx hox); clear q8 hrx hox; have y5 := cells_of HC8.out.bk 5 _ rfl; have k5 := HC8.out.bk.free 5; have y6 := cells_of HC8.out.bk 6 _ rfl; have k6 := HC8.out.bk.free 6; have y7 := cells_of HC8.out.bk 7 _ rfl; have k7 := HC8.out.bk.free 7))
 have hs6 := HC8.out.set HOKR.out HGL.out 5 (.string a6) (cs' := #[.string a1, .bool a2, .bool a3, .string a4, .int .i64 a5, .string a6, .string ⟨#[]⟩, .string ⟨#[]⟩, .slice none 0 0]) rfl
 have hs7 := hs6.set HOKR.out HGL.out 6 (.string a7) (cs' := #[.string a1, .bool a2, .bool a3, .string a4, .int .i64 a5, .string a6, .string a7, .string ⟨#[]⟩, .slice none 0 0]) rfl
 have hs8 := hs7.set HOKR.out HGL.out 7 (.string a8) (cs' := #[.string a1, .bool a2, .bool a3, .string a4, .int .i64 a5, .string a6, .string a7, .string a8, .slice none 0 0]) rfl
 have HR8 := Lib.hid hs8
 clear hs6 hs7 hs8 HC6 HC7 HC8 y5 y6 y7 k5 k6 k7
 generalize World.setCell _ _ _ = w6 at HR8 ⊢
 have q9 := num_s HR8.out.rd
 rw [H9.out] at q9
 go_upto_region 8 with (first
  | (go_at_call 73; (with_reducible refine q9.mono ?_); rintro e x9 ⟨rfl, hrx, hox⟩; have HC9 := Lib.hid (HR8.out.call HGL.out hrx hox); clear q9 hrx hox))
 have HM := Lib.hid (show BR (fun s w => RdS w g B s) w g s9 bl (#[.string a1, .bool a2, .bool a3, .string a4, .int .i64 a5, .string a6, .string a7, .string a8, .slice none 0 0]) 25 (.slice none 0 0) [] x9 from HC9.out)
 clear HC9 HR8
 have hwi := fun W => within_any a9 1 64 W
 have HWI := Lib.hid hwi
 clear hwi
 generalize hI : inB a9 1 64 = bI at *
 have HI := Lib.hid hI
 clear hI
 cases bI
 ·have hgd : getDocS s = (⟨a1, a2, a3, a4, a5, a6, a7, a8, []⟩, s9) := by simp only [getDocS, HHD.out, HI.out, Bool.false_eq_true, if_false]
  generalize hV : (#[.string a1, .bool a2, .bool a3, .string a4, .int .i64 a5, .string a6, .string a7, .string a8, .slice none 0 0] : Array Value) = V at *
  have HL1 := Lib.hid (show (x9).heap[bl]? = some (.cells V 25 (0, 0)) from HM.out.bk)
  have HL2 := Lib.hid (show V.all (·.oneCell') = true by rw [← hV]; simp [Value.oneCell'])
  have HL3 := Lib.hid (show V.size = 9 by rw [← hV]; rfl)
  have HL4 := Lib.hid (show (Try.prog.info? 25).map (·.size) = some V.size by rw [HL3.out]; kernel_rfl)
  have HV := Lib.hid hV
  clear hV
  go_wp2_with (first
   | (go_at_call 50; (with_reducible refine (HWI.out _).mono ?_); rintro e x10 ⟨rfl, rfl⟩)
   | (with_reducible refine wpList_load_row rfl 25 (.tmp 2) rfl bl rfl 25 V (0, 0) _ HL1.out Try.underlying25 rfl HL4.out ?_)
   | ((with_reducible show wpList _ _ _ (⟨none, .store _ _ _, _, _, _, _⟩ :: _) _ _); go_must (refine wpList_store_row rfl 25 (.tmp 2) (.tmp 42) rfl bl V rfl rfl 25 _ HL1.out HL4.out rfl HL2.out ?_)))
  have HE := HM.out.row HOKR.out HGL.out V
  refine bodyPost_ret (results_cell_row rfl _ _ bl 25 _ (0, 0) _ rfl (setRow_heap _ _ _ _ _ _ HL1.out) Try.underlying25 rfl HL4.out) rfl ⟨.slice none 0 0, ?_⟩
  rw [hgd]
  exact ⟨by rw [← HV.out]; rfl, HE.ow, HE.rd, HE.on⟩
 ·have hgd : getDocS s = (⟨a1, a2, a3, a4, a5, a6, a7, a8, (linesS a9.toNat s9).1⟩, (linesS a9.toNat s9).2) := by simp only [getDocS, HHD.out, HI.out, if_true]
  have HGD := Lib.hid hgd
  have hr9 := (inB_iff2 _ _ _).1 HI.out
  obtain ⟨n, rfl⟩ : ∃ n : Nat, a9 = (n : Int) := ⟨a9.toNat, by omega⟩
  have HN := Lib.hid (show n ≤ 64 by omega)
  rw [Int.toNat_natCast] at HGD
  clear hgd hr9
  go_wp2_with (go_at_call 50; (with_reducible refine (HWI.out _).mono ?_); rintro e x10 ⟨rfl, rfl⟩)
  go_loopg [44] n (fun gk x44 wr => ∃ k : Nat, gk = n - k ∧ k ≤ n ∧ x44 = .int .i64 (k : Int) ∧ ∃ A0 n0 c0, BR (fun s w => RdS w g B s) w g (linesS k s9).2 bl (#[.string a1, .bool a2, .bool a3, .string a4, .int .i64 a5, .string a6, .string a7, .string a8, .slice A0 n0 c0]) 25 (.slice A0 n0 c0) (linesS k s9).1 wr)
  case atStart => exact ⟨0, rfl, Nat.zero_le _, rfl, none, 0, 0, HM.out⟩
  case round =>
   obtain ⟨k, hgk, hk, rfl, A0, n0, c0, hbr⟩ := hrel
   have HG := Lib.hid hgk
   have HBR := Lib.hid hbr
   clear hgk hbr
   by_cases h : k < n
   ·have i3 : IntKind.i64.wrap ((k : Int) + 1) = (k : Int) + 1 := by rw [IntKind.wrap_i64]; have := HN.out; omega
    have i2 : (k : Int) < (n : Int) := by omega
    have hsn := linesS_snoc k s9
    have hll := linesS_len k s9
    generalize hS9 : linesS (k + 1) s9 = X9 at *
    generalize linesS k s9 = Y9 at *
    obtain ⟨ls, sk⟩ := Y9
    simp only at hsn hll HBR
    obtain ⟨ln, sm, hln⟩ : ∃ a t, lineS sk = (a, t) := ⟨_, _, rfl⟩
    rw [hln] at hsn
    subst hsn
    have hok : ln.ok := by have := lineS_ok sk; rw [hln] at this; exact this
    have HLEN := Lib.hid hll
    have HSN := Lib.hid hS9
    have HLN := Lib.hid hln
    have HOK := Lib.hid hok
    clear hS9 hll hln hok
    have h8 := cells_of HBR.out.bk 8 _ rfl
    have f8 := HBR.out.bk.free 8
    have HC8 := Lib.hid h8
    have HF8 := Lib.hid f8
    clear h8 f8
    go_upto_region 12 with fail
    have HX := Lib.hid (fun W (hW : Kept (fun x => x ≠ g) wr.drew W) => (show W.cell? ⟨bl, 8, none⟩ = some (.slice A0 n0 c0) ∧ True from ⟨cells_of (hW.heap HBR.out.bk (by have h1 := HBR.out.bg; have h2 := HGL.out; omega)) 8 _ rfl, trivial⟩))
    refine wp_region_oneE (S := fun x => x ≠ g) 3 5 (by kernel_rfl) [isS (.pointer (some ⟨bl, 8, none⟩)), isS (.slice A0 n0 c0), isS (.pointer (some ⟨g, 0, none⟩)), (⟨fun v W => v = .agg ln.vs ∧ RdS W g B sm, fun v W W' h hb => ⟨h.1, h.2.below hb⟩⟩ : Sp), (⟨fun v W => ∃ b', v = .slice (some ⟨b', 0, none⟩) 1 1 ∧ b' ≠ g ∧ W.heap[b']? = some (.cells ln.vs 55 (0, 0)), fun v W W' h hb => by obtain ⟨b', e, h1, h2⟩ := h; exact ⟨b', e, h1, (hb.block b' (lt_of_blk h2)).trans h2⟩⟩ : Sp)] (fun i v W W' hi h k => by
      match i, hi with
      | 0, _ => exact h
      | 1, _ => exact h
      | 2, _ => exact h
      | 3, hi => exact absurd rfl hi
      | 4, _ => obtain ⟨b', e, h1, h2⟩ := h; exact ⟨b', e, h1, k.heap h2 h1⟩
      | m + 5, _ => trivial) (by kernel_rfl) (by kernel_rfl) (by kernel_rfl) (by kernel_rfl) (by decide) (by kernel_rfl) (fun q hq hne => ?_) (fun _ a W hc hbel hd => ?_) (fun a w7 hc hs => ?_)
    ·match q, hq, hne with
     | 0, _, _ =>
      intro a W hc hd
      have z2 := hc.same 2 (by kernel_rfl)
      simp only [List.getElem?_toArray, List.getElem?_cons_succ, List.getElem?_cons_zero, Option.getD_some] at z2
      refine obl_val rfl (wanted_none rfl) ?_ rfl
      go_simp
     | 1, _, _ =>
      intro a W hc hd
      have s0 : a.tmps[46]?.getD undef = (.pointer (some ⟨bl, 8, none⟩)) := hd 0 (by kernel_rfl)
      obtain ⟨q8, _⟩ := HX.out W hc.kept
      refine obl_val rfl (wanted_none rfl) ?_ rfl
      go_simp
     | 2, _, _ =>
      intro a W hc hd
      have z0 := hc.same 0 (by kernel_rfl)
      simp only [List.getElem?_toArray, List.getElem?_cons_zero, Option.getD_some] at z0
      refine obl_val rfl (wanted_none rfl) ?_ rfl
      go_simp
     | 3, _, hne => exact absurd rfl hne
     | 4, _, _ =>
      intro a W hc hd
      have s3 : ((⟨fun v W => v = .agg ln.vs ∧ RdS W g B sm, fun v W W' h hb => ⟨h.1, h.2.below hb⟩⟩ : Sp)).f (a.tmps[49]?.getD undef) W := hd 3 (by kernel_rfl)
      obtain ⟨e3, _⟩ : a.tmps[49]?.getD undef = .agg ln.vs ∧ RdS W g B sm := s3
      obtain ⟨l1, l2, l3, l4, l5, l6, l7, l8, l9⟩ := ln
      simp only [Ln.vs] at e3
      refine obl_grow rfl (wanted_none rfl) (v := .slice (some ⟨W.heap.size, 0, none⟩) 1 1) (w' := W.alloc (.cells #[.int .i64 l1, .int .i64 l2, .string l3, .string l4, .string l5, .int .i64 l6, .bool l7, .int .i64 l8, .bool l9] 55)) ?_ ⟨_, rfl, (by have h1 := HGL.out; have h2 := hc.kept.size; have h3 : wr.drew.heap.size = wr.heap.size := rfl; have h4 := HBR.out.bk.lt; have h5 := HBR.out.bg; omega), heap_alloc_new W _⟩ ((Below.refl W.heap.size W).alloc (Nat.le_refl _) _)
      go_simp
     | m + 5, h, _ => exact absurd h (by omega)
    ·have s2 : a.tmps[48]?.getD undef = (.pointer (some ⟨g, 0, none⟩)) := hd 2 (by kernel_rfl)
     have hq := getline_any (HBR.out.rd.kept (S := fun _ => True) (((Kept.refl (fun _ => True) wr).drew).trans (Kept.ofBelow hbel) (fun _ _ h => h)) trivial (fun _ _ => trivial))
     rw [HLN.out] at hq
     refine obl_callK rfl (wanted_none rfl) (by go_simp) hq ?_
     rintro e w9 ⟨rfl, hr9, ho9⟩
     exact ⟨_, rfl, _, rfl, ⟨rfl, hr9⟩, ho9⟩
    ·have hbx := hs 4 50 (by decide) (by kernel_rfl)
     have hcl := hs 3 49 (by decide) (by kernel_rfl)
     have hkp := hc.kept
     have hc : GrowCtx _ _ w7 _ w7 := ⟨Below.refl _ _, hc.defers, hc.size, hc.same⟩
     have hfr := grow_frame hc [(46, (.pointer (some ⟨bl, 8, none⟩))), (47, (.slice A0 n0 c0)), (48, (.pointer (some ⟨g, 0, none⟩))), (49, a.tmps[49]?.getD undef), (50, a.tmps[50]?.getD undef), (51, a.tmps[51]?.getD undef), (52, a.tmps[52]?.getD undef)] (by kernel_rfl) (fun p hp => by
       simp only [List.mem_cons, List.not_mem_nil, or_false] at hp
       rcases hp with rfl | rfl | rfl | rfl | rfl | rfl | rfl
       ·exact hs 0 46 (by decide) (by kernel_rfl)
       ·exact hs 1 47 (by decide) (by kernel_rfl)
       ·exact hs 2 48 (by decide) (by kernel_rfl)
       ·rfl
       ·rfl
       ·rfl
       ·rfl
       )
     generalize a.tmps[49]?.getD undef = z49 at hfr hcl
     generalize a.tmps[50]?.getD undef = z50 at hfr hbx
     generalize a.tmps[51]?.getD undef = z51 at hfr
     generalize a.tmps[52]?.getD undef = z52 at hfr
     simp only [List.range, List.range.loop, List.size_toArray, List.length_cons, List.length_nil, List.map_cons, List.map_nil, List.lookup_cons, List.lookup_nil, Nat.reduceAdd, Nat.reduceBEq, Option.getD_some, Option.getD_none, List.getElem?_toArray, List.getElem?_cons_succ, List.getElem?_cons_zero] at hfr
     subst hfr
     obtain ⟨b7, rfl, hb7, hbx7⟩ := hbx
     obtain ⟨rfl, hr7⟩ := hcl
     have hk7 : Only g wr w7 := (Kept.ofBelow (Below.refl wr.heap.size wr).drew).trans hkp (fun _ _ h => h)
     have HB7 := Lib.hid (HBR.out.call HGL.out hr7 hk7)
     have HBX := Lib.hid hbx7
     clear hs hc hkp hbx7 hr7 hk7
     simp only [List.drop_succ_cons, List.drop_zero]
     refine wpList_append_slN lnK w7 rfl (.tmp 47) (.tmp 50) 23 rfl Try.underlying23 w.heap.size _ ls rfl HB7.out.ow w7.heap.size _ [ln] rfl ?_ (by rw [HLEN.out]; have := HN.out; simp; omega) (by decide) (Nat.le_trans (Nat.le_of_lt (Nat.lt_of_le_of_lt HB7.out.bg HB7.out.bk.lt)) (Nat.le_refl _)) (fun v8 w8 ho8 hg8 ha8 => ?_)
     ·refine ⟨some ⟨b7, 0, none⟩, 1, rfl, Nat.le_refl _, by decide, fun _ => ⟨_, rfl, lt_of_blk HBX.out, fun j u hu => ?_⟩⟩
      rw [lnK.flat_one] at hu
      have hu' : ln.vs[j]? = some u := by rw [← Array.getElem?_toList]; exact hu
      have := cells_of HBX.out j u hu'
      unfold Addr.add
      split
      ·rename_i h0; subst h0; exact this
      ·simpa using this
     have hlt8 := HB7.out.bk.lt
     have hne8 : v8.ownBlock ≠ some bl := by
      rcases ha8 with e | e
      ·rw [e]; exact HB7.out.nb
      ·rw [e]; intro h; injection h with h; omega
     have hbk8 : Blk w8 bl (#[.string a1, .bool a2, .bool a3, .string a4, .int .i64 a5, .string a6, .string a7, .string a8, .slice A0 n0 c0] : Array Value) 25 := by
      have := ((Kept.refl (fun x => x = bl) w7).grown hg8 (fun k hk _ hS => by subst hS; exact HB7.out.nb hk))
      exact this.heap HB7.out.bk rfl
     obtain ⟨A1, c1, rfl, _, _⟩ := ho8.sl.form
     have hbr8 : BR (fun s w => RdS w g B s) w g sm bl (#[.string a1, .bool a2, .bool a3, .string a4, .int .i64 a5, .string a6, .string a7, .string a8, .slice A0 n0 c0] : Array Value) 25 (.slice A1 (ls ++ [ln]).length c1) (ls ++ [ln]) w8 := by
      refine ⟨?_, hbk8, ho8, hne8, ?_, HB7.out.bg⟩
      ·exact HB7.out.rd.kept (S := fun x => x < w.heap.size) ((Kept.refl _ w7).grown hg8 (fun k hk _ hS => by have := (HB7.out.ow.lt k hk).1; omega)) HGL.out (fun x hx => by have := HB7.out.rd.le; have := HGL.out; omega)
      ·refine HB7.out.on.trans2 hg8 (fun k hk => (HB7.out.ow.lt k hk).1)
     have HB8 := Lib.hid hbr8
     have h88 := cells_of hbr8.bk 8 _ rfl
     have f88 := hbr8.bk.free 8
     clear ho8 hg8 ha8 hne8 hbk8 hbr8 hlt8
     go_wp2
     go_roundg (n - (k + 1))
     case measure => have := HG.out; omega
     case rel =>
      refine ⟨k + 1, rfl, by omega, rfl, A1, (ls ++ [ln]).length, c1, ?_⟩
      rw [HSN.out]
      exact HB8.out.set HOKR.out HGL.out 8 _ (by simp)
   ·obtain rfl : k = n := by omega
    have hbx := HBR.out
    generalize hS9 : linesS k s9 = Y9 at *
    obtain ⟨ls, sk⟩ := Y9
    simp only at hbx HGD
    have HBX := Lib.hid hbx
    clear hbx
    generalize hV : (#[.string a1, .bool a2, .bool a3, .string a4, .int .i64 a5, .string a6, .string a7, .string a8, .slice A0 n0 c0] : Array Value) = V at *
    have HL1 := Lib.hid (show (wr).heap[bl]? = some (.cells V 25 (0, 0)) from HBX.out.bk)
    have HL2 := Lib.hid (show V.all (·.oneCell') = true by rw [← hV]; simp [Value.oneCell'])
    have HL3 := Lib.hid (show V.size = 9 by rw [← hV]; rfl)
    have HL4 := Lib.hid (show (Try.prog.info? 25).map (·.size) = some V.size by rw [HL3.out]; kernel_rfl)
    have HV := Lib.hid hV
    clear hV
    go_wp2_with (first
     | (go_at_call 50; (with_reducible refine (HWI.out _).mono ?_); rintro e x10 ⟨rfl, rfl⟩)
     | (with_reducible refine wpList_load_row rfl 25 (.tmp 2) rfl bl rfl 25 V (0, 0) _ HL1.out Try.underlying25 rfl HL4.out ?_)
     | ((with_reducible show wpList _ _ _ (⟨none, .store _ _ _, _, _, _, _⟩ :: _) _ _); go_must (refine wpList_store_row rfl 25 (.tmp 2) (.tmp 54) rfl bl V rfl rfl 25 _ HL1.out HL4.out rfl HL2.out ?_)))
    have HE := HBX.out.row HOKR.out HGL.out V
    refine bodyPost_ret (results_cell_row rfl _ _ bl 25 _ (0, 0) _ rfl (setRow_heap _ _ _ _ _ _ HL1.out) Try.underlying25 rfl HL4.out) rfl ⟨.slice A0 n0 c0, ?_⟩
    rw [HGD.out]
    exact ⟨by rw [← HV.out]; rfl, HE.ow, HE.rd, HE.on⟩
end Go.Proofs.Ytnfpmobmfcgfnaa

/- A COMMAND, READ PLAINLY; A READER, A COMMAND AND ITS LINES ON THEIR WAY (printed by gen/gengtc.py). -/
namespace Go.Proofs.Ytnfpmobmfcgfnaa
open Go.RowKit
def get1 (s : RS) : Cm × RS := let a1 := textS s; let a2 := numS a1.2; let a3 := numS a2.2; ({ Cm.zero with kind := 1, cty := a1.1, ix := a2.1, day := a3.1 }, a3.2)
def get2 (s : RS) : Cm × RS := let a1 := textS s; let a2 := numS a1.2; let a3 := numS a2.2; let a4 := numS a3.2; let a5 := numS a4.2; ({ Cm.zero with kind := 2, cty := a1.1, cat := a2.1, day := a3.1, til := a4.1, bp := a5.1 }, a5.2)
def get3 (s : RS) : Cm × RS := let a1 := numS s; let a2 := numS a1.2; ({ Cm.zero with kind := 3, day := a1.1, til := a2.1 }, a2.2)
def get4 (s : RS) : Cm × RS := let a1 := textS s; let a2 := textS a1.2; let a3 := numS a2.2; let a4 := numS a3.2; ({ Cm.zero with kind := 4, cty := a1.1, txt := a2.1, day := a3.1, til := a4.1 }, a4.2)
def get5 (s : RS) : Cm × RS := let a1 := textS s; let a2 := numS a1.2; let a3 := numS a2.2; let a4 := numS a3.2; let a5 := numS a4.2; ({ Cm.zero with kind := 5, pk := 2, txt := a1.1, py := a2.1, px := a3.1, nm := a4.1, dn := a5.1 }, a5.2)
def get6 (s : RS) : Cm × RS := let a1 := textS s; ({ Cm.zero with kind := 6, txt := a1.1 }, a1.2)
def get7 (s : RS) : Cm × RS := let a1 := numS s; let a2 := numS a1.2; ({ Cm.zero with kind := 7, pk := 3, px := 1, py := a1.1, nm := a2.1 }, a2.2)
def get11 (s : RS) : Cm × RS := let a1 := numS s; ({ Cm.zero with kind := 11, pk := 3, px := 1, py := a1.1 }, a1.2)
def get9 (k : Int) (s : RS) : Cm × RS := let a1 := numS s; let a2 := numS a1.2; let a3 := numS a2.2; ({ Cm.zero with kind := k, pk := a1.1, py := a2.1, px := a3.1 }, a3.2)
def get8 (D : RS → Dm × RS) (s : RS) : Cm × RS := let a := D s; ({ Cm.zero with kind := 8, doc := a.1 }, a.2)
/-- a command of a kind, read -/
def getK (D : RS → Dm × RS) (k : Int) (s : RS) : Cm × RS :=
 if k = 1 then get1 s else if k = 2 then get2 s else if k = 3 then get3 s else if k = 4 then get4 s else if k = 5 then get5 s else if k = 6 then get6 s else if k = 7 then get7 s
 else if k = 8 then get8 D s else if k = 9 then get9 9 s else if k = 10 then get9 10 s else if k = 11 then get11 s else ({ Cm.zero with kind := k }, s)
structure NoKind (k : Int) : Prop where
 n1 : k ≠ 1
 n2 : k ≠ 2
 n3 : k ≠ 3
 n4 : k ≠ 4
 n5 : k ≠ 5
 n6 : k ≠ 6
 n7 : k ≠ 7
 n8 : k ≠ 8
 n9 : k ≠ 9
 n10 : k ≠ 10
 n11 : k ≠ 11
theorem getK_no {D : RS → Dm × RS} {k : Int} (h : NoKind k) (s : RS) : getK D k s = ({ Cm.zero with kind := k }, s) := by
 unfold getK
 rw [if_neg h.n1, if_neg h.n2, if_neg h.n3, if_neg h.n4, if_neg h.n5, if_neg h.n6, if_neg h.n7, if_neg h.n8, if_neg h.n9, if_neg h.n10, if_neg h.n11]
theorem BR.mk1 {R : RS → World → Prop} {w0 w : World} {g B : Nat} {s : RS} (hR : Rok R g B) (h : R s w) (ho : Only g w0 w) (o : Array Value) (t : TypeId) : BR R w0 g s w.heap.size o t (.slice none 0 0) [] (w.alloc (.cells o t)) :=
 have hal := (Below.refl w.heap.size w).alloc (Nat.le_refl _) (.cells o t)
 ⟨hR.below h hal, heap_alloc_new w (.cells o t (0, 0)), OwN.nil_ _ _ _, by simp [Value.ownBlock], ho.trans (Kept.ofBelow hal), ho.size⟩
/-- a reader, a block beside the block of the result, and lines that were read -/
structure BZ (R : RS → World → Prop) (w0 : World) (g : Nat) (s : RS) (b : Nat) (cs : Array Value) (t : TypeId) (lv : Value) (ls : List Ln) (bl : Nat) (Z : Array Value) (T : TypeId) (w : World) : Prop where
 br : BR R w0 g s b cs t lv ls w
 zb : Blk w bl Z T
 ne : bl ≠ b
 ng : bl ≠ g
 nl : lv.ownBlock ≠ some bl
section
variable {R : RS → World → Prop} {w0 w w' : World} {g B b bl : Nat} {s s' : RS} {cs cs' Z : Array Value} {t T : TypeId} {lv : Value} {ls : List Ln}
theorem BZ.call (h : BZ R w0 g s b cs t lv ls bl Z T w) (hg : g < w0.heap.size) (hr : R s' w') (ho : Only g w w') : BZ R w0 g s' b cs t lv ls bl Z T w' :=
 ⟨h.br.call hg hr ho, ho.heap h.zb h.ng, h.ne, h.ng, h.nl⟩
theorem BZ.set (h : BZ R w0 g s b cs t lv ls bl Z T w) (hR : Rok R g B) (hg : g < w0.heap.size) (i : Nat) (v : Value) (he : cs.setIfInBounds i v = cs') : BZ R w0 g s b cs' t lv ls bl Z T (w.setCell ⟨b, i, none⟩ v) :=
 ⟨h.br.set hR hg i v he, (h.br.bk.set i v he).2.heap h.zb h.ne, h.ne, h.ng, h.nl⟩
theorem BZ.row (h : BZ R w0 g s b cs t lv ls bl Z T w) (hR : Rok R g B) (hg : g < w0.heap.size) (V : Array Value) : BZ R w0 g s b V t lv ls bl Z T (w.setRow b V) :=
 ⟨h.br.row hR hg V, (h.br.bk.row V).2.heap h.zb h.ne, h.ne, h.ng, h.nl⟩
/-- a call that hands back lines -/
theorem BZ.calld {lv' : Value} {ls' : List Ln} (h : BZ R w0 g s b cs t lv ls bl Z T w) (hg : g < w0.heap.size) (hr : R s' w') (ho : Only g w w') (how : OwN lnK w' w.heap.size lv' ls') : BZ R w0 g s' b cs t lv' ls' bl Z T w' := by
 have h1 := h.call hg hr ho
 have hb := h.br.bk.lt
 have hz := h.zb.lt
 exact ⟨⟨hr, h1.br.bk, how.more h.br.on.size, fun e => by have := (how.lt b e).1; omega, h1.br.on, h1.br.bg⟩, h1.zb, h1.ne, h1.ng, fun e => by have := (how.lt bl e).1; omega⟩
/-- the result is stored -/
theorem BZ.fin (h : BZ R w0 g s b cs t lv ls bl Z T w) (hR : Rok R g B) (hB : B ≤ bl) (V : Array Value) : OwN lnK (w.setRow bl V) w0.heap.size lv ls ∧ R s (w.setRow bl V) ∧ Kept (fun x => x ≠ bl) w (w.setRow bl V) := by
 have k := (h.zb.row V).2
 exact ⟨h.br.ow.kept k (fun g' e hc => h.nl (by rw [e, hc])), hR.kept h.br.rd k (Ne.symm h.ng) (fun x hx => by omega), k⟩
end
theorem zal (w : World) : Below w.heap.size w (w.alloc (.cells (Cm.zero.vs (.slice none 0 0)) 53)) := (Below.refl w.heap.size w).alloc (Nat.le_refl _) _
theorem zbk (w : World) : Blk (w.alloc (.cells (Cm.zero.vs (.slice none 0 0)) 53)) w.heap.size (Cm.zero.vs (.slice none 0 0)) 53 := heap_alloc_new w _
theorem Blk.hp {w : World} {b : Nat} {V : Array Value} {t : TypeId} (h : Blk w b V t) : w.heap[b]? = some (.cells V t (0, 0)) := h
/-- what the walk asks of a command's cells -/
theorem vfs {c : Cm} {A : Option Addr} {n k : Nat} {V : Array Value} (hV : c.vs (.slice A n k) = V) : Hid (V.all (·.oneCell') = true) ∧ Hid (V.size = 22) ∧ Hid ((Try.prog.info? 53).map (·.size) = some V.size) := by
 subst hV
 exact ⟨Lib.hid (cm_one _ _ _ _), Lib.hid rfl, Lib.hid (cm_szi _ _)⟩
/-- the command's box is made, and stored into -/
theorem bz0 {R : RS → World → Prop} {w0 w2 : World} {g B bl : Nat} {s : RS} (hR : Rok R g B) (hr : R s w2) (ho : Only g w0 w2) (hz : Blk w2 bl (Cm.zero.vs (.slice none 0 0)) 53) (hg : g < w0.heap.size) (hng : bl ≠ g) (V' : Array Value) :
  BZ R w0 g s w2.heap.size V' 53 (.slice none 0 0) [] bl (Cm.zero.vs (.slice none 0 0)) 53 ((w2.alloc (.cells (Cm.zero.vs (.slice none 0 0)) 53)).setRow w2.heap.size V') := by
 have hm1 := BR.mk1 hR hr ho (Cm.zero.vs (.slice none 0 0)) 53
 have hz1 : Blk (w2.alloc (.cells (Cm.zero.vs (.slice none 0 0)) 53)) bl (Cm.zero.vs (.slice none 0 0)) 53 := ((zal w2).block bl hz.lt).trans hz
 have hne : bl ≠ w2.heap.size := Nat.ne_of_lt hz.lt
 exact ⟨hm1.row hR hg V', (hm1.bk.row V').2.heap hz1 hne, hne, hng, by simp [Value.ownBlock]⟩
def GetCPost (R : RS → World → Prop) (g : Nat) (w : World) (r : Cm × RS) (e : Ending) (w' : World) : Prop :=
 ∃ lv, e = .returned (.agg (r.1.vs lv)) ∧ OwN lnK w' w.heap.size lv r.1.doc.ls ∧ R r.2 w' ∧ Only g w w'
def ReadCPost (w : World) (r : Cm × RS) (e : Ending) (w' : World) : Prop :=
 ∃ lv, e = .returned (.agg (r.1.vs lv)) ∧ OwN lnK w' w.heap.size lv r.1.doc.ls ∧ Below w.heap.size w w'
theorem zero_vs : #[.int .i64 0, .string ⟨#[]⟩, .string ⟨#[]⟩, .int .i64 0, .int .i64 0, .int .i64 0, .int .i64 0, .int .i64 0, .int .i64 0, .int .i64 0, .int .i64 0, .int .i64 0, .int .i64 0, .string ⟨#[]⟩, .bool false, .bool false, .string ⟨#[]⟩, .int .i64 0, .string ⟨#[]⟩, .string ⟨#[]⟩, .string ⟨#[]⟩, .slice none 0 0] = Cm.zero.vs (.slice none 0 0) := rfl
end Go.Proofs.Ytnfpmobmfcgfnaa

