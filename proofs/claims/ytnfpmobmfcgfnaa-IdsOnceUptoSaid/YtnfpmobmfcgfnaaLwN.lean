/- THE LAW IdsNobody, WALKED (printed by gen/genlwn.py). -/
import Derived.Test.YtnfpmobmfcgfnaaIdL
import Derived.Test.YtnfpmobmfcgfnaaIdN
namespace Go.Proofs.Ytnfpmobmfcgfnaa
open Go.RowKit
theorem lns_tri {w : World} {B : Nat} {v : Value} {ls : List Ln} (h : Lns w B v ls) : ∃ t : TriD, v = triV t := by
  obtain ⟨A, c, rfl, _⟩ := h
  exact ⟨(A, ls.length, c), rfl⟩
theorem docs_one {w : World} {b : Nat} {d : Dm} {t : TriD} (h : w.heap[b]? = some (.cells (d.vs (triV t)) 25 (0, 0))) (hl : Lns w w.heap.size (triV t) d.ls) (hok : d.ok) : Docs w w.heap.size (.slice (some ⟨b, 0, none⟩) 1 1) [d] := by
  refine ⟨[(d, t)], rfl, ⟨some ⟨b, 0, none⟩, 1, rfl, Nat.le_refl _, by simp [maxLen], fun _ => ⟨_, rfl, lt_of_blk h, fun j u hj => ?_⟩⟩, fun p hp => ?_⟩
  · rw [docK.flat_one] at hj
    have hc := cells_of h j u (by rw [← Array.getElem?_toList]; exact hj)
    unfold Addr.add
    by_cases h0 : j = 0
    · subst h0; exact hc
    · rw [if_neg h0, Nat.zero_add]; exact hc
  · rw [List.mem_singleton] at hp
    subst hp
    exact ⟨hl, hok⟩
theorem Kept.belowOf {w w' : World} (h : Below w.heap.size w w') : Below w.heap.size w w' := h
set_option maxRecDepth 100000 in
set_option maxHeartbeats 8000000 in
theorem nobody_law {w : World} (v : Value) (d : Dm) (hv : DmV w w.heap.size v d) : Calls Try.prog 5 #[v] w fun e w' => e = .returned (.bool true) ∧ Below w.heap.size w w' := by
  obtain ⟨lv, rfl, hls, hok⟩ := hv
  obtain ⟨t, rfl⟩ := lns_tri hls
  have hb1 := (Below.refl w.heap.size w).alloc (Nat.le_refl _) (.cells (d.vs (triV t)) 25)
  have hd1 : DBlk (w.alloc (.cells (d.vs (triV t)) 25)) w.heap.size d (triV t) := heap_alloc_new w (.cells (d.vs (triV t)) 25 (0, 0))
  have HLS := Lib.hid (hls.below hb1)
  have HOK := Lib.hid hok
  have HB1 := Lib.hid hb1
  have HD1 := Lib.hid hd1
  generalize hdd : d = dd at HLS HOK HD1
  generalize htt : t = tt at HLS HD1
  have HDD := Lib.hid hdd
  have HTT := Lib.hid htt
  clear hls hok hb1 hd1 hdd htt
  obtain ⟨id, sale, cred, ref, day, cty, num, cur, ls⟩ := d
  obtain ⟨tA, tn, tc⟩ := t
  have hdd := HDD.out
  have htt := HTT.out
  subst hdd htt
  clear HDD HTT
  simp only [Dm.vs, triV] at *
  go_enter Try.func5, Try.ntmps5
  go_upto_region 1 with fail
  generalize World.alloc w _ = w1 at *
  have hb2 := (Below.refl w1.heap.size w1).alloc (Nat.le_refl _) (.cells ((⟨id, sale, cred, ref, day, cty, num, cur, ls⟩ : Dm).vs (triV (tA, tn, tc))) 25)
  have hlg := lights_any (docs_one (heap_alloc_new w1 (.cells ((⟨id, sale, cred, ref, day, cty, num, cur, ls⟩ : Dm).vs (triV (tA, tn, tc))) 25 (0, 0))) (((HLS.out.more HB1.out.size).below hb2).more hb2.size) HOK.out) (Nat.le_refl _)
  simp only [Dm.vs, triV] at hlg hb2
  have HLG := Lib.hid hlg
  have HB2 := Lib.hid (HB1.out.trans (hb2.mono HB1.out.size))
  have HD2 := Lib.hid (HD1.out.below hb2)
  have hgd : w.heap.size < w1.heap.size := lt_of_blk HD1.out
  obtain ⟨y0, y1, y2, y3, y4, y5, y6, y7, y8⟩ := HD1.out.box
  simp only at y0 y1 y2 y3 y4 y5 y6 y7 y8
  clear hlg hb2
  go_wp2_with (first
    | (go_at_call 10; (with_reducible refine HLG.out.mono ?_); rintro e w3 ⟨b, rfl, hb, hb3⟩; have HB3 := Lib.hid (HB2.out.trans (hb3.mono HB2.out.size)); have HD3 := Lib.hid (HD2.out.below hb3); have HLI := Lib.hid hb; clear hb hb3 HLG y0 y1 y2 y3 y4 y5 y6 y7 y8; cases b)
    | (go_at_call 11; (with_reducible refine (lives29_any _).mono ?_); rintro e w4 ⟨rfl, hb4⟩))
  · go_ret
    exact ⟨rfl, HB3.out.trans (hb4.mono HB3.out.size)⟩
  have hb4 := (Below.refl w3.heap.size w3).alloc (Nat.le_refl _) (.cells #[.map none, .map none] 48)
  have hn4 := heap_alloc_new w3 (.cells #[.map none, .map none] 48 (0, 0))
  have hb5 := (Below.refl (w3.alloc (.cells #[.map none, .map none] 48)).heap.size (w3.alloc (.cells #[.map none, .map none] 48))).alloc (Nat.le_refl _) (.cells #[.pointer none, .pointer (some ⟨w3.heap.size, 0, none⟩)] 28)
  have hn5 := heap_alloc_new (w3.alloc (.cells #[.map none, .map none] 48)) (.cells #[.pointer none, .pointer (some ⟨w3.heap.size, 0, none⟩)] 28 (0, 0))
  rw [World.size_alloc] at hn5
  have hn5' := (hb5.block _ (by simp)).trans hn4
  have hb45 := hb4.trans (hb5.mono hb4.size)
  have HF := Lib.hid (show ∀ k : Nat, k < 2 → ∃ a, ((w3.alloc (.cells #[.map none, .map none] 48)).alloc (.cells #[.pointer none, .pointer (some ⟨w3.heap.size, 0, none⟩)] 28)).cell? ((⟨w3.heap.size + 1, 0, none⟩ : Addr).add k) = some (.pointer a) ∧ NobS ((w3.alloc (.cells #[.map none, .map none] 48)).alloc (.cells #[.pointer none, .pointer (some ⟨w3.heap.size, 0, none⟩)] 28)) (.pointer a) from fun k hk => by
    match k, hk with
    | 0, _ => exact ⟨none, cells_of hn5 0 _ rfl, .inl rfl⟩
    | 1, _ => exact ⟨_, cells_of hn5 1 _ rfl, .inr ⟨_, rfl, hn5'⟩⟩)
  have HSZ := Lib.hid (show (⟨w3.heap.size + 1, 0, none⟩ : Addr).block < ((w3.alloc (.cells #[.map none, .map none] 48)).alloc (.cells #[.pointer none, .pointer (some ⟨w3.heap.size, 0, none⟩)] 28)).heap.size by simp)
  have HB5 := Lib.hid (HB3.out.trans (hb45.mono HB3.out.size))
  have HD5 := Lib.hid (HD3.out.below hb45)
  clear hb4 hn4 hb5 hn5 hn5' hb45
  generalize World.alloc (World.alloc w3 _) _ = w5 at HF HB5 HD5 HSZ ⊢
  generalize (⟨w3.heap.size + 1, 0, none⟩ : Addr) = ad at HF HSZ ⊢
  go_loopg [5, 6, 7, 18] 2 (fun gk x5 x6 x7 x18 wr => ∃ k : Nat, gk = 2 - k ∧ k ≤ 2 ∧ x18 = .int .i64 (k : Int) ∧ Below w5.heap.size w5 wr)
  case atStart => exact ⟨0, rfl, by omega, rfl, Below.refl _ _⟩
  case round =>
    obtain ⟨k, hgk, hk, rfl, hbel⟩ := hrel
    have HG := Lib.hid hgk
    have HB6 := Lib.hid hbel
    clear hgk hbel
    have HBW := Lib.hid (HB5.out.trans (HB6.out.mono HB5.out.size))
    by_cases h : k < 2
    · obtain ⟨p, hc, hp⟩ := HF.out k h
      have hc := (HB6.out.cell (p := ad.add k) (by rw [addr_add_block]; exact HSZ.out)).trans hc
      have hp := hp.below HB6.out
      have hgt := getN_any hp id
      have HP := Lib.hid hp
      have HDW := Lib.hid (HD5.out.below HB6.out)
      obtain ⟨y0, y1, y2, y3, y4, y5, y6, y7, y8⟩ := HDW.out.box
      simp only at y0 y1 y2 y3 y4 y5 y6 y7 y8
      have i1 : (0 : Int) ≤ (k : Int) := by omega
      have i2 : (k : Int) < 2 := by omega
      have i3 : IntKind.i64.wrap ((k : Int) + 1) = (k : Int) + 1 := by rw [IntKind.wrap_i64]; omega
      simp only [Dm.zero, Dm.vs] at hgt
      clear hp
      go_upto_region 8 with (go_at_call 16; (with_reducible refine hgt.mono ?_); rintro e w7 ⟨rfl, hb7⟩)
      have hb8 := (Below.refl w7.heap.size w7).alloc (Nat.le_refl _) (.cells (Dm.zero.vs (.slice none 0 0)) 25)
      have hx8 : DBlk (w7.alloc (.cells (Dm.zero.vs (.slice none 0 0)) 25)) w7.heap.size Dm.zero (.slice none 0 0) := heap_alloc_new w7 (.cells (Dm.zero.vs (.slice none 0 0)) 25 (0, 0))
      simp only [Dm.zero, Dm.vs] at hb8
      have hb78 := hb7.trans (hb8.mono hb7.size)
      have HP8 := Lib.hid (HP.out.below hb78)
      have HD8 := Lib.hid (HDW.out.below hb78)
      have HB8 := Lib.hid (HB6.out.trans (hb78.mono HB6.out.size))
      have HX8 := Lib.hid hx8
      simp only [Dm.zero, Dm.vs] at HX8
      clear hb8 hx8 hb7 hb78 hgt hc y0 y1 y2 y3 y4 y5 y6 y7 y8 HP HDW
      generalize World.alloc w7 _ = w8 at *
      generalize w7.heap.size = gx at *
      have HX := Lib.hid (fun W (hW : Below w8.heap.size w8 W) => (show NobS W (.pointer p) ∧ DBlk W w.heap.size _ _ ∧ DBlk W gx Dm.zero (.slice none 0 0) from ⟨HP8.out.below hW, HD8.out.below hW, (show DBlk w8 gx Dm.zero (.slice none 0 0) from HX8.out).below hW⟩))
      have hsz : w.heap.size < w8.heap.size := lt_of_blk HD8.out
      have hzx := fun W => rsamedoc_any (w := W) (Ba := 0) (Bb := 0) (va := .agg (Dm.zero.vs (.slice none 0 0))) (vb := .agg (Dm.zero.vs (.slice none 0 0))) (a := Dm.zero) (b := Dm.zero) ⟨_, rfl, Lns.nil_ _ _, Dm.zero_ok⟩ (Nat.zero_le _) ⟨_, rfl, Lns.nil_ _ _, Dm.zero_ok⟩ (Nat.zero_le _) (by decide)
      rw [decide_eq_true rfl] at hzx
      simp only [Dm.zero, Dm.vs] at hzx
      have HZX := Lib.hid hzx
      clear hzx HP8 HD8 HX8
      refine wp_region_sp (by kernel_rfl) [isS (.pointer p), isS (.agg #[.string id, .bool sale, .bool cred, .string ref, .int .i64 day, .string cty, .string num, .string cur, .slice tA tn tc]), isS (.int .i64 1), isS (.bool false), isS (.bool false), isS (.pointer p), isS (.agg #[.string id, .bool sale, .bool cred, .string ref, .int .i64 day, .string cty, .string num, .string cur, .slice tA tn tc]), isS (.int .i64 1), isS (.bool false), isS (.bool false), isS (.bool false), isS (.bool false), isS (.bool false), isS (.bool false), isS (.agg #[.string ⟨#[]⟩, .bool false, .bool false, .string ⟨#[]⟩, .int .i64 0, .string ⟨#[]⟩, .string ⟨#[]⟩, .string ⟨#[]⟩, .slice none 0 0]), isS (.agg #[.string ⟨#[]⟩, .bool false, .bool false, .string ⟨#[]⟩, .int .i64 0, .string ⟨#[]⟩, .string ⟨#[]⟩, .string ⟨#[]⟩, .slice none 0 0]), isS (.bool true), isS (.bool false), isS (.bool false), isS (.bool false), isS (.pointer p), isS (.int .i64 0), isS (.pointer p), isS (.pointer (some ⟨w.heap.size, 0, none⟩)), isS (.string id), isS (.slice none 0 0), isS (.int .i64 0), isS (.int .i64 0), isS (.bool false), isS (.bool false)] (by kernel_rfl) (by kernel_rfl) (fun q hq => ?_) (fun a' w9 hc hs => ?_)
      · match q, hq with
        | 0, _ =>
          intro a W hc hd
          have z5 := hc.same 5 (by kernel_rfl)
          simp only [List.getElem?_toArray, List.getElem?_cons_succ, List.getElem?_cons_zero, Option.getD_some] at z5
          refine obl_val rfl (wanted_none rfl) ?_ rfl
          go_simp
        | 1, _ =>
          intro a W hc hd
          have z1 := hc.same 1 (by kernel_rfl)
          simp only [List.getElem?_toArray, List.getElem?_cons_succ, List.getElem?_cons_zero, Option.getD_some] at z1
          obtain ⟨y0, y1, y2, y3, y4, y5, y6, y7, y8⟩ := (HX.out W ((Below.refl w8.heap.size w8).drew.trans hc.below)).2.1.box
          simp only at y0 y1 y2 y3 y4 y5 y6 y7 y8
          refine obl_val rfl (wanted_none rfl) ?_ rfl
          go_simp
        | 2, _ =>
          intro a W hc hd
          have s0 : a.tmps[29]?.getD undef = (.pointer p) := hd 0 (by kernel_rfl)
          have s1 : a.tmps[30]?.getD undef = (.agg #[.string id, .bool sale, .bool cred, .string ref, .int .i64 day, .string cty, .string num, .string cur, .slice tA tn tc]) := hd 1 (by kernel_rfl)
          refine obl_call rfl (wanted_none rfl) (by go_simp; rfl) (checkN_any (HX.out W ((Below.refl w8.heap.size w8).drew.trans hc.below)).1 (⟨id, sale, cred, ref, day, cty, num, cur, ls⟩ : Dm) (.slice tA tn tc)) ?_
          rintro e w9 ⟨rfl, hb9⟩
          exact ⟨_, rfl, rfl, hb9⟩
        | 3, _ =>
          intro a W hc hd
          have s2 : a.tmps[31]?.getD undef = (.int .i64 1) := hd 2 (by kernel_rfl)
          refine obl_val rfl (wanted_none rfl) ?_ rfl
          go_simp
        | 4, _ =>
          intro a W hc hd
          have s3 : a.tmps[32]?.getD undef = (.bool false) := hd 3 (by kernel_rfl)
          refine obl_val rfl (wanted_none rfl) ?_ rfl
          go_simp
        | 5, _ =>
          intro a W hc hd
          have z5 := hc.same 5 (by kernel_rfl)
          have s4 : a.tmps[33]?.getD undef = (.bool false) := hd 4 (by kernel_rfl)
          simp only [List.getElem?_toArray, List.getElem?_cons_succ, List.getElem?_cons_zero, Option.getD_some] at z5
          refine obl_val rfl (wanted_some rfl rfl s4) ?_ rfl
          go_simp
        | 6, _ =>
          intro a W hc hd
          have z1 := hc.same 1 (by kernel_rfl)
          have s4 : a.tmps[33]?.getD undef = (.bool false) := hd 4 (by kernel_rfl)
          simp only [List.getElem?_toArray, List.getElem?_cons_succ, List.getElem?_cons_zero, Option.getD_some] at z1
          obtain ⟨y0, y1, y2, y3, y4, y5, y6, y7, y8⟩ := (HX.out W ((Below.refl w8.heap.size w8).drew.trans hc.below)).2.1.box
          simp only at y0 y1 y2 y3 y4 y5 y6 y7 y8
          refine obl_val rfl (wanted_some rfl rfl s4) ?_ rfl
          go_simp
        | 7, _ =>
          intro a W hc hd
          have s5 : a.tmps[34]?.getD undef = (.pointer p) := hd 5 (by kernel_rfl)
          have s6 : a.tmps[35]?.getD undef = (.agg #[.string id, .bool sale, .bool cred, .string ref, .int .i64 day, .string cty, .string num, .string cur, .slice tA tn tc]) := hd 6 (by kernel_rfl)
          have s4 : a.tmps[33]?.getD undef = (.bool false) := hd 4 (by kernel_rfl)
          refine obl_call rfl (wanted_some rfl rfl s4) (by go_simp; rfl) (putN_any (HX.out W ((Below.refl w8.heap.size w8).drew.trans hc.below)).1 (⟨id, sale, cred, ref, day, cty, num, cur, ls⟩ : Dm) (.slice tA tn tc)) ?_
          rintro e w9 ⟨rfl, hb9⟩
          exact ⟨_, rfl, rfl, hb9⟩
        | 8, _ =>
          intro a W hc hd
          have s7 : a.tmps[36]?.getD undef = (.int .i64 1) := hd 7 (by kernel_rfl)
          have s4 : a.tmps[33]?.getD undef = (.bool false) := hd 4 (by kernel_rfl)
          refine obl_val rfl (wanted_some rfl rfl s4) ?_ rfl
          go_simp
        | 9, _ =>
          intro a W hc hd
          have s4 : a.tmps[33]?.getD undef = (.bool false) := hd 4 (by kernel_rfl)
          have s8 : a.tmps[37]?.getD undef = (.bool false) := hd 8 (by kernel_rfl)
          refine obl_val rfl (wanted_none rfl) ?_ rfl
          go_simp
        | 10, _ =>
          intro a W hc hd
          have s9 : a.tmps[38]?.getD undef = (.bool false) := hd 9 (by kernel_rfl)
          refine obl_val rfl (wanted_none rfl) ?_ rfl
          go_simp
        | 11, _ =>
          intro a W hc hd
          have z7 := hc.same 7 (by kernel_rfl)
          have s10 : a.tmps[39]?.getD undef = (.bool false) := hd 10 (by kernel_rfl)
          simp only [List.getElem?_toArray, List.getElem?_cons_succ, List.getElem?_cons_zero, Option.getD_some] at z7
          refine obl_val rfl (wanted_some rfl rfl s10) ?_ rfl
          go_simp
        | 12, _ =>
          intro a W hc hd
          have s10 : a.tmps[39]?.getD undef = (.bool false) := hd 10 (by kernel_rfl)
          have s11 : a.tmps[40]?.getD undef = (.bool false) := hd 11 (by kernel_rfl)
          refine obl_val rfl (wanted_none rfl) ?_ rfl
          go_simp
        | 13, _ =>
          intro a W hc hd
          have s12 : a.tmps[41]?.getD undef = (.bool false) := hd 12 (by kernel_rfl)
          refine obl_val rfl (wanted_none rfl) ?_ rfl
          go_simp
        | 14, _ =>
          intro a W hc hd
          have z6 := hc.same 6 (by kernel_rfl)
          have s13 : a.tmps[42]?.getD undef = (.bool false) := hd 13 (by kernel_rfl)
          simp only [List.getElem?_toArray, List.getElem?_cons_succ, List.getElem?_cons_zero, Option.getD_some] at z6
          obtain ⟨y0, y1, y2, y3, y4, y5, y6, y7, y8⟩ := (HX.out W ((Below.refl w8.heap.size w8).drew.trans hc.below)).2.2.box
          simp only [Dm.zero] at y0 y1 y2 y3 y4 y5 y6 y7 y8
          refine obl_val rfl (wanted_some rfl rfl s13) ?_ rfl
          go_simp
        | 15, _ =>
          intro a W hc hd
          have s13 : a.tmps[42]?.getD undef = (.bool false) := hd 13 (by kernel_rfl)
          refine obl_val rfl (wanted_some rfl rfl s13) ?_ rfl
          go_simp
        | 16, _ =>
          intro a W hc hd
          have s14 : a.tmps[43]?.getD undef = (.agg #[.string ⟨#[]⟩, .bool false, .bool false, .string ⟨#[]⟩, .int .i64 0, .string ⟨#[]⟩, .string ⟨#[]⟩, .string ⟨#[]⟩, .slice none 0 0]) := hd 14 (by kernel_rfl)
          have s15 : a.tmps[44]?.getD undef = (.agg #[.string ⟨#[]⟩, .bool false, .bool false, .string ⟨#[]⟩, .int .i64 0, .string ⟨#[]⟩, .string ⟨#[]⟩, .string ⟨#[]⟩, .slice none 0 0]) := hd 15 (by kernel_rfl)
          have s13 : a.tmps[42]?.getD undef = (.bool false) := hd 13 (by kernel_rfl)
          refine obl_call rfl (wanted_some rfl rfl s13) (by go_simp) (HZX.out W) ?_
          rintro e w9 ⟨rfl, hb9⟩
          exact ⟨_, rfl, rfl, hb9⟩
        | 17, _ =>
          intro a W hc hd
          have s16 : a.tmps[45]?.getD undef = (.bool true) := hd 16 (by kernel_rfl)
          have s13 : a.tmps[42]?.getD undef = (.bool false) := hd 13 (by kernel_rfl)
          refine obl_val rfl (wanted_some rfl rfl s13) ?_ rfl
          go_simp
        | 18, _ =>
          intro a W hc hd
          have s13 : a.tmps[42]?.getD undef = (.bool false) := hd 13 (by kernel_rfl)
          have s17 : a.tmps[46]?.getD undef = (.bool false) := hd 17 (by kernel_rfl)
          refine obl_val rfl (wanted_none rfl) ?_ rfl
          go_simp
        | 19, _ =>
          intro a W hc hd
          have s18 : a.tmps[47]?.getD undef = (.bool false) := hd 18 (by kernel_rfl)
          refine obl_val rfl (wanted_none rfl) ?_ rfl
          go_simp
        | 20, _ =>
          intro a W hc hd
          have z5 := hc.same 5 (by kernel_rfl)
          have s19 : a.tmps[48]?.getD undef = (.bool false) := hd 19 (by kernel_rfl)
          simp only [List.getElem?_toArray, List.getElem?_cons_succ, List.getElem?_cons_zero, Option.getD_some] at z5
          refine obl_val rfl (wanted_some rfl rfl s19) ?_ rfl
          go_simp
        | 21, _ =>
          intro a W hc hd
          have s20 : a.tmps[49]?.getD undef = (.pointer p) := hd 20 (by kernel_rfl)
          have s19 : a.tmps[48]?.getD undef = (.bool false) := hd 19 (by kernel_rfl)
          refine obl_call rfl (wanted_some rfl rfl s19) (by go_simp) (lenN_any (HX.out W ((Below.refl w8.heap.size w8).drew.trans hc.below)).1) ?_
          rintro e w9 ⟨rfl, rfl⟩
          exact ⟨_, rfl, rfl, Below.refl _ _⟩
        | 22, _ =>
          intro a W hc hd
          have z5 := hc.same 5 (by kernel_rfl)
          have s19 : a.tmps[48]?.getD undef = (.bool false) := hd 19 (by kernel_rfl)
          simp only [List.getElem?_toArray, List.getElem?_cons_succ, List.getElem?_cons_zero, Option.getD_some] at z5
          refine obl_val rfl (wanted_some rfl rfl s19) ?_ rfl
          go_simp
        | 23, _ =>
          intro a W hc hd
          have z1 := hc.same 1 (by kernel_rfl)
          have s19 : a.tmps[48]?.getD undef = (.bool false) := hd 19 (by kernel_rfl)
          simp only [List.getElem?_toArray, List.getElem?_cons_succ, List.getElem?_cons_zero, Option.getD_some] at z1
          refine obl_val rfl (wanted_some rfl rfl s19) ?_ rfl
          go_simp
        | 24, _ =>
          intro a W hc hd
          have s23 : a.tmps[52]?.getD undef = (.pointer (some ⟨w.heap.size, 0, none⟩)) := hd 23 (by kernel_rfl)
          have s19 : a.tmps[48]?.getD undef = (.bool false) := hd 19 (by kernel_rfl)
          obtain ⟨y0, y1, y2, y3, y4, y5, y6, y7, y8⟩ := (HX.out W ((Below.refl w8.heap.size w8).drew.trans hc.below)).2.1.box
          simp only at y0 y1 y2 y3 y4 y5 y6 y7 y8
          refine obl_val rfl (wanted_some rfl rfl s19) ?_ rfl
          go_simp
        | 25, _ =>
          intro a W hc hd
          have s22 : a.tmps[51]?.getD undef = (.pointer p) := hd 22 (by kernel_rfl)
          have s24 : a.tmps[53]?.getD undef = (.string id) := hd 24 (by kernel_rfl)
          have s19 : a.tmps[48]?.getD undef = (.bool false) := hd 19 (by kernel_rfl)
          refine obl_call rfl (wanted_some rfl rfl s19) (by go_simp) (credN_any (HX.out W ((Below.refl w8.heap.size w8).drew.trans hc.below)).1 id) ?_
          rintro e w9 ⟨rfl, rfl⟩
          exact ⟨_, rfl, rfl, Below.refl _ _⟩
        | 26, _ =>
          intro a W hc hd
          have s25 : a.tmps[54]?.getD undef = (.slice none 0 0) := hd 25 (by kernel_rfl)
          have s19 : a.tmps[48]?.getD undef = (.bool false) := hd 19 (by kernel_rfl)
          refine obl_val rfl (wanted_some rfl rfl s19) ?_ rfl
          go_simp
        | 27, _ =>
          intro a W hc hd
          have s21 : a.tmps[50]?.getD undef = (.int .i64 0) := hd 21 (by kernel_rfl)
          have s26 : a.tmps[55]?.getD undef = (.int .i64 0) := hd 26 (by kernel_rfl)
          have s19 : a.tmps[48]?.getD undef = (.bool false) := hd 19 (by kernel_rfl)
          refine obl_val rfl (wanted_some rfl rfl s19) ?_ rfl
          go_simp
          decide
        | 28, _ =>
          intro a W hc hd
          have s27 : a.tmps[56]?.getD undef = (.int .i64 0) := hd 27 (by kernel_rfl)
          have s19 : a.tmps[48]?.getD undef = (.bool false) := hd 19 (by kernel_rfl)
          refine obl_val rfl (wanted_some rfl rfl s19) ?_ rfl
          go_simp
        | 29, _ =>
          intro a W hc hd
          have s19 : a.tmps[48]?.getD undef = (.bool false) := hd 19 (by kernel_rfl)
          have s28 : a.tmps[57]?.getD undef = (.bool false) := hd 28 (by kernel_rfl)
          refine obl_val rfl (wanted_none rfl) ?_ rfl
          go_simp
        | n + 30, h => exact absurd h (by simp)
      · skip
        have hfr := grow_frame hc [(29, (.pointer p)), (30, (.agg #[.string id, .bool sale, .bool cred, .string ref, .int .i64 day, .string cty, .string num, .string cur, .slice tA tn tc])), (31, (.int .i64 1)), (32, (.bool false)), (33, (.bool false)), (34, (.pointer p)), (35, (.agg #[.string id, .bool sale, .bool cred, .string ref, .int .i64 day, .string cty, .string num, .string cur, .slice tA tn tc])), (36, (.int .i64 1)), (37, (.bool false)), (38, (.bool false)), (39, (.bool false)), (40, (.bool false)), (41, (.bool false)), (42, (.bool false)), (43, (.agg #[.string ⟨#[]⟩, .bool false, .bool false, .string ⟨#[]⟩, .int .i64 0, .string ⟨#[]⟩, .string ⟨#[]⟩, .string ⟨#[]⟩, .slice none 0 0])), (44, (.agg #[.string ⟨#[]⟩, .bool false, .bool false, .string ⟨#[]⟩, .int .i64 0, .string ⟨#[]⟩, .string ⟨#[]⟩, .string ⟨#[]⟩, .slice none 0 0])), (45, (.bool true)), (46, (.bool false)), (47, (.bool false)), (48, (.bool false)), (49, (.pointer p)), (50, (.int .i64 0)), (51, (.pointer p)), (52, (.pointer (some ⟨w.heap.size, 0, none⟩))), (53, (.string id)), (54, (.slice none 0 0)), (55, (.int .i64 0)), (56, (.int .i64 0)), (57, (.bool false)), (58, (.bool false))] (by kernel_rfl) (fun p hp => by
            simp only [List.mem_cons, List.not_mem_nil, or_false] at hp
            rcases hp with rfl | rfl | rfl | rfl | rfl | rfl | rfl | rfl | rfl | rfl | rfl | rfl | rfl | rfl | rfl | rfl | rfl | rfl | rfl | rfl | rfl | rfl | rfl | rfl | rfl | rfl | rfl | rfl | rfl | rfl
            · exact hs 0 29 (by decide) (by kernel_rfl)
            · exact hs 1 30 (by decide) (by kernel_rfl)
            · exact hs 2 31 (by decide) (by kernel_rfl)
            · exact hs 3 32 (by decide) (by kernel_rfl)
            · exact hs 4 33 (by decide) (by kernel_rfl)
            · exact hs 5 34 (by decide) (by kernel_rfl)
            · exact hs 6 35 (by decide) (by kernel_rfl)
            · exact hs 7 36 (by decide) (by kernel_rfl)
            · exact hs 8 37 (by decide) (by kernel_rfl)
            · exact hs 9 38 (by decide) (by kernel_rfl)
            · exact hs 10 39 (by decide) (by kernel_rfl)
            · exact hs 11 40 (by decide) (by kernel_rfl)
            · exact hs 12 41 (by decide) (by kernel_rfl)
            · exact hs 13 42 (by decide) (by kernel_rfl)
            · exact hs 14 43 (by decide) (by kernel_rfl)
            · exact hs 15 44 (by decide) (by kernel_rfl)
            · exact hs 16 45 (by decide) (by kernel_rfl)
            · exact hs 17 46 (by decide) (by kernel_rfl)
            · exact hs 18 47 (by decide) (by kernel_rfl)
            · exact hs 19 48 (by decide) (by kernel_rfl)
            · exact hs 20 49 (by decide) (by kernel_rfl)
            · exact hs 21 50 (by decide) (by kernel_rfl)
            · exact hs 22 51 (by decide) (by kernel_rfl)
            · exact hs 23 52 (by decide) (by kernel_rfl)
            · exact hs 24 53 (by decide) (by kernel_rfl)
            · exact hs 25 54 (by decide) (by kernel_rfl)
            · exact hs 26 55 (by decide) (by kernel_rfl)
            · exact hs 27 56 (by decide) (by kernel_rfl)
            · exact hs 28 57 (by decide) (by kernel_rfl)
            · exact hs 29 58 (by decide) (by kernel_rfl)
            )
        simp only [List.range, List.range.loop, List.size_toArray, List.length_cons, List.length_nil, List.map_cons, List.map_nil, List.lookup_cons, List.lookup_nil, Nat.reduceAdd, Nat.reduceBEq, Option.getD_some, Option.getD_none, List.getElem?_toArray, List.getElem?_cons_succ, List.getElem?_cons_zero] at hfr
        subst hfr
        have HB9 := Lib.hid (HB8.out.trans (((Below.refl w8.heap.size w8).drew.trans hc.below).mono HB8.out.size))
        clear hc hs
        go_wp2
        go_roundg (2 - (k + 1))
        case measure => have := HG.out; omega
        case rel => exact ⟨k + 1, rfl, by omega, by simp, HB9.out⟩
    · obtain rfl : k = 2 := by omega
      go_wp2_with (go_at_call 11; (with_reducible refine (lives29_any _).mono ?_); rintro e w7 ⟨rfl, hb7⟩)
      go_ret
      exact ⟨rfl, HBW.out.trans (hb7.mono HBW.out.size)⟩
end Go.Proofs.Ytnfpmobmfcgfnaa
