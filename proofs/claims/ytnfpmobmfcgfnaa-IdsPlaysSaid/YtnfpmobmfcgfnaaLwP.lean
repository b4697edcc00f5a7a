/- THE LAW IdsPlays, WALKED (printed by gen/genlwp.py). -/
import Derived.Test.YtnfpmobmfcgfnaaIdP
namespace Go.Proofs.Ytnfpmobmfcgfnaa
open Go.RowKit
theorem Dm.ok.toLim {o : Dm} (h : o.ok) (hl : o.ls.length ≤ 70) : o.lim := ⟨h.cty, h.num, by omega⟩
theorem St.base_le {w : World} {base g : Nat} {Z : Nat → Prop} {docs : List Dm} (h : St w base g Z docs) : base ≤ w.heap.size := by
  obtain ⟨_, _, _, _, _, _, q⟩ := h.ex
  exact Nat.le_trans h.g0 (Nat.le_of_lt (lt_of_blk q.hd))
theorem names_at {w : World} {b : Nat} {s0 s1 s2 : ByteArray} (h : w.heap[b]? = some (.cells #[.string s0, .string s1, .string s2] 9 (0, 0))) (h0 : s0.size ≤ maxLen) (h1 : s1.size ≤ maxLen) (h2 : s2.size ≤ maxLen) :
    ∀ k : Nat, k < 3 → ∃ s : ByteArray, s.size ≤ maxLen ∧ w.cell? ((⟨b, 0, none⟩ : Addr).add k) = some (.string s) := fun k hk => by
  match k, hk with
  | 0, _ => exact ⟨s0, h0, cells_of h 0 _ rfl⟩
  | 1, _ => exact ⟨s1, h1, cells_of h 1 _ rfl⟩
  | 2, _ => exact ⟨s2, h2, cells_of h 2 _ rfl⟩
set_option maxRecDepth 100000 in
set_option maxHeartbeats 16000000 in
theorem plays_law {w : World} (v : Value) (os : List Dm) (hs : Docs w w.heap.size v os) (id : ByteArray) (hid : id.size ≤ maxLen) : Calls Try.prog 4 #[v, .string id] w fun e w' => e = .returned (.bool true) ∧ Below w.heap.size w w' := by
  obtain ⟨A, c, rfl, hcl, hcm⟩ := hs.form
  have hlg := lights_any hs (Nat.le_refl _)
  have HLG := Lib.hid hlg
  have HS := Lib.hid (fun W (hW : Below w.heap.size w W) => hs.below hW)
  have HID := Lib.hid hid
  clear hlg hs hid
  by_cases h200 : 200 < id.size
  · have e200 : decide ((200 : Int) < (id.size : Int)) = true := decide_eq_true (by omega)
    go_enter Try.func4, Try.ntmps4
    go_wp2_with (first
      | (go_at_call 10; (with_reducible refine HLG.out.mono ?_); rintro e w1 ⟨b, rfl, _, hb1⟩; cases b)
      | (go_at_call 11; (with_reducible refine (lives29_any _).mono ?_); rintro e w2 ⟨rfl, hb2⟩))
    all_goals go_ret
    all_goals exact ⟨rfl, hb1.trans (hb2.mono hb1.size)⟩
  have e200 : decide ((200 : Int) < (id.size : Int)) = false := decide_eq_false (by omega)
  clear h200
  go_enter Try.func4, Try.ntmps4
  go_wp2_with (first
    | (go_at_call 10; (with_reducible refine HLG.out.mono ?_); rintro e w1 ⟨b, rfl, hb, hb1⟩; have HLI := Lib.hid hb; have HB1 := Lib.hid hb1; clear hb hb1; cases b)
    | (go_at_call 11; (with_reducible refine (lives29_any _).mono ?_); rintro e w2 ⟨rfl, hb2⟩)
    | (go_at_call 12; (with_reducible refine (idsnew_any _).mono ?_); rintro e w2 ⟨g, Z, rfl, hst, hb2⟩))
  · go_ret
    exact ⟨rfl, HB1.out.trans (hb2.mono HB1.out.size)⟩
  have hli := HLI.out (by simp)
  have h40 := hli.1
  have H70 := Lib.hid hli.2
  have hbb2 := HB1.out.trans (hb2.mono HB1.out.size)
  have HB2 := Lib.hid hbb2
  have HST2 := Lib.hid hst
  have HBS := Lib.hid HB1.out.size
  generalize hbase : w1.heap.size = base at *
  clear hli hb2 hbb2 hst HLI HLG e200 hbase HB1
  go_loopg [6, 8, 9, 10, 12, 13, 14, 15, 30] os.length (fun gk x6 x8 x9 x10 x12 x13 x14 x15 x30 wr => ∃ (k : Nat) (Z : Nat → Prop) (ps : List (Dm × TriD)), gk = os.length - k ∧ k ≤ os.length ∧ x30 = .int .i64 (k : Int) ∧ ps.length ≤ k ∧ Ro w wr base x6 ps ∧ St wr base g Z (ps.map (·.1)))
  case atStart => exact ⟨0, Z, [], rfl, Nat.zero_le _, rfl, Nat.le_refl _, Ro.nil_ _ _ _ HB2.out, HST2.out⟩
  case round =>
    obtain ⟨k, Z, ps, hgk, hk, rfl, hpk, hro, hst⟩ := hrel
    generalize u6 = X6 at *
    have HG := Lib.hid hgk
    have HRO := Lib.hid hro
    have HST := Lib.hid hst
    clear hgk hro hst HST2
    by_cases h : k < os.length
    case neg =>
      obtain rfl : k = os.length := by omega
      have hbl := HRO.out.bl
      go_wp2_with (go_at_call 11; (with_reducible refine (lives29_any _).mono ?_); rintro e w7 ⟨rfl, hb7⟩)
      go_ret
      exact ⟨rfl, hbl.trans (hb7.mono hbl.size)⟩
    obtain ⟨ad, c', t, hv, hadB, hat, hln, hok⟩ := (HS.out w (Below.refl _ _)).at_ k h
    cases hv
    have hat := hat.keep (B := w.heap.size) (w' := wr) (by rw [addr_add_block]; exact hadB) (fun p hp => HRO.out.bl.cell hp)
    have h7 := H70.out _ (List.getElem_mem h)
    have i1 : (0 : Int) ≤ (k : Int) := by omega
    have i2 : (k : Int) < (os.length : Int) := by omega
    have i3 : IntKind.i64.wrap ((k : Int) + 1) = (k : Int) + 1 := by rw [IntKind.wrap_i64]; omega
    generalize os[k] = d at *
    have hb9 := (Below.refl wr.heap.size wr).alloc (Nat.le_refl _) (.cells (d.vs (triV t)) 25)
    have hx9 : DBlk (wr.alloc (.cells (d.vs (triV t)) 25)) wr.heap.size d (triV t) := heap_alloc_new wr (.cells (d.vs (triV t)) 25 (0, 0))
    have HRO9 := Lib.hid (HRO.out.below hb9)
    have HST9 := Lib.hid (HST.out.below hb9)
    have HX9 := Lib.hid hx9
    have HLT := Lib.hid (fun b hb => (HRO.out.ow.lt b hb).2)
    have HLN := Lib.hid hln
    have HOK := Lib.hid hok
    have H7 := Lib.hid h7
    have HPL := Lib.hid (show (ps.map (·.1)).length ≤ 100 by rw [List.length_map]; omega)
    generalize hD : ps.map (·.1) = D at *
    have HD := Lib.hid hD
    clear hb9 hx9 hln hok h7 hadB HRO HST hD
    obtain ⟨did, sale, cred, ref, day, cty, num, cur, ls⟩ := d
    obtain ⟨tA, tn, tc⟩ := t
    obtain ⟨c0, c1, c2, c3, c4, c5, c6, c7, c8⟩ := hat
    simp only [triV] at c0 c1 c2 c3 c4 c5 c6 c7 c8
    simp only [Dm.vs, triV] at HRO9 HST9 HX9
    go_upto_region 10 with fail
    generalize World.alloc wr _ = w9 at *
    generalize wr.heap.size = bd at *
    clear c0 c1 c2 c3 c4 c5 c6 c7 c8
    generalize hdd : (⟨did, sale, cred, ref, day, cty, num, cur, ls⟩ : Dm) = dd at HX9 HLN HOK H7
    generalize htt : ((tA, tn, tc) : TriD) = tt at HLN
    have htv : (.slice tA tn tc : Value) = triV tt := by subst htt; rfl
    rw [htv] at HX9
    have hvs : (.agg #[.string did, .bool sale, .bool cred, .string ref, .int .i64 day, .string cty, .string num, .string cur, .slice tA tn tc] : Value) = .agg (dd.vs (triV tt)) := by subst hdd htt; rfl
    have HVS := Lib.hid hvs
    have hb0 : ∀ W, DBlk W bd dd (triV tt) → DBox W bd ⟨did, sale, cred, ref, day, cty, num, cur, ls⟩ (.slice tA tn tc) := fun W hW => by subst hdd htt; exact hW.box
    have HBX := Lib.hid hb0
    have hidz : did.size ≤ maxLen := by have := HOK.out.id; subst hdd; exact this
    have hrfz : ref.size ≤ maxLen := by have := HOK.out.ref; subst hdd; exact this
    have HDZ := Lib.hid hidz
    have HRZ := Lib.hid hrfz
    clear hvs hb0 hdd htt htv hidz hrfz
    have hck := idscheck_any HST9.out (v := .agg (dd.vs (triV tt))) ⟨_, rfl, HLN.out.below HRO9.out.bl, HOK.out⟩ HRO9.out.bl.size (HOK.out.toLim H7.out)
    have hrc := fun W (hW : Below w9.heap.size w9 W) => by
      have := (HRO9.out.below hW).dcs
      rw [HD.out] at this
      exact rcheck29_any this (Nat.le_refl _) (Nat.le_trans HPL.out (by decide)) (u := .agg (dd.vs (triV tt))) ⟨_, rfl, HLN.out.below (HRO9.out.below hW).bl, HOK.out⟩ (HRO9.out.below hW).bl.size (HOK.out.toLim H7.out)
    have hpt := fun W (hW : Below w9.heap.size w9 W) => idsput_any (HST9.out.below hW) (v := .agg (dd.vs (triV tt))) ⟨_, rfl, HLN.out.below (HRO9.out.below hW).bl, HOK.out⟩ (HRO9.out.below hW).bl.size (HOK.out.toLim H7.out) (Nat.le_trans HPL.out (by decide))
    unfold PutPost at hpt
    generalize hF : checkD D dd = F at *
    rw [← HVS.out] at hck hrc hpt
    have HRC := Lib.hid hrc
    have HPT := Lib.hid hpt
    clear hrc hpt hF
    have hbx := HBX.out _ HX9.out
    obtain ⟨y0, y1, y2, y3, y4, y5, y6, y7, y8⟩ := hbx
    simp only at y0 y1 y2 y3 y4 y5 y6 y7 y8
    have e1 : (F != F) = false := by simp
    go_upto_if 51 with (first
      | (go_at_call 18; (with_reducible refine hck.mono ?_); rintro e wA ⟨rfl, hbA⟩; have HBA := Lib.hid hbA; clear hck hbA y0 y1 y2 y3 y4 y5 y6 y7 y8; have hbx := HBX.out _ (HX9.out.below HBA.out); obtain ⟨y0, y1, y2, y3, y4, y5, y6, y7, y8⟩ := hbx; simp only at y0 y1 y2 y3 y4 y5 y6 y7 y8; have hrc := HRC.out _ HBA.out)
      | (go_at_call 19; (with_reducible refine hrc.mono ?_); rintro e wB ⟨rfl, hbB⟩; have HBB := Lib.hid (HBA.out.trans (hbB.mono HBA.out.size)); clear hrc hbB y0 y1 y2 y3 y4 y5 y6 y7 y8; have hbx := HBX.out _ (HX9.out.below HBB.out); obtain ⟨y0, y1, y2, y3, y4, y5, y6, y7, y8⟩ := hbx; simp only at y0 y1 y2 y3 y4 y5 y6 y7 y8; have hpt := HPT.out _ HBB.out)
      | (go_at_call 13; (with_reducible refine hpt.mono ?_); rintro e wC ⟨Z1, rfl, hstC, _, hkC⟩; have HSTC := Lib.hid hstC; have HROC := Lib.hid ((HRO9.out.below HBB.out).kept (HST9.out.below HBB.out) HBS.out hkC); have HXC := Lib.hid (show DBlk wC bd dd (triV tt) from hkC.heap (HX9.out.below HBB.out) (fun hz => ((HST9.out.below HBB.out).kd _ hz).ne (HX9.out.below HBB.out) (by decide) rfl)); clear hpt hstC hkC y0 y1 y2 y3 y4 y5 y6 y7 y8))
    have HBZ := Lib.hid HSTC.out.base_le
    have HPS := Lib.hid (show ps.length + 1 ≤ 1000 by omega)
    have HK4 := Lib.hid (show k + 1 ≤ 40 by omega)
    have hal := (Below.refl wC.heap.size wC).alloc (Nat.le_refl _) (.cells (dd.vs (triV tt)) 25)
    have hsl := slN_one (d := dd) (t := tt) (heap_alloc_new wC (.cells (dd.vs (triV tt)) 25 (0, 0)))
    have hvs := HVS.out
    injection hvs with hvs
    rw [← hvs] at hal hsl
    have HAL := Lib.hid hal
    have HSL := Lib.hid hsl
    have HDD := Lib.hid HD.out
    clear hvs hal hsl HBB HBA HPT HRC e1 h40 HRO9 HST9 HX9
    go_cut [6] from 52 to 55 (fun x6 wx => ∃ ps' : List (Dm × TriD), Ro w wx base x6 ps' ∧ St wx base g Z1 (ps'.map (·.1)) ∧ DBlk wx bd dd (triV tt) ∧ ps'.length ≤ k + 1)
    case first =>
      by_cases hF0 : F = 0
      · have hst := HSTC.out
        rw [if_pos hF0] at hst
        have HST := Lib.hid hst
        obtain ⟨y0, y1, y2, y3, y4, y5, y6, y7, y8⟩ := HBX.out _ HXC.out
        simp only at y0 y1 y2 y3 y4 y5 y6 y7 y8
        subst hF0
        clear hst
        go_wp2_with ((with_reducible show wpList _ _ _ (⟨some 55, _, _, _, _, _⟩ :: _) _ _); go_must (refine wpList_append_slN docK _ rfl (.tmp 52) (.tmp 54) 22 rfl Try.underlying22 base _ ps rfl (HROC.out.ow.alloc _) _ _ [(dd, tt)] rfl HSL.out (by simp; have := HPS.out; omega) (by decide) (Nat.le_trans HBZ.out (by simp)) ?_); intro v' w' ho' hg' hat'; have HO' := Lib.hid ho'; have HG' := Lib.hid hg'; clear ho' hg' hat')
        go_meet
        refine ⟨ps ++ [(dd, tt)], (HROC.out.below HAL.out).app HBS.out HO'.out HG'.out HLN.out HOK.out H7.out, ?_, ?_, by simp; omega⟩
        · have := (HST.out.below HAL.out).app (HROC.out.ow.alloc _) HG'.out
          rw [List.map_append, HD.out]
          exact this
        · exact ((Kept.refl (fun b => X6.ownBlock ≠ some b) _).grown HG'.out (fun k hk _ hS => hS hk)).heap (HXC.out.below HAL.out) (fun e => absurd (HLT.out _ e) (Nat.lt_irrefl _))
      · have hst := HSTC.out
        rw [if_neg hF0] at hst
        have HST := Lib.hid hst
        have e0 : (F == 0) = false := by rw [beq_eq_false_iff_ne]; exact hF0
        clear hst
        go_wp2
        go_meet
        exact ⟨ps, HROC.out, by rw [HD.out]; exact HST.out, HXC.out, by omega⟩
    case rest =>
    obtain ⟨ps', hro, hst, hx, hl'⟩ := hcut
    obtain ⟨y0, y1, y2, y3, y4, y5, y6, y7, y8⟩ := HBX.out _ hx
    simp only at y0 y1 y2 y3 y4 y5 y6 y7 y8
    obtain ⟨Au, cu, rfl, hcu1, hcu2⟩ := hro.dcs.form
    have hb3 := (Below.refl wc.heap.size wc).alloc (Nat.le_refl _) (.cells #[.string id, .string did, .string ref] 9)
    have HNM := Lib.hid (names_at (heap_alloc_new wc (.cells #[.string id, .string did, .string ref] 9 (0, 0))) HID.out HDZ.out HRZ.out)
    have HRW := Lib.hid (hro.below hb3)
    have HSW := Lib.hid (hst.below hb3)
    have HL1 := Lib.hid hl'
    generalize hD2 : ps'.map (·.1) = D2 at *
    have HD2 := Lib.hid hD2
    have HP2 := Lib.hid (show D2.length ≤ 100 by rw [← hD2, List.length_map]; have := HK4.out; omega)
    have H72 := Lib.hid (show ∀ o ∈ D2, o.ls.length ≤ 70 from fun o ho => by
      rw [← hD2] at ho
      obtain ⟨p, hp, rfl⟩ := List.mem_map.1 ho
      exact (hro.dk p hp).2.2)
    clear hro hst hb3 hx hl' hD2 HBX HVS HXC HROC HSTC HAL HSL HDD HLT
    go_wp2
    generalize World.alloc wc _ = w3 at *
    generalize (⟨wc.heap.size, 0, none⟩ : Addr) = an at *
    clear y0 y1 y2 y3 y4 y5 y6 y7 y8
    go_loopg [12, 13, 14, 15, 63] 3 (fun gk x12 x13 x14 x15 x63 wr => ∃ j : Nat, gk = 3 - j ∧ j ≤ 3 ∧ x63 = .int .i64 (j : Int) ∧ Below w3.heap.size w3 wr)
    case atStart => exact ⟨0, rfl, by omega, rfl, Below.refl _ _⟩
    case round =>
      obtain ⟨j, hgj, hj, rfl, hb4⟩ := hrel
      have HGJ := Lib.hid hgj
      have HB4 := Lib.hid hb4
      clear hgj hb4
      by_cases hj3 : j < 3
      case neg =>
        obtain rfl : j = 3 := by omega
        have hln := idslen_any (HSW.out.below HB4.out)
        have eln : ((D2.length : Int) != (D2.length : Int)) = false := by simp
        go_wp2_with (go_at_call 15; (with_reducible refine hln.mono ?_); rintro e w7 ⟨rfl, rfl⟩)
        go_roundg (os.length - (k + 1))
        case measure => have := HG.out; omega
        case rel => exact ⟨k + 1, Z1, ps', rfl, by omega, by simp, HL1.out, HRW.out.below HB4.out, by rw [HD2.out]; exact HSW.out.below HB4.out⟩
      obtain ⟨s, hsz, hc⟩ := HNM.out j hj3
      have hc := (HB4.out.cell (p := an.add j) (World.block_lt_of_cell? w3 _ hc)).trans hc
      have hget := idsget_any (HSW.out.below HB4.out) s hsz
      have hfd := fun W (hW : Below w3.heap.size w3 W) => by
        have := (HRW.out.below hW).dcs
        rw [HD2.out] at this
        exact rfind29_any this (Nat.le_trans HP2.out (by decide)) s
      have HFD := Lib.hid hfd
      have HGET := Lib.hid hget
      have HSZ := Lib.hid hsz
      have j1 : (0 : Int) ≤ (j : Int) := by omega
      have j2 : (j : Int) < 3 := by omega
      have j3 : IntKind.i64.wrap ((j : Int) + 1) = (j : Int) + 1 := by rw [IntKind.wrap_i64]; omega
      clear hget hfd hsz
      rcases pos_find D2 s.data.toList with ⟨hp, hf⟩ | ⟨i, hi, hp, hf⟩
      · have hget : Calls Try.prog 16 #[.pointer (some ⟨g, 0, none⟩), .string s] wr (fun e w' => e = .returned (.tuple #[.agg (Dm.zero.vs (.slice none 0 0)), .bool false]) ∧ Below wr.heap.size wr w') := HGET.out.mono fun e w' h => by
          obtain ⟨h1 | ⟨o, t, h1, _⟩, hb⟩ := h
          · exact ⟨h1.2, hb⟩
          · rw [hf] at h1; cases h1
        simp only [Dm.zero, Dm.vs] at hget
        go_upto_region 20 with (go_at_call 16; (with_reducible refine hget.mono ?_); rintro e w5 ⟨rfl, hb5⟩)
        have hb6 := (Below.refl w5.heap.size w5).alloc (Nat.le_refl _) (.cells (Dm.zero.vs (.slice none 0 0)) 25)
        have hx6 : DBlk (w5.alloc (.cells (Dm.zero.vs (.slice none 0 0)) 25)) w5.heap.size Dm.zero (.slice none 0 0) := heap_alloc_new w5 (.cells (Dm.zero.vs (.slice none 0 0)) 25 (0, 0))
        have HB6 := Lib.hid (HB4.out.trans ((hb5.trans (hb6.mono hb5.size)).mono HB4.out.size))
        simp only [Dm.zero, Dm.vs] at HB6 hx6
        have HX6 := Lib.hid hx6
        clear hget hc hb5 hb6 hx6
        generalize World.alloc w5 _ = w6 at *
        generalize w5.heap.size = gx at *
        have hfd := HFD.out _ HB6.out
        rw [hp] at hfd
        go_upto_region 21 with (go_at_call 20; (with_reducible refine hfd.mono ?_); rintro e w7 ⟨rfl, rfl⟩)
        clear hfd hp hf
        have HX := Lib.hid (fun W (hW : Below w6.heap.size w6 W) => (show DBlk W gx Dm.zero (.slice none 0 0) ∧ Below w3.heap.size w3 W from ⟨(show DBlk w6 gx Dm.zero (.slice none 0 0) from HX6.out).below hW, HB6.out.trans (hW.mono HB6.out.size)⟩))
        have hzx := fun W => rsamedoc_any (w := W) (Ba := 0) (Bb := 0) (va := .agg (Dm.zero.vs (.slice none 0 0))) (vb := .agg (Dm.zero.vs (.slice none 0 0))) (a := Dm.zero) (b := Dm.zero) ⟨_, rfl, Lns.nil_ _ _, Dm.zero_ok⟩ (Nat.zero_le _) ⟨_, rfl, Lns.nil_ _ _, Dm.zero_ok⟩ (Nat.zero_le _) (by decide)
        rw [decide_eq_true rfl] at hzx
        simp only [Dm.zero, Dm.vs] at hzx
        have HZX := Lib.hid hzx
        clear hzx HX6
        refine wp_region_sp (by kernel_rfl) [isS (.bool false), isS (.int .i64 (-1)), isS (.bool false), isS (.bool false), isS (.bool false), isS (.int .i64 (-1)), isS (.bool false), isS (.bool false), isS undef, isS undef, isS undef, isS undef, isS undef, isS undef, isS undef, isS (.bool false), isS (.bool false), isS (.bool false), isS (.int .i64 (-1)), isS (.bool true), isS (.bool true), isS (.agg #[.string ⟨#[]⟩, .bool false, .bool false, .string ⟨#[]⟩, .int .i64 0, .string ⟨#[]⟩, .string ⟨#[]⟩, .string ⟨#[]⟩, .slice none 0 0]), isS (.agg #[.string ⟨#[]⟩, .bool false, .bool false, .string ⟨#[]⟩, .int .i64 0, .string ⟨#[]⟩, .string ⟨#[]⟩, .string ⟨#[]⟩, .slice none 0 0]), isS (.bool true), isS (.bool false), isS (.bool false), isS (.bool false), isS (.bool false), isS (.pointer (some ⟨g, 0, none⟩)), isS (.string s), slS (credL D2 s.data.toList), isS (.slice Au D2.length cu), isS (.string s), slS (credL D2 s.data.toList), isS (.bool true), isS (.bool false), isS (.bool false)] (by kernel_rfl) (by kernel_rfl) (fun q hq => ?_) (fun a w8 hc hs => ?_)
        · match q, hq with
          | 0, _ =>
            intro a W hc hd
            have z14 := hc.same 14 (by kernel_rfl)
            simp only [List.getElem?_toArray, List.getElem?_cons_succ, List.getElem?_cons_zero, Option.getD_some] at z14
            refine obl_val rfl (wanted_none rfl) ?_ rfl
            go_simp
          | 1, _ =>
            intro a W hc hd
            have z15 := hc.same 15 (by kernel_rfl)
            simp only [List.getElem?_toArray, List.getElem?_cons_succ, List.getElem?_cons_zero, Option.getD_some] at z15
            refine obl_val rfl (wanted_none rfl) ?_ rfl
            go_simp
          | 2, _ =>
            intro a W hc hd
            have s1 : a.tmps[77]?.getD undef = (.int .i64 (-1)) := hd 1 (by kernel_rfl)
            refine obl_val rfl (wanted_none rfl) ?_ rfl
            go_simp
          | 3, _ =>
            intro a W hc hd
            have s0 : a.tmps[76]?.getD undef = (.bool false) := hd 0 (by kernel_rfl)
            have s2 : a.tmps[78]?.getD undef = (.bool false) := hd 2 (by kernel_rfl)
            refine obl_val rfl (wanted_none rfl) ?_ rfl
            go_simp
          | 4, _ =>
            intro a W hc hd
            have s3 : a.tmps[79]?.getD undef = (.bool false) := hd 3 (by kernel_rfl)
            refine obl_val rfl (wanted_none rfl) ?_ rfl
            go_simp
          | 5, _ =>
            intro a W hc hd
            have z15 := hc.same 15 (by kernel_rfl)
            have s4 : a.tmps[80]?.getD undef = (.bool false) := hd 4 (by kernel_rfl)
            simp only [List.getElem?_toArray, List.getElem?_cons_succ, List.getElem?_cons_zero, Option.getD_some] at z15
            refine obl_val rfl (wanted_some rfl rfl s4) ?_ rfl
            go_simp
          | 6, _ =>
            intro a W hc hd
            have s5 : a.tmps[81]?.getD undef = (.int .i64 (-1)) := hd 5 (by kernel_rfl)
            have s4 : a.tmps[80]?.getD undef = (.bool false) := hd 4 (by kernel_rfl)
            refine obl_val rfl (wanted_some rfl rfl s4) ?_ rfl
            go_simp
          | 7, _ =>
            intro a W hc hd
            have s6 : a.tmps[82]?.getD undef = (.bool false) := hd 6 (by kernel_rfl)
            have s4 : a.tmps[80]?.getD undef = (.bool false) := hd 4 (by kernel_rfl)
            refine obl_val rfl (wanted_some rfl rfl s4) ?_ rfl
            go_simp
          | 8, _ =>
            intro a W hc hd
            have z13 := hc.same 13 (by kernel_rfl)
            have s7 : a.tmps[83]?.getD undef = (.bool false) := hd 7 (by kernel_rfl)
            simp only [List.getElem?_toArray, List.getElem?_cons_succ, List.getElem?_cons_zero, Option.getD_some] at z13
            exact obl_skip rfl (wanted_not rfl rfl s7) rfl
          | 9, _ =>
            intro a W hc hd
            have z6 := hc.same 6 (by kernel_rfl)
            have s7 : a.tmps[83]?.getD undef = (.bool false) := hd 7 (by kernel_rfl)
            simp only [List.getElem?_toArray, List.getElem?_cons_succ, List.getElem?_cons_zero, Option.getD_some] at z6
            exact obl_skip rfl (wanted_not rfl rfl s7) rfl
          | 10, _ =>
            intro a W hc hd
            have z15 := hc.same 15 (by kernel_rfl)
            have s7 : a.tmps[83]?.getD undef = (.bool false) := hd 7 (by kernel_rfl)
            simp only [List.getElem?_toArray, List.getElem?_cons_succ, List.getElem?_cons_zero, Option.getD_some] at z15
            exact obl_skip rfl (wanted_not rfl rfl s7) rfl
          | 11, _ =>
            intro a W hc hd
            have s9 : a.tmps[85]?.getD undef = undef := hd 9 (by kernel_rfl)
            have s10 : a.tmps[86]?.getD undef = undef := hd 10 (by kernel_rfl)
            have s7 : a.tmps[83]?.getD undef = (.bool false) := hd 7 (by kernel_rfl)
            exact obl_skip rfl (wanted_not rfl rfl s7) rfl
          | 12, _ =>
            intro a W hc hd
            have s11 : a.tmps[87]?.getD undef = undef := hd 11 (by kernel_rfl)
            have s7 : a.tmps[83]?.getD undef = (.bool false) := hd 7 (by kernel_rfl)
            exact obl_skip rfl (wanted_not rfl rfl s7) rfl
          | 13, _ =>
            intro a W hc hd
            have s8 : a.tmps[84]?.getD undef = undef := hd 8 (by kernel_rfl)
            have s12 : a.tmps[88]?.getD undef = undef := hd 12 (by kernel_rfl)
            have s7 : a.tmps[83]?.getD undef = (.bool false) := hd 7 (by kernel_rfl)
            exact obl_skip rfl (wanted_not rfl rfl s7) rfl
          | 14, _ =>
            intro a W hc hd
            have s13 : a.tmps[89]?.getD undef = undef := hd 13 (by kernel_rfl)
            have s7 : a.tmps[83]?.getD undef = (.bool false) := hd 7 (by kernel_rfl)
            exact obl_skip rfl (wanted_not rfl rfl s7) rfl
          | 15, _ =>
            intro a W hc hd
            have s7 : a.tmps[83]?.getD undef = (.bool false) := hd 7 (by kernel_rfl)
            have s14 : a.tmps[90]?.getD undef = undef := hd 14 (by kernel_rfl)
            have s4 : a.tmps[80]?.getD undef = (.bool false) := hd 4 (by kernel_rfl)
            refine obl_val rfl (wanted_some rfl rfl s4) ?_ rfl
            go_simp
          | 16, _ =>
            intro a W hc hd
            have s4 : a.tmps[80]?.getD undef = (.bool false) := hd 4 (by kernel_rfl)
            have s15 : a.tmps[91]?.getD undef = (.bool false) := hd 15 (by kernel_rfl)
            refine obl_val rfl (wanted_none rfl) ?_ rfl
            go_simp
          | 17, _ =>
            intro a W hc hd
            have s16 : a.tmps[92]?.getD undef = (.bool false) := hd 16 (by kernel_rfl)
            refine obl_val rfl (wanted_none rfl) ?_ rfl
            go_simp
          | 18, _ =>
            intro a W hc hd
            have z15 := hc.same 15 (by kernel_rfl)
            have s17 : a.tmps[93]?.getD undef = (.bool false) := hd 17 (by kernel_rfl)
            simp only [List.getElem?_toArray, List.getElem?_cons_succ, List.getElem?_cons_zero, Option.getD_some] at z15
            refine obl_val rfl (wanted_some rfl rfl s17) ?_ rfl
            go_simp
          | 19, _ =>
            intro a W hc hd
            have s18 : a.tmps[94]?.getD undef = (.int .i64 (-1)) := hd 18 (by kernel_rfl)
            have s17 : a.tmps[93]?.getD undef = (.bool false) := hd 17 (by kernel_rfl)
            refine obl_val rfl (wanted_some rfl rfl s17) ?_ rfl
            go_simp
          | 20, _ =>
            intro a W hc hd
            have s19 : a.tmps[95]?.getD undef = (.bool true) := hd 19 (by kernel_rfl)
            have s17 : a.tmps[93]?.getD undef = (.bool false) := hd 17 (by kernel_rfl)
            refine obl_val rfl (wanted_some rfl rfl s17) ?_ rfl
            go_simp
          | 21, _ =>
            intro a W hc hd
            have z13 := hc.same 13 (by kernel_rfl)
            have s20 : a.tmps[96]?.getD undef = (.bool true) := hd 20 (by kernel_rfl)
            simp only [List.getElem?_toArray, List.getElem?_cons_succ, List.getElem?_cons_zero, Option.getD_some] at z13
            obtain ⟨q0, q1, q2, q3, q4, q5, q6, q7, q8⟩ := (HX.out W ((Below.refl w6.heap.size w6).drew.trans hc.below)).1.box
            simp only [Dm.zero] at q0 q1 q2 q3 q4 q5 q6 q7 q8
            refine obl_val rfl (wanted_some rfl rfl s20) ?_ rfl
            go_simp
          | 22, _ =>
            intro a W hc hd
            have s20 : a.tmps[96]?.getD undef = (.bool true) := hd 20 (by kernel_rfl)
            refine obl_val rfl (wanted_some rfl rfl s20) ?_ rfl
            go_simp
          | 23, _ =>
            intro a W hc hd
            have s21 : a.tmps[97]?.getD undef = (.agg #[.string ⟨#[]⟩, .bool false, .bool false, .string ⟨#[]⟩, .int .i64 0, .string ⟨#[]⟩, .string ⟨#[]⟩, .string ⟨#[]⟩, .slice none 0 0]) := hd 21 (by kernel_rfl)
            have s22 : a.tmps[98]?.getD undef = (.agg #[.string ⟨#[]⟩, .bool false, .bool false, .string ⟨#[]⟩, .int .i64 0, .string ⟨#[]⟩, .string ⟨#[]⟩, .string ⟨#[]⟩, .slice none 0 0]) := hd 22 (by kernel_rfl)
            have s20 : a.tmps[96]?.getD undef = (.bool true) := hd 20 (by kernel_rfl)
            refine obl_call rfl (wanted_some rfl rfl s20) (by go_simp) (HZX.out W) ?_
            rintro e w9 ⟨rfl, hb9⟩
            exact ⟨_, rfl, rfl, hb9⟩
          | 24, _ =>
            intro a W hc hd
            have s23 : a.tmps[99]?.getD undef = (.bool true) := hd 23 (by kernel_rfl)
            have s20 : a.tmps[96]?.getD undef = (.bool true) := hd 20 (by kernel_rfl)
            refine obl_val rfl (wanted_some rfl rfl s20) ?_ rfl
            go_simp
          | 25, _ =>
            intro a W hc hd
            have s20 : a.tmps[96]?.getD undef = (.bool true) := hd 20 (by kernel_rfl)
            have s24 : a.tmps[100]?.getD undef = (.bool false) := hd 24 (by kernel_rfl)
            have s17 : a.tmps[93]?.getD undef = (.bool false) := hd 17 (by kernel_rfl)
            refine obl_val rfl (wanted_some rfl rfl s17) ?_ rfl
            go_simp
          | 26, _ =>
            intro a W hc hd
            have s17 : a.tmps[93]?.getD undef = (.bool false) := hd 17 (by kernel_rfl)
            have s25 : a.tmps[101]?.getD undef = (.bool false) := hd 25 (by kernel_rfl)
            refine obl_val rfl (wanted_none rfl) ?_ rfl
            go_simp
          | 27, _ =>
            intro a W hc hd
            have s26 : a.tmps[102]?.getD undef = (.bool false) := hd 26 (by kernel_rfl)
            refine obl_val rfl (wanted_none rfl) ?_ rfl
            go_simp
          | 28, _ =>
            intro a W hc hd
            have z5 := hc.same 5 (by kernel_rfl)
            have s27 : a.tmps[103]?.getD undef = (.bool false) := hd 27 (by kernel_rfl)
            simp only [List.getElem?_toArray, List.getElem?_cons_succ, List.getElem?_cons_zero, Option.getD_some] at z5
            refine obl_val rfl (wanted_some rfl rfl s27) ?_ rfl
            go_simp
          | 29, _ =>
            intro a W hc hd
            have z12 := hc.same 12 (by kernel_rfl)
            have s27 : a.tmps[103]?.getD undef = (.bool false) := hd 27 (by kernel_rfl)
            simp only [List.getElem?_toArray, List.getElem?_cons_succ, List.getElem?_cons_zero, Option.getD_some] at z12
            refine obl_val rfl (wanted_some rfl rfl s27) ?_ rfl
            go_simp
          | 30, _ =>
            intro a W hc hd
            have s28 : a.tmps[104]?.getD undef = (.pointer (some ⟨g, 0, none⟩)) := hd 28 (by kernel_rfl)
            have s29 : a.tmps[105]?.getD undef = (.string s) := hd 29 (by kernel_rfl)
            have s27 : a.tmps[103]?.getD undef = (.bool false) := hd 27 (by kernel_rfl)
            refine obl_call rfl (wanted_some rfl rfl s27) (by go_simp) (idscred_any (HSW.out.below (HX.out W ((Below.refl w6.heap.size w6).drew.trans hc.below)).2) s HSZ.out (Nat.le_trans HP2.out (by decide))) ?_
            rintro e w9 ⟨v9, rfl, h9, hb9⟩
            exact ⟨_, rfl, h9, hb9⟩
          | 31, _ =>
            intro a W hc hd
            have z6 := hc.same 6 (by kernel_rfl)
            have s27 : a.tmps[103]?.getD undef = (.bool false) := hd 27 (by kernel_rfl)
            simp only [List.getElem?_toArray, List.getElem?_cons_succ, List.getElem?_cons_zero, Option.getD_some] at z6
            refine obl_val rfl (wanted_some rfl rfl s27) ?_ rfl
            go_simp
          | 32, _ =>
            intro a W hc hd
            have z12 := hc.same 12 (by kernel_rfl)
            have s27 : a.tmps[103]?.getD undef = (.bool false) := hd 27 (by kernel_rfl)
            simp only [List.getElem?_toArray, List.getElem?_cons_succ, List.getElem?_cons_zero, Option.getD_some] at z12
            refine obl_val rfl (wanted_some rfl rfl s27) ?_ rfl
            go_simp
          | 33, _ =>
            intro a W hc hd
            have s31 : a.tmps[107]?.getD undef = (.slice Au D2.length cu) := hd 31 (by kernel_rfl)
            have s32 : a.tmps[108]?.getD undef = (.string s) := hd 32 (by kernel_rfl)
            have s27 : a.tmps[103]?.getD undef = (.bool false) := hd 27 (by kernel_rfl)
            have hdc := (HRW.out.below (HX.out W ((Below.refl w6.heap.size w6).drew.trans hc.below)).2).dcs
            rw [HD2.out] at hdc
            refine obl_call rfl (wanted_some rfl rfl s27) (by go_simp) (rcred29_any hdc (Nat.le_refl _) (Nat.le_trans HP2.out (by decide)) s) ?_
            rintro e w9 ⟨v9, rfl, h9, hb9⟩
            exact ⟨_, rfl, h9, hb9⟩
          | 34, _ =>
            intro a W hc hd
            have s30 : (slS (credL D2 s.data.toList)).f (a.tmps[106]?.getD undef) W := hd 30 (by kernel_rfl)
            have s33 : (slS (credL D2 s.data.toList)).f (a.tmps[109]?.getD undef) W := hd 33 (by kernel_rfl)
            have s27 : a.tmps[103]?.getD undef = (.bool false) := hd 27 (by kernel_rfl)
            refine obl_call rfl (wanted_some rfl rfl s27) (by go_simp) (same_any _ _ _ _ W _ _ s30 s33) ?_
            rintro e w9 ⟨rfl, hb9⟩
            exact ⟨_, rfl, congrArg Value.bool (decide_eq_true rfl), hb9⟩
          | 35, _ =>
            intro a W hc hd
            have s34 : a.tmps[110]?.getD undef = (.bool true) := hd 34 (by kernel_rfl)
            have s27 : a.tmps[103]?.getD undef = (.bool false) := hd 27 (by kernel_rfl)
            refine obl_val rfl (wanted_some rfl rfl s27) ?_ rfl
            go_simp
          | 36, _ =>
            intro a W hc hd
            have s27 : a.tmps[103]?.getD undef = (.bool false) := hd 27 (by kernel_rfl)
            have s35 : a.tmps[111]?.getD undef = (.bool false) := hd 35 (by kernel_rfl)
            refine obl_val rfl (wanted_none rfl) ?_ rfl
            go_simp
          | n + 37, h => exact absurd h (by simp)
        · skip
          have hfr := grow_frame hc [(76, (.bool false)), (77, (.int .i64 (-1))), (78, (.bool false)), (79, (.bool false)), (80, (.bool false)), (81, (.int .i64 (-1))), (82, (.bool false)), (83, (.bool false)), (84, undef), (85, undef), (86, undef), (87, undef), (88, undef), (89, undef), (90, undef), (91, (.bool false)), (92, (.bool false)), (93, (.bool false)), (94, (.int .i64 (-1))), (95, (.bool true)), (96, (.bool true)), (97, (.agg #[.string ⟨#[]⟩, .bool false, .bool false, .string ⟨#[]⟩, .int .i64 0, .string ⟨#[]⟩, .string ⟨#[]⟩, .string ⟨#[]⟩, .slice none 0 0])), (98, (.agg #[.string ⟨#[]⟩, .bool false, .bool false, .string ⟨#[]⟩, .int .i64 0, .string ⟨#[]⟩, .string ⟨#[]⟩, .string ⟨#[]⟩, .slice none 0 0])), (99, (.bool true)), (100, (.bool false)), (101, (.bool false)), (102, (.bool false)), (103, (.bool false)), (104, (.pointer (some ⟨g, 0, none⟩))), (105, (.string s)), (106, a.tmps[106]?.getD undef), (107, (.slice Au D2.length cu)), (108, (.string s)), (109, a.tmps[109]?.getD undef), (110, (.bool true)), (111, (.bool false)), (112, (.bool false))] (by kernel_rfl) (fun p hp => by
              simp only [List.mem_cons, List.not_mem_nil, or_false] at hp
              rcases hp with rfl | rfl | rfl | rfl | rfl | rfl | rfl | rfl | rfl | rfl | rfl | rfl | rfl | rfl | rfl | rfl | rfl | rfl | rfl | rfl | rfl | rfl | rfl | rfl | rfl | rfl | rfl | rfl | rfl | rfl | rfl | rfl | rfl | rfl | rfl | rfl | rfl
              · exact hs 0 76 (by decide) (by kernel_rfl)
              · exact hs 1 77 (by decide) (by kernel_rfl)
              · exact hs 2 78 (by decide) (by kernel_rfl)
              · exact hs 3 79 (by decide) (by kernel_rfl)
              · exact hs 4 80 (by decide) (by kernel_rfl)
              · exact hs 5 81 (by decide) (by kernel_rfl)
              · exact hs 6 82 (by decide) (by kernel_rfl)
              · exact hs 7 83 (by decide) (by kernel_rfl)
              · exact hs 8 84 (by decide) (by kernel_rfl)
              · exact hs 9 85 (by decide) (by kernel_rfl)
              · exact hs 10 86 (by decide) (by kernel_rfl)
              · exact hs 11 87 (by decide) (by kernel_rfl)
              · exact hs 12 88 (by decide) (by kernel_rfl)
              · exact hs 13 89 (by decide) (by kernel_rfl)
              · exact hs 14 90 (by decide) (by kernel_rfl)
              · exact hs 15 91 (by decide) (by kernel_rfl)
              · exact hs 16 92 (by decide) (by kernel_rfl)
              · exact hs 17 93 (by decide) (by kernel_rfl)
              · exact hs 18 94 (by decide) (by kernel_rfl)
              · exact hs 19 95 (by decide) (by kernel_rfl)
              · exact hs 20 96 (by decide) (by kernel_rfl)
              · exact hs 21 97 (by decide) (by kernel_rfl)
              · exact hs 22 98 (by decide) (by kernel_rfl)
              · exact hs 23 99 (by decide) (by kernel_rfl)
              · exact hs 24 100 (by decide) (by kernel_rfl)
              · exact hs 25 101 (by decide) (by kernel_rfl)
              · exact hs 26 102 (by decide) (by kernel_rfl)
              · exact hs 27 103 (by decide) (by kernel_rfl)
              · exact hs 28 104 (by decide) (by kernel_rfl)
              · exact hs 29 105 (by decide) (by kernel_rfl)
              · rfl
              · exact hs 31 107 (by decide) (by kernel_rfl)
              · exact hs 32 108 (by decide) (by kernel_rfl)
              · rfl
              · exact hs 34 110 (by decide) (by kernel_rfl)
              · exact hs 35 111 (by decide) (by kernel_rfl)
              · exact hs 36 112 (by decide) (by kernel_rfl)
              )
          generalize a.tmps[106]?.getD undef = z106 at hfr
          generalize a.tmps[109]?.getD undef = z109 at hfr
          simp only [List.range, List.range.loop, List.size_toArray, List.length_cons, List.length_nil, List.map_cons, List.map_nil, List.lookup_cons, List.lookup_nil, Nat.reduceAdd, Nat.reduceBEq, Option.getD_some, Option.getD_none, List.getElem?_toArray, List.getElem?_cons_succ, List.getElem?_cons_zero] at hfr
          subst hfr
          have HB8 := Lib.hid (HX.out w8 ((Below.refl w6.heap.size w6).drew.trans hc.below)).2
          clear hc hs
          go_wp2
          go_roundg (3 - (j + 1))
          case measure => have := HGJ.out; omega
          case rel => exact ⟨j + 1, rfl, by omega, by simp, HB8.out⟩
      · have hget : Calls Try.prog 16 #[.pointer (some ⟨g, 0, none⟩), .string s] wr (fun e w' => ∃ t, e = .returned (.tuple #[.agg (D2[i].vs (triV t)), .bool true]) ∧ DocOk w' w'.heap.size (D2[i], t) ∧ Below wr.heap.size wr w') := HGET.out.mono fun e w' h => by
          obtain ⟨h1 | ⟨o, t, h1, h2, h3⟩, hb⟩ := h
          · rw [hf] at h1; cases h1.1
          · rw [hf] at h1; cases h1; exact ⟨t, h2, h3, hb⟩
        obtain ⟨ad', cu', t', hv, hadB', hat', hln', hok'⟩ := (show Docs w3 w3.heap.size (.slice Au D2.length cu) D2 by have := HRW.out.dcs; rwa [HD2.out] at this).at_ i hi
        cases hv
        have i1' : (0 : Int) ≤ (i : Int) := by omega
        have i2' : (i : Int) < (D2.length : Int) := by omega
        have h7o := H72.out _ (List.getElem_mem hi)
        generalize D2[i] = o at *
        have HAT := Lib.hid (fun W (hW : Below w3.heap.size w3 W) => hat'.keep (B := w3.heap.size) (w' := W) (by rw [addr_add_block]; exact hadB') (fun p hp => hW.cell hp))
        have HLN2 := Lib.hid (fun W (hW : Below w3.heap.size w3 W) => hln'.below hW)
        have HOK2 := Lib.hid hok'
        have H7O := Lib.hid h7o
        clear hat' hln' hok' h7o
        simp only [Dm.vs, triV] at hget
        go_upto_region 20 with (go_at_call 16; (with_reducible refine hget.mono ?_); rintro e w5 ⟨t2, rfl, hdk5, hb5⟩; obtain ⟨t2A, t2n, t2c⟩ := t2)
        have hb6 := (Below.refl w5.heap.size w5).alloc (Nat.le_refl _) (.cells (o.vs (.slice t2A t2n t2c)) 25)
        have hx6 : DBlk (w5.alloc (.cells (o.vs (.slice t2A t2n t2c)) 25)) w5.heap.size o (.slice t2A t2n t2c) := heap_alloc_new w5 (.cells (o.vs (.slice t2A t2n t2c)) 25 (0, 0))
        have HB6 := Lib.hid (HB4.out.trans ((hb5.trans (hb6.mono hb5.size)).mono HB4.out.size))
        have HDK := Lib.hid (show Lns _ _ (.slice t2A t2n t2c) o.ls from (hdk5.1.below hb6).more hb6.size)
        simp only [Dm.vs] at HB6 hx6 HDK
        have HX6 := Lib.hid hx6
        clear hget hc hb5 hb6 hx6 hdk5
        generalize World.alloc w5 _ = w6 at *
        generalize w5.heap.size = gx at *
        have hfd := HFD.out _ HB6.out
        rw [hp] at hfd
        go_upto_region 21 with (go_at_call 20; (with_reducible refine hfd.mono ?_); rintro e w7 ⟨rfl, rfl⟩)
        clear hfd hp hf
        have HX := Lib.hid (fun W (hW : Below w6.heap.size w6 W) => (show DBlk W gx o (.slice t2A t2n t2c) ∧ Below w3.heap.size w3 W from ⟨(show DBlk w6 gx o (.slice t2A t2n t2c) from HX6.out).below hW, HB6.out.trans (hW.mono HB6.out.size)⟩))
        have hzx := fun W (hW : Below w6.heap.size w6 W) => rsamedoc_any (w := W) (Ba := w6.heap.size) (Bb := w3.heap.size) (va := .agg (o.vs (.slice t2A t2n t2c))) (vb := .agg (o.vs (triV t'))) (a := o) (b := o) ⟨_, rfl, HDK.out.below hW, HOK2.out⟩ hW.size ⟨_, rfl, HLN2.out W (HB6.out.trans (hW.mono HB6.out.size)), HOK2.out⟩ (Nat.le_trans HB6.out.size hW.size) (Nat.le_trans H7O.out (by decide))
        rw [decide_eq_true rfl] at hzx
        have HZX := Lib.hid hzx
        clear hzx HX6
        refine wp_region_sp (by kernel_rfl) [isS (.bool true), isS (.int .i64 (i : Int)), isS (.bool true), isS (.bool false), isS (.bool false), isS (.int .i64 (i : Int)), isS (.bool true), isS (.bool true), isS (.agg #[.string o.id, .bool o.sale, .bool o.cred, .string o.ref, .int .i64 o.day, .string o.cty, .string o.num, .string o.cur, .slice t2A t2n t2c]), isS (.slice (some ad') D2.length cu), isS (.int .i64 (i : Int)), isS (.pointer (some (ad'.add (i * 9)))), isS (.agg #[.string o.id, .bool o.sale, .bool o.cred, .string o.ref, .int .i64 o.day, .string o.cty, .string o.num, .string o.cur, triV t']), isS (.bool true), isS (.bool false), isS (.bool false), isS (.bool false), isS (.bool false), isS (.int .i64 (i : Int)), isS (.bool false), isS (.bool false), isS undef, isS undef, isS undef, isS undef, isS (.bool false), isS (.bool false), isS (.bool false), isS (.pointer (some ⟨g, 0, none⟩)), isS (.string s), slS (credL D2 s.data.toList), isS (.slice (some ad') D2.length cu), isS (.string s), slS (credL D2 s.data.toList), isS (.bool true), isS (.bool false), isS (.bool false)] (by kernel_rfl) (by kernel_rfl) (fun q hq => ?_) (fun a w8 hc hs => ?_)
        · match q, hq with
          | 0, _ =>
            intro a W hc hd
            have z14 := hc.same 14 (by kernel_rfl)
            simp only [List.getElem?_toArray, List.getElem?_cons_succ, List.getElem?_cons_zero, Option.getD_some] at z14
            refine obl_val rfl (wanted_none rfl) ?_ rfl
            go_simp
          | 1, _ =>
            intro a W hc hd
            have z15 := hc.same 15 (by kernel_rfl)
            simp only [List.getElem?_toArray, List.getElem?_cons_succ, List.getElem?_cons_zero, Option.getD_some] at z15
            refine obl_val rfl (wanted_none rfl) ?_ rfl
            go_simp
          | 2, _ =>
            intro a W hc hd
            have s1 : a.tmps[77]?.getD undef = (.int .i64 (i : Int)) := hd 1 (by kernel_rfl)
            refine obl_val rfl (wanted_none rfl) ?_ rfl
            go_simp
          | 3, _ =>
            intro a W hc hd
            have s0 : a.tmps[76]?.getD undef = (.bool true) := hd 0 (by kernel_rfl)
            have s2 : a.tmps[78]?.getD undef = (.bool true) := hd 2 (by kernel_rfl)
            refine obl_val rfl (wanted_none rfl) ?_ rfl
            go_simp
          | 4, _ =>
            intro a W hc hd
            have s3 : a.tmps[79]?.getD undef = (.bool false) := hd 3 (by kernel_rfl)
            refine obl_val rfl (wanted_none rfl) ?_ rfl
            go_simp
          | 5, _ =>
            intro a W hc hd
            have z15 := hc.same 15 (by kernel_rfl)
            have s4 : a.tmps[80]?.getD undef = (.bool false) := hd 4 (by kernel_rfl)
            simp only [List.getElem?_toArray, List.getElem?_cons_succ, List.getElem?_cons_zero, Option.getD_some] at z15
            refine obl_val rfl (wanted_some rfl rfl s4) ?_ rfl
            go_simp
          | 6, _ =>
            intro a W hc hd
            have s5 : a.tmps[81]?.getD undef = (.int .i64 (i : Int)) := hd 5 (by kernel_rfl)
            have s4 : a.tmps[80]?.getD undef = (.bool false) := hd 4 (by kernel_rfl)
            refine obl_val rfl (wanted_some rfl rfl s4) ?_ rfl
            go_simp
          | 7, _ =>
            intro a W hc hd
            have s6 : a.tmps[82]?.getD undef = (.bool true) := hd 6 (by kernel_rfl)
            have s4 : a.tmps[80]?.getD undef = (.bool false) := hd 4 (by kernel_rfl)
            refine obl_val rfl (wanted_some rfl rfl s4) ?_ rfl
            go_simp
          | 8, _ =>
            intro a W hc hd
            have z13 := hc.same 13 (by kernel_rfl)
            have s7 : a.tmps[83]?.getD undef = (.bool true) := hd 7 (by kernel_rfl)
            simp only [List.getElem?_toArray, List.getElem?_cons_succ, List.getElem?_cons_zero, Option.getD_some] at z13
            obtain ⟨q0, q1, q2, q3, q4, q5, q6, q7, q8⟩ := (HX.out W ((Below.refl w6.heap.size w6).drew.trans hc.below)).1.box
            refine obl_val rfl (wanted_some rfl rfl s7) ?_ rfl
            go_simp
          | 9, _ =>
            intro a W hc hd
            have z6 := hc.same 6 (by kernel_rfl)
            have s7 : a.tmps[83]?.getD undef = (.bool true) := hd 7 (by kernel_rfl)
            simp only [List.getElem?_toArray, List.getElem?_cons_succ, List.getElem?_cons_zero, Option.getD_some] at z6
            refine obl_val rfl (wanted_some rfl rfl s7) ?_ rfl
            go_simp
          | 10, _ =>
            intro a W hc hd
            have z15 := hc.same 15 (by kernel_rfl)
            have s7 : a.tmps[83]?.getD undef = (.bool true) := hd 7 (by kernel_rfl)
            simp only [List.getElem?_toArray, List.getElem?_cons_succ, List.getElem?_cons_zero, Option.getD_some] at z15
            refine obl_val rfl (wanted_some rfl rfl s7) ?_ rfl
            go_simp
          | 11, _ =>
            intro a W hc hd
            have s9 : a.tmps[85]?.getD undef = (.slice (some ad') D2.length cu) := hd 9 (by kernel_rfl)
            have s10 : a.tmps[86]?.getD undef = (.int .i64 (i : Int)) := hd 10 (by kernel_rfl)
            have s7 : a.tmps[83]?.getD undef = (.bool true) := hd 7 (by kernel_rfl)
            refine obl_val rfl (wanted_some rfl rfl s7) ?_ rfl
            go_simp
          | 12, _ =>
            intro a W hc hd
            have s11 : a.tmps[87]?.getD undef = (.pointer (some (ad'.add (i * 9)))) := hd 11 (by kernel_rfl)
            have s7 : a.tmps[83]?.getD undef = (.bool true) := hd 7 (by kernel_rfl)
            obtain ⟨q0, q1, q2, q3, q4, q5, q6, q7, q8⟩ := HAT.out W (HX.out W ((Below.refl w6.heap.size w6).drew.trans hc.below)).2
            simp only [triV] at q8
            refine obl_val rfl (wanted_some rfl rfl s7) ?_ rfl
            go_simp
            rfl
          | 13, _ =>
            intro a W hc hd
            have s8 : a.tmps[84]?.getD undef = (.agg #[.string o.id, .bool o.sale, .bool o.cred, .string o.ref, .int .i64 o.day, .string o.cty, .string o.num, .string o.cur, .slice t2A t2n t2c]) := hd 8 (by kernel_rfl)
            have s12 : a.tmps[88]?.getD undef = (.agg #[.string o.id, .bool o.sale, .bool o.cred, .string o.ref, .int .i64 o.day, .string o.cty, .string o.num, .string o.cur, triV t']) := hd 12 (by kernel_rfl)
            have s7 : a.tmps[83]?.getD undef = (.bool true) := hd 7 (by kernel_rfl)
            refine obl_call rfl (wanted_some rfl rfl s7) (by go_simp; exact ⟨rfl, rfl⟩) (HZX.out W ((Below.refl w6.heap.size w6).drew.trans hc.below)) ?_
            rintro e w9 ⟨rfl, hb9⟩
            exact ⟨_, rfl, rfl, hb9⟩
          | 14, _ =>
            intro a W hc hd
            have s13 : a.tmps[89]?.getD undef = (.bool true) := hd 13 (by kernel_rfl)
            have s7 : a.tmps[83]?.getD undef = (.bool true) := hd 7 (by kernel_rfl)
            refine obl_val rfl (wanted_some rfl rfl s7) ?_ rfl
            go_simp
          | 15, _ =>
            intro a W hc hd
            have s7 : a.tmps[83]?.getD undef = (.bool true) := hd 7 (by kernel_rfl)
            have s14 : a.tmps[90]?.getD undef = (.bool false) := hd 14 (by kernel_rfl)
            have s4 : a.tmps[80]?.getD undef = (.bool false) := hd 4 (by kernel_rfl)
            refine obl_val rfl (wanted_some rfl rfl s4) ?_ rfl
            go_simp
          | 16, _ =>
            intro a W hc hd
            have s4 : a.tmps[80]?.getD undef = (.bool false) := hd 4 (by kernel_rfl)
            have s15 : a.tmps[91]?.getD undef = (.bool false) := hd 15 (by kernel_rfl)
            refine obl_val rfl (wanted_none rfl) ?_ rfl
            go_simp
          | 17, _ =>
            intro a W hc hd
            have s16 : a.tmps[92]?.getD undef = (.bool false) := hd 16 (by kernel_rfl)
            refine obl_val rfl (wanted_none rfl) ?_ rfl
            go_simp
          | 18, _ =>
            intro a W hc hd
            have z15 := hc.same 15 (by kernel_rfl)
            have s17 : a.tmps[93]?.getD undef = (.bool false) := hd 17 (by kernel_rfl)
            simp only [List.getElem?_toArray, List.getElem?_cons_succ, List.getElem?_cons_zero, Option.getD_some] at z15
            refine obl_val rfl (wanted_some rfl rfl s17) ?_ rfl
            go_simp
          | 19, _ =>
            intro a W hc hd
            have s18 : a.tmps[94]?.getD undef = (.int .i64 (i : Int)) := hd 18 (by kernel_rfl)
            have s17 : a.tmps[93]?.getD undef = (.bool false) := hd 17 (by kernel_rfl)
            refine obl_val rfl (wanted_some rfl rfl s17) ?_ rfl
            go_simp
          | 20, _ =>
            intro a W hc hd
            have s19 : a.tmps[95]?.getD undef = (.bool false) := hd 19 (by kernel_rfl)
            have s17 : a.tmps[93]?.getD undef = (.bool false) := hd 17 (by kernel_rfl)
            refine obl_val rfl (wanted_some rfl rfl s17) ?_ rfl
            go_simp
          | 21, _ =>
            intro a W hc hd
            have z13 := hc.same 13 (by kernel_rfl)
            have s20 : a.tmps[96]?.getD undef = (.bool false) := hd 20 (by kernel_rfl)
            simp only [List.getElem?_toArray, List.getElem?_cons_succ, List.getElem?_cons_zero, Option.getD_some] at z13
            exact obl_skip rfl (wanted_not rfl rfl s20) rfl
          | 22, _ =>
            intro a W hc hd
            have s20 : a.tmps[96]?.getD undef = (.bool false) := hd 20 (by kernel_rfl)
            exact obl_skip rfl (wanted_not rfl rfl s20) rfl
          | 23, _ =>
            intro a W hc hd
            have s21 : a.tmps[97]?.getD undef = undef := hd 21 (by kernel_rfl)
            have s22 : a.tmps[98]?.getD undef = undef := hd 22 (by kernel_rfl)
            have s20 : a.tmps[96]?.getD undef = (.bool false) := hd 20 (by kernel_rfl)
            exact obl_skip rfl (wanted_not rfl rfl s20) rfl
          | 24, _ =>
            intro a W hc hd
            have s23 : a.tmps[99]?.getD undef = undef := hd 23 (by kernel_rfl)
            have s20 : a.tmps[96]?.getD undef = (.bool false) := hd 20 (by kernel_rfl)
            exact obl_skip rfl (wanted_not rfl rfl s20) rfl
          | 25, _ =>
            intro a W hc hd
            have s20 : a.tmps[96]?.getD undef = (.bool false) := hd 20 (by kernel_rfl)
            have s24 : a.tmps[100]?.getD undef = undef := hd 24 (by kernel_rfl)
            have s17 : a.tmps[93]?.getD undef = (.bool false) := hd 17 (by kernel_rfl)
            refine obl_val rfl (wanted_some rfl rfl s17) ?_ rfl
            go_simp
          | 26, _ =>
            intro a W hc hd
            have s17 : a.tmps[93]?.getD undef = (.bool false) := hd 17 (by kernel_rfl)
            have s25 : a.tmps[101]?.getD undef = (.bool false) := hd 25 (by kernel_rfl)
            refine obl_val rfl (wanted_none rfl) ?_ rfl
            go_simp
          | 27, _ =>
            intro a W hc hd
            have s26 : a.tmps[102]?.getD undef = (.bool false) := hd 26 (by kernel_rfl)
            refine obl_val rfl (wanted_none rfl) ?_ rfl
            go_simp
          | 28, _ =>
            intro a W hc hd
            have z5 := hc.same 5 (by kernel_rfl)
            have s27 : a.tmps[103]?.getD undef = (.bool false) := hd 27 (by kernel_rfl)
            simp only [List.getElem?_toArray, List.getElem?_cons_succ, List.getElem?_cons_zero, Option.getD_some] at z5
            refine obl_val rfl (wanted_some rfl rfl s27) ?_ rfl
            go_simp
          | 29, _ =>
            intro a W hc hd
            have z12 := hc.same 12 (by kernel_rfl)
            have s27 : a.tmps[103]?.getD undef = (.bool false) := hd 27 (by kernel_rfl)
            simp only [List.getElem?_toArray, List.getElem?_cons_succ, List.getElem?_cons_zero, Option.getD_some] at z12
            refine obl_val rfl (wanted_some rfl rfl s27) ?_ rfl
            go_simp
          | 30, _ =>
            intro a W hc hd
            have s28 : a.tmps[104]?.getD undef = (.pointer (some ⟨g, 0, none⟩)) := hd 28 (by kernel_rfl)
            have s29 : a.tmps[105]?.getD undef = (.string s) := hd 29 (by kernel_rfl)
            have s27 : a.tmps[103]?.getD undef = (.bool false) := hd 27 (by kernel_rfl)
            refine obl_call rfl (wanted_some rfl rfl s27) (by go_simp) (idscred_any (HSW.out.below (HX.out W ((Below.refl w6.heap.size w6).drew.trans hc.below)).2) s HSZ.out (Nat.le_trans HP2.out (by decide))) ?_
            rintro e w9 ⟨v9, rfl, h9, hb9⟩
            exact ⟨_, rfl, h9, hb9⟩
          | 31, _ =>
            intro a W hc hd
            have z6 := hc.same 6 (by kernel_rfl)
            have s27 : a.tmps[103]?.getD undef = (.bool false) := hd 27 (by kernel_rfl)
            simp only [List.getElem?_toArray, List.getElem?_cons_succ, List.getElem?_cons_zero, Option.getD_some] at z6
            refine obl_val rfl (wanted_some rfl rfl s27) ?_ rfl
            go_simp
          | 32, _ =>
            intro a W hc hd
            have z12 := hc.same 12 (by kernel_rfl)
            have s27 : a.tmps[103]?.getD undef = (.bool false) := hd 27 (by kernel_rfl)
            simp only [List.getElem?_toArray, List.getElem?_cons_succ, List.getElem?_cons_zero, Option.getD_some] at z12
            refine obl_val rfl (wanted_some rfl rfl s27) ?_ rfl
            go_simp
          | 33, _ =>
            intro a W hc hd
            have s31 : a.tmps[107]?.getD undef = (.slice (some ad') D2.length cu) := hd 31 (by kernel_rfl)
            have s32 : a.tmps[108]?.getD undef = (.string s) := hd 32 (by kernel_rfl)
            have s27 : a.tmps[103]?.getD undef = (.bool false) := hd 27 (by kernel_rfl)
            have hdc := (HRW.out.below (HX.out W ((Below.refl w6.heap.size w6).drew.trans hc.below)).2).dcs
            rw [HD2.out] at hdc
            refine obl_call rfl (wanted_some rfl rfl s27) (by go_simp) (rcred29_any hdc (Nat.le_refl _) (Nat.le_trans HP2.out (by decide)) s) ?_
            rintro e w9 ⟨v9, rfl, h9, hb9⟩
            exact ⟨_, rfl, h9, hb9⟩
          | 34, _ =>
            intro a W hc hd
            have s30 : (slS (credL D2 s.data.toList)).f (a.tmps[106]?.getD undef) W := hd 30 (by kernel_rfl)
            have s33 : (slS (credL D2 s.data.toList)).f (a.tmps[109]?.getD undef) W := hd 33 (by kernel_rfl)
            have s27 : a.tmps[103]?.getD undef = (.bool false) := hd 27 (by kernel_rfl)
            refine obl_call rfl (wanted_some rfl rfl s27) (by go_simp) (same_any _ _ _ _ W _ _ s30 s33) ?_
            rintro e w9 ⟨rfl, hb9⟩
            exact ⟨_, rfl, congrArg Value.bool (decide_eq_true rfl), hb9⟩
          | 35, _ =>
            intro a W hc hd
            have s34 : a.tmps[110]?.getD undef = (.bool true) := hd 34 (by kernel_rfl)
            have s27 : a.tmps[103]?.getD undef = (.bool false) := hd 27 (by kernel_rfl)
            refine obl_val rfl (wanted_some rfl rfl s27) ?_ rfl
            go_simp
          | 36, _ =>
            intro a W hc hd
            have s27 : a.tmps[103]?.getD undef = (.bool false) := hd 27 (by kernel_rfl)
            have s35 : a.tmps[111]?.getD undef = (.bool false) := hd 35 (by kernel_rfl)
            refine obl_val rfl (wanted_none rfl) ?_ rfl
            go_simp
          | n + 37, h => exact absurd h (by simp)
        · skip
          have hfr := grow_frame hc [(76, (.bool true)), (77, (.int .i64 (i : Int))), (78, (.bool true)), (79, (.bool false)), (80, (.bool false)), (81, (.int .i64 (i : Int))), (82, (.bool true)), (83, (.bool true)), (84, (.agg #[.string o.id, .bool o.sale, .bool o.cred, .string o.ref, .int .i64 o.day, .string o.cty, .string o.num, .string o.cur, .slice t2A t2n t2c])), (85, (.slice (some ad') D2.length cu)), (86, (.int .i64 (i : Int))), (87, (.pointer (some (ad'.add (i * 9))))), (88, (.agg #[.string o.id, .bool o.sale, .bool o.cred, .string o.ref, .int .i64 o.day, .string o.cty, .string o.num, .string o.cur, triV t'])), (89, (.bool true)), (90, (.bool false)), (91, (.bool false)), (92, (.bool false)), (93, (.bool false)), (94, (.int .i64 (i : Int))), (95, (.bool false)), (96, (.bool false)), (97, undef), (98, undef), (99, undef), (100, undef), (101, (.bool false)), (102, (.bool false)), (103, (.bool false)), (104, (.pointer (some ⟨g, 0, none⟩))), (105, (.string s)), (106, a.tmps[106]?.getD undef), (107, (.slice (some ad') D2.length cu)), (108, (.string s)), (109, a.tmps[109]?.getD undef), (110, (.bool true)), (111, (.bool false)), (112, (.bool false))] (by kernel_rfl) (fun p hp => by
              simp only [List.mem_cons, List.not_mem_nil, or_false] at hp
              rcases hp with rfl | rfl | rfl | rfl | rfl | rfl | rfl | rfl | rfl | rfl | rfl | rfl | rfl | rfl | rfl | rfl | rfl | rfl | rfl | rfl | rfl | rfl | rfl | rfl | rfl | rfl | rfl | rfl | rfl | rfl | rfl | rfl | rfl | rfl | rfl | rfl | rfl
              · exact hs 0 76 (by decide) (by kernel_rfl)
              · exact hs 1 77 (by decide) (by kernel_rfl)
              · exact hs 2 78 (by decide) (by kernel_rfl)
              · exact hs 3 79 (by decide) (by kernel_rfl)
              · exact hs 4 80 (by decide) (by kernel_rfl)
              · exact hs 5 81 (by decide) (by kernel_rfl)
              · exact hs 6 82 (by decide) (by kernel_rfl)
              · exact hs 7 83 (by decide) (by kernel_rfl)
              · exact hs 8 84 (by decide) (by kernel_rfl)
              · exact hs 9 85 (by decide) (by kernel_rfl)
              · exact hs 10 86 (by decide) (by kernel_rfl)
              · exact hs 11 87 (by decide) (by kernel_rfl)
              · exact hs 12 88 (by decide) (by kernel_rfl)
              · exact hs 13 89 (by decide) (by kernel_rfl)
              · exact hs 14 90 (by decide) (by kernel_rfl)
              · exact hs 15 91 (by decide) (by kernel_rfl)
              · exact hs 16 92 (by decide) (by kernel_rfl)
              · exact hs 17 93 (by decide) (by kernel_rfl)
              · exact hs 18 94 (by decide) (by kernel_rfl)
              · exact hs 19 95 (by decide) (by kernel_rfl)
              · exact hs 20 96 (by decide) (by kernel_rfl)
              · exact hs 21 97 (by decide) (by kernel_rfl)
              · exact hs 22 98 (by decide) (by kernel_rfl)
              · exact hs 23 99 (by decide) (by kernel_rfl)
              · exact hs 24 100 (by decide) (by kernel_rfl)
              · exact hs 25 101 (by decide) (by kernel_rfl)
              · exact hs 26 102 (by decide) (by kernel_rfl)
              · exact hs 27 103 (by decide) (by kernel_rfl)
              · exact hs 28 104 (by decide) (by kernel_rfl)
              · exact hs 29 105 (by decide) (by kernel_rfl)
              · rfl
              · exact hs 31 107 (by decide) (by kernel_rfl)
              · exact hs 32 108 (by decide) (by kernel_rfl)
              · rfl
              · exact hs 34 110 (by decide) (by kernel_rfl)
              · exact hs 35 111 (by decide) (by kernel_rfl)
              · exact hs 36 112 (by decide) (by kernel_rfl)
              )
          generalize a.tmps[106]?.getD undef = z106 at hfr
          generalize a.tmps[109]?.getD undef = z109 at hfr
          simp only [List.range, List.range.loop, List.size_toArray, List.length_cons, List.length_nil, List.map_cons, List.map_nil, List.lookup_cons, List.lookup_nil, Nat.reduceAdd, Nat.reduceBEq, Option.getD_some, Option.getD_none, List.getElem?_toArray, List.getElem?_cons_succ, List.getElem?_cons_zero] at hfr
          subst hfr
          have HB8 := Lib.hid (HX.out w8 ((Below.refl w6.heap.size w6).drew.trans hc.below)).2
          clear hc hs
          go_wp2
          go_roundg (3 - (j + 1))
          case measure => have := HGJ.out; omega
          case rel => exact ⟨j + 1, rfl, by omega, by simp, HB8.out⟩
end Go.Proofs.Ytnfpmobmfcgfnaa
