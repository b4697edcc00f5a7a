/- THE LAW IdsOnce, WALKED (printed by gen/genlwo.py). -/
import Derived.Test.YtnfpmobmfcgfnaaIdP
import Derived.ArgAppend
namespace Go.Proofs.Ytnfpmobmfcgfnaa
open Go.RowKit
theorem Dm.ok.toLim2 {o : Dm} (h : o.ok) (hl : o.ls.length ≤ 70) : o.lim := ⟨h.cty, h.num, by omega⟩
theorem check_nil {d : Dm} (h : checkD [] d ≠ 0) : goodDocB d = false ∨ d.cred = true := by
  unfold checkD at h
  cases hg : goodDocB d with
  | false => exact .inl rfl
  | true =>
    cases hc : d.cred with
    | true => exact .inr rfl
    | false => exfalso; apply h; simp [hg, hc, findD]
theorem check_good {docs : List Dm} {d : Dm} (h : checkD docs d = 0) : goodDocB d = true := by
  unfold checkD at h
  cases hg : goodDocB d with
  | true => rfl
  | false => rw [hg] at h; simp at h
theorem check_twice {d : Dm} (h : checkD [] d = 0) (rest : List Dm) : checkD (d :: rest) d = 51 := by
  unfold checkD
  rw [check_good h, if_neg (by simp), if_pos (by simp [findD])]
theorem find_first (d : Dm) (rest : List Dm) : findD (d :: rest) d.id.data.toList = some d := by simp [findD]
theorem SlN.clip {α : Type} {K : Ke α} {w : World} {B : Nat} {A : Option Addr} {c : Nat} {l : List α} (h : SlN K w B (.slice A l.length c) l) : SlN K w B (.slice A l.length l.length) l := by
  obtain ⟨A', c', e, h1, h2, h3⟩ := h
  cases e
  exact ⟨A, l.length, rfl, Nat.le_refl _, Nat.le_trans h1 h2, h3⟩
/-- an append onto a slice without room -/
theorem run_append_full {α : Type} (K : Ke α) (w : World) (T ty : TypeId) (hT : Try.prog.underlying T = some (.slice K.E)) (A : Option Addr) (l m : List α) (B : Nat) (hl : SlN K w B (.slice A l.length l.length) l) (B' : Nat) (y : Value) (hy : SlN K w B' y m) (hm : 0 < m.length)
    (hlen : l.length + m.length ≤ 1000000000) (hby : K.bytes ≤ 4096) :
    ∃ v' w', (Builtin.append_ #[T, T] ty #[.slice A l.length l.length, y]).run Try.prog w = .ok v' w' ∧ OwN K w' w.heap.size v' (l ++ m) ∧ Below w.heap.size w w' := by
  cases A with
  | none =>
    have h0 : l = [] := by
      obtain ⟨A, c, e, _, _, hr⟩ := hl
      cases e
      rcases Nat.eq_zero_or_pos l.length with h | h
      · exact List.eq_nil_of_length_eq_zero h
      · obtain ⟨ad, e, _⟩ := hr h; cases e
    subst h0
    obtain ⟨v', w', h1, h2, h3, _⟩ := run_append_slN K w w.heap.size T ty hT (.slice none 0 0) [] m (OwN.nil_ _ _ _) B' y hy (by simpa using hlen) hby (Nat.le_refl _)
    exact ⟨v', w', h1, h2, (Below.refl _ _).grown h3 (Nat.le_refl _) (fun k hk => by simp [Value.ownBlock] at hk)⟩
  | some ad =>
    obtain ⟨i, hi, hz, hs, hb⟩ := info_parts K.info
    obtain ⟨A, c, rfl, hc, hmx, hr⟩ := hy
    obtain ⟨ad', rfl, _, hx⟩ := hr hm
    obtain ⟨A, c2, e, _, hmx2, hr2⟩ := hl
    cases e
    have holds : ∀ (j : Nat) (u : Value), (K.flat l)[j]? = some u → w.cell? (ad.add j) = some u := by
      rcases Nat.eq_zero_or_pos l.length with h | h
      · intro j u hj
        have : l = [] := List.eq_nil_of_length_eq_zero h
        subst this
        simp [Ke.flat] at hj
      · obtain ⟨ad2, e, _, hx2⟩ := hr2 h
        cases e
        exact hx2
    obtain ⟨v', w', h1, h2, h3⟩ := run_append_arg_grows (P := Try.prog) w T ty K.E i K.z K.size K.bytes hT hi hz hs hb K.zs K.pos ad l.length l.length (K.flat l) (K.flat_len l) holds ad' m.length c (K.flat m) (K.flat_len m) hx (by omega) (by simp only [maxLen]; omega) (Nat.le_trans (Nat.mul_le_mul_left _ hby) (by omega))
    refine ⟨v', w', h1, ?_, (Below.refl _ _).grown h3 (Nat.le_refl _) (fun k hk => by cases hk)⟩
    unfold OwN
    rw [List.length_append, K.flat_app]
    exact h2
/-- a literal of one document -/
def litD (d : Dm) (t : TriD) : Sp := ⟨fun x w => ∃ b, x = .slice (some ⟨b, 0, none⟩) 1 1 ∧ w.heap[b]? = some (.cells (d.vs (triV t)) 25 (0, 0)), fun _ _ _ h hb => by
  obtain ⟨b, e, h1⟩ := h
  exact ⟨b, e, (hb.block b (lt_of_blk h1)).trans h1⟩⟩
def docS (os : List Dm) : Sp := ⟨fun x w => Docs w w.heap.size x os, fun _ _ _ h hb => (h.below hb).more hb.size⟩
def lightS (os : List Dm) (neg : Bool) : Sp := ⟨fun x _ => ∃ b : Bool, x = .bool (xor neg b) ∧ (b = true → os.length ≤ 40 ∧ ∀ o ∈ os, o.ls.length ≤ 70), fun _ _ _ h _ => h⟩
set_option maxRecDepth 100000 in
set_option maxHeartbeats 16000000 in
theorem once_law {w : World} (v : Value) (os : List Dm) (hs : Docs w w.heap.size v os) (u : Value) (d : Dm) (hv : DmV w w.heap.size u d) (hn : os.length ≤ 1048576) : Calls Try.prog 3 #[v, u] w fun e w' => e = .returned (.bool true) ∧ Below w.heap.size w w' := by
  obtain ⟨A, c, rfl, hcl, hcm⟩ := hs.form
  obtain ⟨lv, rfl, hls, hok⟩ := hv
  obtain ⟨t, rfl⟩ := lns_tri hls
  have hb1 := (Below.refl w.heap.size w).alloc (Nat.le_refl _) (.cells (d.vs (triV t)) 25)
  have hx1 : DBlk (w.alloc (.cells (d.vs (triV t)) 25)) w.heap.size d (triV t) := heap_alloc_new w (.cells (d.vs (triV t)) 25 (0, 0))
  have HS := Lib.hid (fun W (hW : Below w.heap.size w W) => hs.below hW)
  have HB1 := Lib.hid hb1
  have HX1 := Lib.hid hx1
  have HLN := Lib.hid hls
  have HOK := Lib.hid hok
  clear hs hls hok hb1 hx1
  obtain ⟨did, sale, cred, ref, day, cty, num, cur, ls⟩ := d
  obtain ⟨tA, tn, tc⟩ := t
  simp only [Dm.vs, triV] at HB1 HX1 ⊢
  go_enter Try.func3, Try.ntmps3
  go_upto_region 1 with fail
  generalize World.alloc w _ = w1 at *
  generalize hbd : w.heap.size = bd at HX1 ⊢
  generalize hdd : (⟨did, sale, cred, ref, day, cty, num, cur, ls⟩ : Dm) = dd at HX1 HLN HOK
  generalize htt : ((tA, tn, tc) : TriD) = tt at HLN
  have htv : (.slice tA tn tc : Value) = triV tt := by subst htt; rfl
  rw [htv] at HX1
  have hvs : (.agg #[.string did, .bool sale, .bool cred, .string ref, .int .i64 day, .string cty, .string num, .string cur, .slice tA tn tc] : Value) = .agg (dd.vs (triV tt)) := by subst hdd htt; rfl
  have HVS := Lib.hid hvs
  have hvl : ∀ lv : Value, (.agg #[.string did, .bool sale, .bool cred, .string ref, .int .i64 day, .string cty, .string num, .string cur, lv] : Value) = .agg (dd.vs lv) := fun lv => by subst hdd; rfl
  have HVL := Lib.hid hvl
  have hb0 : ∀ W, DBlk W bd dd (triV tt) → DBox W bd ⟨did, sale, cred, ref, day, cty, num, cur, ls⟩ (.slice tA tn tc) := fun W hW => by subst hdd htt; exact hW.box
  have HBX := Lib.hid hb0
  have hcr : cred = dd.cred := by subst hdd; rfl
  have hdi : did = dd.id := by subst hdd; rfl
  have HCR := Lib.hid hcr
  have HDI := Lib.hid hdi
  clear hvs hvl hb0 hdd htt htv hbd hcr hdi
  have HX := Lib.hid (fun W (hW : Below w1.heap.size w1 W) => (show DBlk W bd dd (triV tt) ∧ Below w.heap.size w W from ⟨HX1.out.below hW, HB1.out.trans (hW.mono HB1.out.size)⟩))
  have i0 : (0 : Int) ≤ (os.length : Int) := by omega
  have i1 : (os.length : Int) ≤ (c : Int) := by omega
  refine wp_region_sp (by kernel_rfl) [isS (.slice A os.length c), isS (.slice A os.length c), isS (.int .i64 (os.length : Int)), isS (.slice A os.length c), isS (.int .i64 (os.length : Int)), isS (.slice A os.length os.length), isS (.agg #[.string did, .bool sale, .bool cred, .string ref, .int .i64 day, .string cty, .string num, .string cur, .slice tA tn tc]), litD dd tt, docS (os ++ [dd]), lightS (os ++ [dd]) false, lightS (os ++ [dd]) true] (by kernel_rfl) (by kernel_rfl) (fun q hq => ?_) (fun a w2 hc hs => ?_)
  · match q, hq with
    | 0, _ =>
      intro a W hc hd
      have z0 := hc.same 0 (by kernel_rfl)
      simp only [List.getElem?_toArray, List.getElem?_cons_zero, Option.getD_some] at z0
      refine obl_val rfl (wanted_none rfl) ?_ rfl
      go_simp
    | 1, _ =>
      intro a W hc hd
      have z0 := hc.same 0 (by kernel_rfl)
      simp only [List.getElem?_toArray, List.getElem?_cons_zero, Option.getD_some] at z0
      refine obl_val rfl (wanted_none rfl) ?_ rfl
      go_simp
    | 2, _ =>
      intro a W hc hd
      have s1 : a.tmps[13]?.getD undef = (.slice A os.length c) := hd 1 (by kernel_rfl)
      refine obl_val rfl (wanted_none rfl) ?_ rfl
      go_simp
    | 3, _ =>
      intro a W hc hd
      have z0 := hc.same 0 (by kernel_rfl)
      simp only [List.getElem?_toArray, List.getElem?_cons_zero, Option.getD_some] at z0
      refine obl_val rfl (wanted_none rfl) ?_ rfl
      go_simp
    | 4, _ =>
      intro a W hc hd
      have s3 : a.tmps[15]?.getD undef = (.slice A os.length c) := hd 3 (by kernel_rfl)
      refine obl_val rfl (wanted_none rfl) ?_ rfl
      go_simp
    | 5, _ =>
      intro a W hc hd
      have s0 : a.tmps[12]?.getD undef = (.slice A os.length c) := hd 0 (by kernel_rfl)
      have s2 : a.tmps[14]?.getD undef = (.int .i64 (os.length : Int)) := hd 2 (by kernel_rfl)
      have s4 : a.tmps[16]?.getD undef = (.int .i64 (os.length : Int)) := hd 4 (by kernel_rfl)
      refine obl_val rfl (wanted_none rfl) ?_ rfl
      go_simp
    | 6, _ =>
      intro a W hc hd
      have z3 := hc.same 3 (by kernel_rfl)
      simp only [List.getElem?_toArray, List.getElem?_cons_succ, List.getElem?_cons_zero, Option.getD_some] at z3
      obtain ⟨y0, y1, y2, y3, y4, y5, y6, y7, y8⟩ := HBX.out W (HX.out W ((Below.refl w1.heap.size w1).drew.trans hc.below)).1
      simp only at y0 y1 y2 y3 y4 y5 y6 y7 y8
      refine obl_val rfl (wanted_none rfl) ?_ rfl
      go_simp
    | 7, _ =>
      intro a W hc hd
      have s6 : a.tmps[18]?.getD undef = (.agg #[.string did, .bool sale, .bool cred, .string ref, .int .i64 day, .string cty, .string num, .string cur, .slice tA tn tc]) := hd 6 (by kernel_rfl)
      refine obl_grow (w' := W.alloc (.cells #[.string did, .bool sale, .bool cred, .string ref, .int .i64 day, .string cty, .string num, .string cur, .slice tA tn tc] 25)) (v := .slice (some ⟨W.heap.size, 0, none⟩) 1 1) rfl (wanted_none rfl) (by go_simp) ⟨_, rfl, ?_⟩ ((Below.refl _ _).alloc (Nat.le_refl _) _)
      have e := HVS.out
      injection e with e
      rw [← e]
      exact heap_alloc_new W (.cells #[.string did, .bool sale, .bool cred, .string ref, .int .i64 day, .string cty, .string num, .string cur, .slice tA tn tc] 25 (0, 0))
    | 8, _ =>
      intro a W hc hd
      have s5 : a.tmps[17]?.getD undef = (.slice A os.length os.length) := hd 5 (by kernel_rfl)
      have s7 : (litD dd tt).f (a.tmps[19]?.getD undef) W := hd 7 (by kernel_rfl)
      obtain ⟨b, sb, hh⟩ := s7
      have hbl := (HX.out W ((Below.refl w1.heap.size w1).drew.trans hc.below)).2
      obtain ⟨ps, hps, hsl, hdk⟩ := HS.out W hbl
      subst hps
      rw [List.length_map] at s5 hsl
      obtain ⟨v', w', hrun, ho, hb⟩ := run_append_full docK W 22 22 Try.underlying22 A ps [(dd, tt)] _ hsl.clip _ _ (slN_one hh) (by simp) (by rw [List.length_map] at hn; simp; omega) (by decide)
      refine obl_app rfl (wanted_none rfl) (.tmp 17) (.tmp 19) rfl (eval_tmp s5) (eval_tmp sb) hrun ⟨_, rfl, ⟨ps ++ [(dd, tt)], by simp, ho.sl, fun p hp => ?_⟩, hb⟩
      have hbw := hbl.trans (hb.mono hbl.size)
      rcases List.mem_append.1 hp with hp | hp
      · exact ⟨((hdk p hp).1.below (hb.mono hbl.size)).more hbw.size, (hdk p hp).2⟩
      · rw [List.mem_singleton] at hp; subst hp; exact ⟨(HLN.out.below hbw).more hbw.size, HOK.out⟩
    | 9, _ =>
      intro a W hc hd
      have s8 : (docS (os ++ [dd])).f (a.tmps[20]?.getD undef) W := hd 8 (by kernel_rfl)
      refine obl_call rfl (wanted_none rfl) (by go_simp) (lights_any s8 (Nat.le_refl _)) ?_
      rintro e w9 ⟨b, rfl, hb, hb9⟩
      exact ⟨_, rfl, ⟨b, by simp, hb⟩, hb9⟩
    | 10, _ =>
      intro a W hc hd
      have s9 : (lightS (os ++ [dd]) false).f (a.tmps[21]?.getD undef) W := hd 9 (by kernel_rfl)
      obtain ⟨b, sb, hb⟩ := s9
      refine obl_val rfl (wanted_none rfl) (v := .bool (!b)) ?_ ⟨b, by simp, hb⟩
      go_simp
    | n + 11, h => exact absurd h (by simp)
  have h10 := hs 10 22 (by decide) (by kernel_rfl)
  have hx2 := HX.out w2 ((Below.refl w1.heap.size w1).drew.trans hc.below)
  have hfr := grow_frame hc [(12, (.slice A os.length c)), (13, (.slice A os.length c)), (14, (.int .i64 (os.length : Int))), (15, (.slice A os.length c)), (16, (.int .i64 (os.length : Int))), (17, (.slice A os.length os.length)), (18, (.agg #[.string did, .bool sale, .bool cred, .string ref, .int .i64 day, .string cty, .string num, .string cur, .slice tA tn tc])), (19, a.tmps[19]?.getD undef), (20, a.tmps[20]?.getD undef), (21, a.tmps[21]?.getD undef), (22, a.tmps[22]?.getD undef)] (by kernel_rfl) (fun p hp => by
      simp only [List.mem_cons, List.not_mem_nil, or_false] at hp
      rcases hp with rfl | rfl | rfl | rfl | rfl | rfl | rfl | rfl | rfl | rfl | rfl
      · exact hs 0 12 (by decide) (by kernel_rfl)
      · exact hs 1 13 (by decide) (by kernel_rfl)
      · exact hs 2 14 (by decide) (by kernel_rfl)
      · exact hs 3 15 (by decide) (by kernel_rfl)
      · exact hs 4 16 (by decide) (by kernel_rfl)
      · exact hs 5 17 (by decide) (by kernel_rfl)
      · exact hs 6 18 (by decide) (by kernel_rfl)
      · rfl
      · rfl
      · rfl
      · rfl
      )
  generalize a.tmps[19]?.getD undef = z19 at hfr
  generalize a.tmps[20]?.getD undef = z20 at hfr
  generalize a.tmps[21]?.getD undef = z21 at hfr
  generalize a.tmps[22]?.getD undef = z22 at hfr h10
  simp only [List.range, List.range.loop, List.size_toArray, List.length_cons, List.length_nil, List.map_cons, List.map_nil, List.lookup_cons, List.lookup_nil, Nat.reduceAdd, Nat.reduceBEq, Option.getD_some, Option.getD_none, List.getElem?_toArray, List.getElem?_cons_succ, List.getElem?_cons_zero] at hfr
  subst hfr
  obtain ⟨b, rfl, hb⟩ := h10
  have HX2 := Lib.hid hx2.1
  have HB2 := Lib.hid hx2.2
  have HLI := Lib.hid (fun h : xor true b = false => hb (by cases b <;> simp_all))
  clear hc hs hx2 hb HX HX1 HB1
  generalize xor true b = nb at HLI ⊢
  cases nb
  case true =>
    go_wp2_with (go_at_call 11; (with_reducible refine (lives29_any _).mono ?_); rintro e w3 ⟨rfl, hb3⟩)
    go_ret
    exact ⟨rfl, HB2.out.trans (hb3.mono HB2.out.size)⟩
  have hli := HLI.out rfl
  have h40 : os.length + 1 ≤ 40 := by have := hli.1; simpa using this
  have H70 := Lib.hid (fun o (ho : o ∈ os) => hli.2 o (List.mem_append_left _ ho))
  have H7 := Lib.hid (hli.2 dd (by simp))
  have HBS := Lib.hid HB2.out.size
  clear hli HLI
  go_upto_region 4 with (go_at_call 12; (with_reducible refine (idsnew_any _).mono ?_); rintro e w3 ⟨g, Z, rfl, hst, hb3⟩; have HST3 := Lib.hid hst; have HX3 := Lib.hid (HX2.out.below hb3); have HB3 := Lib.hid (HB2.out.trans (hb3.mono HB2.out.size)); clear hst hb3)
  generalize w2.heap.size = base at *
  clear HX2 HB2
  have hpt := idsput_any HST3.out (v := .agg (dd.vs (triV tt))) ⟨_, rfl, HLN.out.below HB3.out, HOK.out⟩ HB3.out.size (HOK.out.toLim2 H7.out) (by simp)
  unfold PutPost at hpt
  have hC := @check_nil dd
  have hT := @check_twice dd
  generalize hF : checkD [] dd = F at hpt hC hT
  rw [← HVS.out] at hpt
  have HC := Lib.hid hC
  have HT := Lib.hid hT
  obtain ⟨y0, y1, y2, y3, y4, y5, y6, y7, y8⟩ := HBX.out _ HX3.out
  simp only at y0 y1 y2 y3 y4 y5 y6 y7 y8
  clear hF hC hT
  by_cases hF0 : F = 0
  case neg =>
    have e1 : (F != 0) = true := by simp [hF0]
    have hgd := fun W (hW : Below w.heap.size w W) => rgooddoc_any (w := W) (B := w.heap.size) (v := .agg (dd.vs (triV tt))) (o := dd) ⟨_, rfl, HLN.out.below hW, HOK.out⟩ hW.size (HOK.out.toLim2 H7.out).num (HOK.out.toLim2 H7.out).ls
    have hC := HC.out hF0
    generalize goodDocB dd = G at hgd hC
    rw [← HVS.out] at hgd
    have HGD := Lib.hid hgd
    have hC2 : G = false ∨ (G = true ∧ cred = true) := by
      rcases hC with h | h
      · exact .inl h
      · cases G
        · exact .inl rfl
        · exact .inr ⟨rfl, by rw [HCR.out]; exact h⟩
    clear hgd hC hF0 HC HT H70
    rcases hC2 with rfl | ⟨rfl, rfl⟩
    all_goals
      go_wp2_with (first
        | (go_at_call 13; (with_reducible refine hpt.mono ?_); rintro e w4 ⟨Z4, rfl, _, _, hk4⟩; have HX4 := Lib.hid (show DBlk w4 bd dd (triV tt) from hk4.heap HX3.out (fun hz => (HST3.out.kd _ hz).ne HX3.out (by decide) rfl)); have HB4 := Lib.hid (HB3.out.trans (hk4.toBelow (B := w.heap.size) HB3.out.size (fun b hb hz => by have := HST3.out.lo b hz; have := HBS.out; omega))); clear hpt hk4 y0 y1 y2 y3 y4 y5 y6 y7 y8; have hbx := HBX.out _ HX4.out; obtain ⟨y0, y1, y2, y3, y4, y5, y6, y7, y8⟩ := hbx; simp only at y0 y1 y2 y3 y4 y5 y6 y7 y8; have hgd := HGD.out _ HB4.out)
        | (go_at_call 14; (with_reducible refine hgd.mono ?_); rintro e w5 ⟨rfl, hb5⟩; have HB5 := Lib.hid (HB4.out.trans (hb5.mono HB4.out.size)); have HX5 := Lib.hid (HX4.out.below hb5); clear hgd hb5 y0 y1 y2 y3 y4 y5 y6 y7 y8; have hbx := HBX.out _ HX5.out; obtain ⟨y0, y1, y2, y3, y4, y5, y6, y7, y8⟩ := hbx; simp only at y0 y1 y2 y3 y4 y5 y6 y7 y8)
        | (go_at_call 11; (with_reducible refine (lives29_any _).mono ?_); rintro e w6 ⟨rfl, hb6⟩))
      go_ret
      exact ⟨rfl, HB5.out.trans (hb6.mono HB5.out.size)⟩
  subst hF0
  rw [if_pos rfl] at hpt
  go_upto_region 6 with (go_at_call 13; (with_reducible refine hpt.mono ?_); rintro e w4 ⟨Z4, rfl, hst4, _, hk4⟩; have HX4 := Lib.hid (show DBlk w4 bd dd (triV tt) from hk4.heap HX3.out (fun hz => (HST3.out.kd _ hz).ne HX3.out (by decide) rfl)); have HB4 := Lib.hid (HB3.out.trans (hk4.toBelow (B := w.heap.size) HB3.out.size (fun b hb hz => by have := HST3.out.lo b hz; have := HBS.out; omega))); have HST4 := Lib.hid hst4; clear hpt hk4 hst4 y0 y1 y2 y3 y4 y5 y6 y7 y8)
  clear HST3 HX3 HB3 HC
  go_wp2
  go_loopg [7, 8, 9, 49] os.length (fun gk x7 x8 x9 x49 wr => ∃ (k : Nat) (Z : Nat → Prop) (rest : List Dm), gk = os.length - k ∧ k ≤ os.length ∧ x49 = .int .i64 (k : Int) ∧ rest.length ≤ k ∧ St wr base g Z (dd :: rest) ∧ DBlk wr bd dd (triV tt) ∧ Below w.heap.size w wr)
  case atStart => exact ⟨0, Z4, [], rfl, Nat.zero_le _, rfl, Nat.le_refl _, HST4.out, HX4.out, HB4.out⟩
  case round =>
    obtain ⟨k, Z, rest, hgk, hk, rfl, hrk, hst, hx, hbl⟩ := hrel
    have HG := Lib.hid hgk
    have HST := Lib.hid hst
    have HX := Lib.hid hx
    have HB := Lib.hid hbl
    have HRK := Lib.hid hrk
    have HPL := Lib.hid (show (dd :: rest).length ≤ 100 by simp; omega)
    clear hgk hst hx hbl HST4 HX4 HB4
    by_cases h : k < os.length
    · obtain ⟨ad, c', t, hv, hadB, hat, hln, hok⟩ := (HS.out w (Below.refl _ _)).at_ k h
      cases hv
      have hat := hat.keep (B := w.heap.size) (w' := wr) (by rw [addr_add_block]; exact hadB) (fun p hp => HB.out.cell hp)
      have h7 := H70.out _ (List.getElem_mem h)
      have i2 : (0 : Int) ≤ (k : Int) := by omega
      have i3 : (k : Int) < (os.length : Int) := by omega
      have i4 : IntKind.i64.wrap ((k : Int) + 1) = (k : Int) + 1 := by rw [IntKind.wrap_i64]; omega
      generalize os[k] = o at *
      have hb9 := (Below.refl wr.heap.size wr).alloc (Nat.le_refl _) (.cells (o.vs (triV t)) 25)
      have hx9 : DBlk (wr.alloc (.cells (o.vs (triV t)) 25)) wr.heap.size o (triV t) := heap_alloc_new wr (.cells (o.vs (triV t)) 25 (0, 0))
      have HST9 := Lib.hid (HST.out.below hb9)
      have HXD := Lib.hid (HX.out.below hb9)
      have HX9 := Lib.hid hx9
      have HB9 := Lib.hid (HB.out.trans (hb9.mono HB.out.size))
      have HLO := Lib.hid hln
      have HKO := Lib.hid hok
      have H7O := Lib.hid h7
      clear hb9 hx9 hln hok h7 hadB HST HX HB
      obtain ⟨did', sale', cred', ref', day', cty', num', cur', ls'⟩ := o
      obtain ⟨tA', tn', tc'⟩ := t
      obtain ⟨c0, c1, c2, c3, c4, c5, c6, c7, c8⟩ := hat
      simp only [triV] at c0 c1 c2 c3 c4 c5 c6 c7 c8
      simp only [Dm.vs, triV] at HST9 HX9 HXD HB9
      go_upto_region 9 with fail
      generalize World.alloc wr _ = w9 at *
      generalize wr.heap.size = bo at *
      obtain ⟨z0, z1, z2, z3, z4, z5, z6, z7, z8⟩ := HX9.out.box
      simp only at z0 z1 z2 z3 z4 z5 z6 z7 z8
      have hln9 := idslen_any HST9.out
      have hpo := idsput_any HST9.out (v := .agg ((⟨did', sale', cred', ref', day', cty', num', cur', ls'⟩ : Dm).vs (triV (tA', tn', tc')))) ⟨_, rfl, HLO.out.below HB9.out, HKO.out⟩ HB9.out.size (HKO.out.toLim2 H7O.out) (Nat.le_trans HPL.out (by decide))
      simp only [Dm.vs, triV] at hpo
      unfold PutPost at hpo
      have HPO := Lib.hid hpo
      clear hpo c0 c1 c2 c3 c4 c5 c6 c7 c8
      generalize hN : ((dd :: rest).length : Int) = N at *
      have HN := Lib.hid hN
      have hN1 : IntKind.i64.wrap (N + 1) = N + 1 := by rw [IntKind.wrap_i64]; have := HPL.out; omega
      have hN2 : (N == N + 1) = false := by rw [beq_eq_false_iff_ne]; omega
      have hN3 : (N != N) = false := by simp
      clear hN
      generalize hF : checkD (dd :: rest) (⟨did', sale', cred', ref', day', cty', num', cur', ls'⟩ : Dm) = F at *
      have hpo := HPO.out
      by_cases hF0 : F = 0
      · subst hF0
        rw [if_pos rfl] at hpo
        go_upto_region 11 with (first
          | (go_at_call 15; (with_reducible refine hln9.mono ?_); rintro e w10 ⟨rfl, rfl⟩)
          | (go_at_call 13; (with_reducible refine hpo.mono ?_); rintro e w11 ⟨Z11, rfl, hst11, _, hk11⟩; have HX11 := Lib.hid (show DBlk w11 bd dd (triV tt) from hk11.heap HXD.out (fun hz => (HST9.out.kd _ hz).ne HXD.out (by decide) rfl)); have HB11 := Lib.hid (HB9.out.trans (hk11.toBelow (B := w.heap.size) HB9.out.size (fun b hb hz => by have := HST9.out.lo b hz; have := HBS.out; omega))); have HST11 := Lib.hid hst11; clear hpo hk11 hst11 z0 z1 z2 z3 z4 z5 z6 z7 z8))
        have hln11 := idslen_any HST11.out
        rw [show (((dd :: rest ++ [(⟨did', sale', cred', ref', day', cty', num', cur', ls'⟩ : Dm)]).length : Nat) : Int) = N + 1 by rw [← HN.out]; simp] at hln11
        clear hln9 HPO hN2
        go_wp2_with (go_at_call 15; (with_reducible refine hln11.mono ?_); rintro e w12 ⟨rfl, rfl⟩)
        go_roundg (os.length - (k + 1))
        case measure => have := HG.out; omega
        case rel => exact ⟨k + 1, Z11, rest ++ [(⟨did', sale', cred', ref', day', cty', num', cur', ls'⟩ : Dm)], rfl, by omega, by simp, by simp; omega, by have h := HST11.out; rw [List.cons_append] at h; exact h, HX11.out, HB11.out⟩
      · rw [if_neg hF0] at hpo
        have e0 : (F == 0) = false := by rw [beq_eq_false_iff_ne]; exact hF0
        have e1 : (F != 0) = true := by simp [bne, e0]
        go_upto_region 11 with (first
          | (go_at_call 15; (with_reducible refine hln9.mono ?_); rintro e w10 ⟨rfl, rfl⟩)
          | (go_at_call 13; (with_reducible refine hpo.mono ?_); rintro e w11 ⟨Z11, rfl, hst11, _, hk11⟩; have HX11 := Lib.hid (show DBlk w11 bd dd (triV tt) from hk11.heap HXD.out (fun hz => (HST9.out.kd _ hz).ne HXD.out (by decide) rfl)); have HB11 := Lib.hid (HB9.out.trans (hk11.toBelow (B := w.heap.size) HB9.out.size (fun b hb hz => by have := HST9.out.lo b hz; have := HBS.out; omega))); have HST11 := Lib.hid hst11; clear hpo hk11 hst11 z0 z1 z2 z3 z4 z5 z6 z7 z8))
        have hln11 := idslen_any HST11.out
        rw [HN.out] at hln11
        clear hln9 HPO
        go_wp2_with (go_at_call 15; (with_reducible refine hln11.mono ?_); rintro e w12 ⟨rfl, rfl⟩)
        go_roundg (os.length - (k + 1))
        case measure => have := HG.out; omega
        case rel => exact ⟨k + 1, Z11, rest, rfl, by omega, by simp, by omega, HST11.out, HX11.out, HB11.out⟩
    · obtain rfl : k = os.length := by omega
      have hget : Calls Try.prog 16 #[.pointer (some ⟨g, 0, none⟩), .string did] wr (fun e w' => ∃ t : TriD, e = .returned (.tuple #[.agg #[.string did, .bool sale, .bool cred, .string ref, .int .i64 day, .string cty, .string num, .string cur, triV t], .bool true]) ∧ DocOk w' w'.heap.size (dd, t) ∧ Below wr.heap.size wr w') := by
        have h1 := idsget_any HST.out dd.id HOK.out.id
        rw [← HDI.out] at h1
        refine h1.mono fun e w' h => ?_
        rw [HDI.out] at h
        obtain ⟨h1 | ⟨o, t, h1, h2, h3⟩, hb⟩ := h
        · rw [find_first] at h1; cases h1.1
        · rw [find_first] at h1
          cases h1
          exact ⟨t, by rw [HVL.out]; exact h2, h3, hb⟩
      simp only [triV] at hget
      have hbx := HBX.out _ HX.out
      obtain ⟨y0, y1, y2, y3, y4, y5, y6, y7, y8⟩ := hbx
      simp only at y0 y1 y2 y3 y4 y5 y6 y7 y8
      go_upto_region 15 with (go_at_call 16; (with_reducible refine hget.mono ?_); rintro e w5 ⟨t2, rfl, hdk5, hb5⟩; obtain ⟨t2A, t2n, t2c⟩ := t2)
      have hb6 := (Below.refl w5.heap.size w5).alloc (Nat.le_refl _) (.cells #[.string did, .bool sale, .bool cred, .string ref, .int .i64 day, .string cty, .string num, .string cur, .slice t2A t2n t2c] 25)
      have hx6 := heap_alloc_new w5 (.cells #[.string did, .bool sale, .bool cred, .string ref, .int .i64 day, .string cty, .string num, .string cur, .slice t2A t2n t2c] 25 (0, 0))
      have hb56 := hb5.trans (hb6.mono hb5.size)
      have HDK := Lib.hid (show Lns _ _ (.slice t2A t2n t2c) dd.ls from (hdk5.1.below hb6).more hb6.size)
      have HX6 := Lib.hid hx6
      have HXD := Lib.hid (HX.out.below hb56)
      have HST6 := Lib.hid (HST.out.below hb56)
      have HB6 := Lib.hid (HB.out.trans (hb56.mono HB.out.size))
      clear hget hb5 hb6 hb56 hx6 hdk5 y0 y1 y2 y3 y4 y5 y6 y7 y8 HX HST HB
      generalize World.alloc w5 _ = w6 at *
      generalize w5.heap.size = gx at *
      have hsd := rsamedoc_any (w := w6) (va := .agg (dd.vs (.slice t2A t2n t2c))) (vb := .agg (dd.vs (triV tt))) (a := dd) (b := dd) ⟨_, rfl, HDK.out, HOK.out⟩ (Nat.le_refl _) ⟨_, rfl, HLN.out.below HB6.out, HOK.out⟩ HB6.out.size (HOK.out.toLim2 H7.out).ls
      rw [decide_eq_true rfl, ← HVL.out, ← HVS.out] at hsd
      have hpt := fun W (hW : Below w6.heap.size w6 W) => idsput_any (HST6.out.below hW) (v := .agg (dd.vs (triV tt))) ⟨_, rfl, HLN.out.below (HB6.out.trans (hW.mono HB6.out.size)), HOK.out⟩ (HB6.out.trans (hW.mono HB6.out.size)).size (HOK.out.toLim2 H7.out) (Nat.le_trans HPL.out (by decide))
      unfold PutPost at hpt
      rw [HT.out (by simp), ← HVS.out] at hpt
      have HPT := Lib.hid hpt
      clear hpt
      obtain ⟨q0, q1, q2, q3, q4, q5, q6, q7, q8⟩ := (show ∀ i v, (#[.string did, .bool sale, .bool cred, .string ref, .int .i64 day, .string cty, .string num, .string cur, .slice t2A t2n t2c] : Array Value)[i]? = some v → w6.cell? ⟨gx, i, none⟩ = some v from fun i v h => cells_of HX6.out i v h) |> fun h => (⟨h 0 _ rfl, h 1 _ rfl, h 2 _ rfl, h 3 _ rfl, h 4 _ rfl, h 5 _ rfl, h 6 _ rfl, h 7 _ rfl, h 8 _ rfl⟩ : _ ∧ _ ∧ _ ∧ _ ∧ _ ∧ _ ∧ _ ∧ _ ∧ _)
      have hbx := HBX.out _ HXD.out
      obtain ⟨y0, y1, y2, y3, y4, y5, y6, y7, y8⟩ := hbx
      simp only at y0 y1 y2 y3 y4 y5 y6 y7 y8
      go_wp2_with (first
        | (go_at_call 17; (with_reducible refine hsd.mono ?_); rintro e w7 ⟨rfl, hb7⟩; have HB7 := Lib.hid hb7; clear hsd hb7 q0 q1 q2 q3 q4 q5 q6 q7 q8 y0 y1 y2 y3 y4 y5 y6 y7 y8; have hbx := HBX.out _ (HXD.out.below HB7.out); obtain ⟨y0, y1, y2, y3, y4, y5, y6, y7, y8⟩ := hbx; simp only at y0 y1 y2 y3 y4 y5 y6 y7 y8; have hpt := HPT.out _ HB7.out)
        | (go_at_call 13; (with_reducible refine hpt.mono ?_); rintro e w8 ⟨Z8, rfl, _, _, hk8⟩; have HB8 := Lib.hid ((HB6.out.trans (HB7.out.mono HB6.out.size)).trans (hk8.toBelow (B := w.heap.size) (HB6.out.trans (HB7.out.mono HB6.out.size)).size (fun b hb hz => by have := HST6.out.lo b hz; have := HBS.out; omega))); clear hpt hk8 y0 y1 y2 y3 y4 y5 y6 y7 y8)
        | (go_at_call 11; (with_reducible refine (lives29_any _).mono ?_); rintro e w9 ⟨rfl, hb9⟩))
      go_ret
      exact ⟨rfl, HB8.out.trans (hb9.mono HB8.out.size)⟩
end Go.Proofs.Ytnfpmobmfcgfnaa
