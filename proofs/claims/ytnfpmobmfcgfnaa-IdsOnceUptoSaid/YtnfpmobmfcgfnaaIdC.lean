/- THE WALK OF ids.Check (printed by gen/genidc.py). -/
import Derived.Test.YtnfpmobmfcgfnaaIdB
namespace Go.Proofs.Ytnfpmobmfcgfnaa
open Go.RowKit
/-- may a document come? -/
def checkD (docs : List Dm) (d : Dm) : Int := if goodDocB d = false then 2 else if (findD docs d.id.data.toList).isSome then 51 else if d.cred && !refersB docs d then 72 else 0
/-- a document that is not longer than is looked at here -/
structure Dm.lim (o : Dm) : Prop where
  cty : o.cty.size ≤ 9223372036854775807
  num : o.num.size ≤ 9223372036854775807
  ls : o.ls.length ≤ 100000
set_option maxRecDepth 100000 in
set_option maxHeartbeats 8000000 in
theorem idscheck_any {w : World} {base g : Nat} {Z : Nat → Prop} {docs : List Dm} (h : St w base g Z docs) {B : Nat} {v : Value} {d : Dm} (hv : DmV w B v d) (hB : B ≤ w.heap.size) (hlim : d.lim) :
    Calls Try.prog 18 #[.pointer (some ⟨g, 0, none⟩), v] w fun e w' => e = .returned (.int .i64 (checkD docs d)) ∧ Below w.heap.size w w' := by
  obtain ⟨lv, rfl, hls, hd⟩ := hv
  have hb1 := (Below.refl w.heap.size w).alloc (Nat.le_refl _) (.cells #[.pointer (some ⟨g, 0, none⟩)] 28)
  have hb2 := (Below.refl (w.alloc (.cells #[.pointer (some ⟨g, 0, none⟩)] 28)).heap.size (w.alloc (.cells #[.pointer (some ⟨g, 0, none⟩)] 28))).alloc (Nat.le_refl _) (.cells (d.vs lv) 25)
  have hbb := hb1.trans (hb2.mono hb1.size)
  have hgd : DBlk ((w.alloc (.cells #[.pointer (some ⟨g, 0, none⟩)] 28)).alloc (.cells (d.vs lv) 25)) (w.heap.size + 1) d lv := by
    have := heap_alloc_new (w.alloc (.cells #[.pointer (some ⟨g, 0, none⟩)] 28)) (.cells (d.vs lv) 25 (0, 0))
    rw [World.size_alloc] at this
    exact this
  have hgs0 := heap_alloc_new w (.cells #[.pointer (some ⟨g, 0, none⟩)] 28 (0, 0))
  have hgs : ((w.alloc (.cells #[.pointer (some ⟨g, 0, none⟩)] 28)).alloc (.cells (d.vs lv) 25)).cell? ⟨w.heap.size, 0, none⟩ = some (.pointer (some ⟨g, 0, none⟩)) := cells_of ((hb2.block _ (by simp)).trans hgs0) 0 _ rfl
  have hst := h.below hbb
  generalize hw1 : (w.alloc (.cells #[.pointer (some ⟨g, 0, none⟩)] 28)).alloc (.cells (d.vs lv) 25) = w1 at *
  have hgood := fun W (hW : Below w1.heap.size w1 W) => gooddoc_any (w := W) (B := B) (v := .agg (d.vs lv)) (o := d) ⟨lv, rfl, (hls.below (hbb.mono hB)).below (hW.mono (Nat.le_trans hB hbb.size)), hd⟩ (Nat.le_trans hB (Nat.le_trans hbb.size hW.size)) hlim.cty hlim.num hlim.ls
  have hnone := fun W (hW : Below w1.heap.size w1 W) => idsnone_any (hst.below hW)
  have href := fun W (hW : Below w1.heap.size w1 W) => refers_any (hst.below hW) (gs := w.heap.size) (gd := w.heap.size + 1) (d := d) (lv := lv) ((hW.cell (p := ⟨w.heap.size, 0, none⟩) (World.block_lt_of_cell? w1 ⟨w.heap.size, 0, none⟩ hgs)).trans hgs) (hgd.below hW) hd
  obtain ⟨bd, x, t, hlk, _, _⟩ := hst.docv d.id hd.id
  have hlt : w.heap.size < w1.heap.size := World.block_lt_of_cell? w1 ⟨w.heap.size, 0, none⟩ hgs
  generalize hR : checkD docs d = R
  unfold checkD at hR
  generalize goodDocB d = G at *
  generalize refersB docs d = F at *
  generalize (findD docs d.id.data.toList).isSome = ok at *
  have HLK := Lib.hid hlk
  have HGS := Lib.hid (fun W (hW : Below w1.heap.size w1 W) => (hW.cell (p := ⟨w.heap.size, 0, none⟩) hlt).trans hgs)
  have HGD := Lib.hid (fun W (hW : Below w1.heap.size w1 W) => hgd.below hW)
  have HR := Lib.hid hR
  have HBB := Lib.hid hbb
  have HW1 := Lib.hid hw1
  obtain ⟨id, sale, cred, ref, day, cty, num, cur, ls⟩ := d
  obtain ⟨id', sale', cred', ref', day', cty', num', cur', ls'⟩ := x
  obtain ⟨tA, tn, tc⟩ := t
  simp only [Dm.vs, triV] at hgood HLK HW1 ⊢
  have HGO := Lib.hid hgood
  have HNO := Lib.hid hnone
  have HRE := Lib.hid href
  clear hlk hgs hgd hd hR h hlt hls hb1 hb2 hbb hgs0 hst hw1 hgood hnone href hlim
  go_enter Try.func18, Try.ntmps18
  go_upto_region 1 with fail
  rw [HW1.out]
  have y := HGS.out w1 (Below.refl _ _)
  have hno := HNO.out w1 (Below.refl _ _)
  go_upto_region 4 with (go_at_call 44; (with_reducible refine hno.mono ?_); rintro e w' ⟨rfl, rfl⟩)
  clear y hno
  refine wp_region_headE 11 2 9 (by decide) (.bool ok) _ rfl (by kernel_rfl) [isS (.pointer (some ⟨g, 0, none⟩)), isS (.pointer (some ⟨g, 0, none⟩)), isS (.pointer (some ⟨g, 0, none⟩)), isS (.map (some bd)), isS (.pointer (some ⟨w.heap.size + 1, 0, none⟩)), isS (.string id), isS (.tuple #[.agg #[.string id', .bool sale', .bool cred', .string ref', .int .i64 day', .string cty', .string num', .string cur', .slice tA tn tc], .bool ok]), isS (.tuple #[.agg #[.string id', .bool sale', .bool cred', .string ref', .int .i64 day', .string cty', .string num', .string cur', .slice tA tn tc], .bool ok]), isS (.agg #[.string id', .bool sale', .bool cred', .string ref', .int .i64 day', .string cty', .string num', .string cur', .slice tA tn tc]), isS (.bool ok), boxZ w1.heap.size] (by kernel_rfl) (by kernel_rfl) (by kernel_rfl) (by decide) rfl (by kernel_rfl) (fun _ _ _ h => h) (by kernel_rfl) (by kernel_rfl) (fun a W hd => by
      have s7 : a.tmps[11]?.getD undef = .tuple #[.agg #[.string id', .bool sale', .bool cred', .string ref', .int .i64 day', .string cty', .string num', .string cur', .slice tA tn tc], .bool ok] := hd 7 (by decide) (by kernel_rfl)
      exact .inl ⟨by rfl, fun w => by go_simp⟩) (fun _ => rfl) (fun q hq => ?_) (fun a w5 hc hs => ?_)
  · match q, hq with
    | 0, _ =>
      intro a W hc hd
      have z2 := hc.same 2 (by kernel_rfl)
      simp only [List.getElem?_toArray, List.getElem?_cons_succ, List.getElem?_cons_zero, Option.getD_some] at z2
      have y := HGS.out W ((Below.refl w1.heap.size w1).drew.trans hc.below)
      refine obl_val rfl (wanted_none rfl) ?_ rfl
      go_simp
    | 1, _ =>
      intro a W hc hd
      have s0 : a.tmps[12]?.getD undef = (.pointer (some ⟨g, 0, none⟩)) := hd 0 (by decide) (by kernel_rfl)
      refine obl_val rfl (wanted_none rfl) ?_ rfl
      go_simp
    | 2, _ =>
      intro a W hc hd
      have s1 : a.tmps[13]?.getD undef = (.pointer (some ⟨g, 0, none⟩)) := hd 1 (by decide) (by kernel_rfl)
      refine obl_val rfl (wanted_none rfl) ?_ rfl
      go_simp
    | 3, _ =>
      intro a W hc hd
      have s2 : a.tmps[14]?.getD undef = (.pointer (some ⟨g, 0, none⟩)) := hd 2 (by decide) (by kernel_rfl)
      obtain ⟨y, _⟩ := HLK.out W ((Below.refl w1.heap.size w1).drew.trans hc.below)
      refine obl_val rfl (wanted_none rfl) ?_ rfl
      go_simp
    | 4, _ =>
      intro a W hc hd
      have z3 := hc.same 3 (by kernel_rfl)
      simp only [List.getElem?_toArray, List.getElem?_cons_succ, List.getElem?_cons_zero, Option.getD_some] at z3
      refine obl_val rfl (wanted_none rfl) ?_ rfl
      go_simp
    | 5, _ =>
      intro a W hc hd
      have s4 : a.tmps[16]?.getD undef = (.pointer (some ⟨w.heap.size + 1, 0, none⟩)) := hd 4 (by decide) (by kernel_rfl)
      obtain ⟨y0, y1, y2, y3, y4, y5, y6, y7, y8⟩ := (HGD.out W ((Below.refl w1.heap.size w1).drew.trans hc.below)).box
      simp only at y0 y1 y2 y3 y4 y5 y6 y7 y8
      refine obl_val rfl (wanted_none rfl) ?_ rfl
      go_simp
    | 6, _ =>
      intro a W hc hd
      have s3 : a.tmps[15]?.getD undef = (.map (some bd)) := hd 3 (by decide) (by kernel_rfl)
      have s5 : a.tmps[17]?.getD undef = (.string id) := hd 5 (by decide) (by kernel_rfl)
      obtain ⟨_, y⟩ := HLK.out W ((Below.refl w1.heap.size w1).drew.trans hc.below)
      refine obl_val rfl (wanted_none rfl) ?_ rfl
      go_simp
    | 7, _ =>
      intro a W hc hd
      have s6 : a.tmps[18]?.getD undef = (.tuple #[.agg #[.string id', .bool sale', .bool cred', .string ref', .int .i64 day', .string cty', .string num', .string cur', .slice tA tn tc], .bool ok]) := hd 6 (by decide) (by kernel_rfl)
      refine obl_val rfl (wanted_none rfl) ?_ rfl
      go_simp
    | 8, _ =>
      intro a W hc hd
      have s7 : a.tmps[11]?.getD undef = (.tuple #[.agg #[.string id', .bool sale', .bool cred', .string ref', .int .i64 day', .string cty', .string num', .string cur', .slice tA tn tc], .bool ok]) := hd 7 (by decide) (by kernel_rfl)
      refine obl_val rfl (wanted_none rfl) ?_ rfl
      go_simp
    | 9, _ =>
      intro a W hc hd
      have s7 : a.tmps[11]?.getD undef = (.tuple #[.agg #[.string id', .bool sale', .bool cred', .string ref', .int .i64 day', .string cty', .string num', .string cur', .slice tA tn tc], .bool ok]) := hd 7 (by decide) (by kernel_rfl)
      refine obl_val rfl (wanted_none rfl) ?_ rfl
      go_simp
    | 10, _ =>
      intro a W hc hd
      refine obl_grow rfl (wanted_none rfl) (v := .pointer (some ⟨W.heap.size, 0, none⟩)) (w' := W.alloc (.cells #[.string ⟨#[]⟩, .bool false, .bool false, .string ⟨#[]⟩, .int .i64 0, .string ⟨#[]⟩, .string ⟨#[]⟩, .string ⟨#[]⟩, .slice none 0 0] 25)) ?_ ⟨_, rfl, heap_alloc_new W _, ((Below.refl w1.heap.size w1).drew.trans hc.below).size⟩ ((Below.refl W.heap.size W).alloc (Nat.le_refl _) _)
      go_simp
    | n + 11, h => exact absurd h (by omega)
  · have hbx := hs 10 6 (by decide) (by kernel_rfl)
    have hfr := grow_frameN hc [(12, (.pointer (some ⟨g, 0, none⟩))), (13, (.pointer (some ⟨g, 0, none⟩))), (14, (.pointer (some ⟨g, 0, none⟩))), (15, (.map (some bd))), (16, (.pointer (some ⟨w.heap.size + 1, 0, none⟩))), (17, (.string id)), (18, (.tuple #[.agg #[.string id', .bool sale', .bool cred', .string ref', .int .i64 day', .string cty', .string num', .string cur', .slice tA tn tc], .bool ok])), (11, (.tuple #[.agg #[.string id', .bool sale', .bool cred', .string ref', .int .i64 day', .string cty', .string num', .string cur', .slice tA tn tc], .bool ok])), (19, (.agg #[.string id', .bool sale', .bool cred', .string ref', .int .i64 day', .string cty', .string num', .string cur', .slice tA tn tc])), (20, (.bool ok)), (6, a.tmps[6]?.getD undef)] (by kernel_rfl) (fun p hp => by
        simp only [List.mem_cons, List.not_mem_nil, or_false] at hp
        rcases hp with rfl | rfl | rfl | rfl | rfl | rfl | rfl | rfl | rfl | rfl | rfl
        · exact hs 0 12 (by decide) (by kernel_rfl)
        · exact hs 1 13 (by decide) (by kernel_rfl)
        · exact hs 2 14 (by decide) (by kernel_rfl)
        · exact hs 3 15 (by decide) (by kernel_rfl)
        · exact hs 4 16 (by decide) (by kernel_rfl)
        · exact hs 5 17 (by decide) (by kernel_rfl)
        · exact hs 6 18 (by decide) (by kernel_rfl)
        · exact hs 7 11 (by decide) (by kernel_rfl)
        · exact hs 8 19 (by decide) (by kernel_rfl)
        · exact hs 9 20 (by decide) (by kernel_rfl)
        · rfl
        )
    generalize a.tmps[6]?.getD undef = z6 at hfr hbx
    simp only [List.range, List.range.loop, List.size_toArray, List.length_cons, List.length_nil, List.map_cons, List.map_nil, List.lookup_cons, List.lookup_nil, Nat.reduceAdd, Nat.reduceBEq, Option.getD_some, Option.getD_none, List.getElem?_toArray, List.getElem?_cons_succ, List.getElem?_cons_zero] at hfr
    subst hfr
    obtain ⟨b5, rfl, hbx5, hlo5⟩ := hbx
    have HB5 := Lib.hid ((Below.refl w1.heap.size w1).drew.trans hc.below)
    have hz := hbx5.box
    obtain ⟨f0, f1, f2, f3, f4, f5, f6, f7, f8⟩ := hbx5.free
    obtain ⟨x0, x1, x2, x3, x4, x5, x6, x7, x8⟩ := hz
    simp only [Dm.zero] at x0 x1 x2 x3 x4 x5 x6 x7 x8
    have hst := hbx5.set ⟨id', sale', cred', ref', day', cty', num', cur', ls'⟩ (.slice tA tn tc)
    simp only [setD] at hst
    have HST := Lib.hid hst.2
    clear hs hc hst hbx5
    refine wpAny_seq 11 2 (by kernel_rfl) (by kernel_rfl) ?_
    simp only [List.drop_succ_cons, List.drop_zero]
    go_upto_region 5 with fail
    generalize World.setCell (World.setCell _ _ _) ⟨b5, 8, none⟩ (.slice tA tn tc) = w6 at HST ⊢
    have HB6 := Lib.hid (HB5.out.trans (HST.out.toBelow (B := w1.heap.size) HB5.out.size (fun b hb => by omega)))
    clear HST HB5 x0 x1 x2 x3 x4 x5 x6 x7 x8 f0 f1 f2 f3 f4 f5 f6 f7 f8
    have hR := HR.out
    have hb := HB6.out
    have hfin : ∀ W, Below w6.heap.size w6 W → Below w.heap.size w W := fun W hW => HBB.out.trans ((hb.trans (hW.mono hb.size)).mono HBB.out.size)
    have HFIN := Lib.hid hfin
    obtain ⟨y0, y1, y2, y3, y4, y5, y6, y7, y8⟩ := (HGD.out w6 hb).box
    simp only at y0 y1 y2 y3 y4 y5 y6 y7 y8
    have hgo := HGO.out w6 hb
    clear hb hfin
    cases G
    · skip
      simp only [if_true] at hR
      subst hR
      go_wp2_with (first | (go_at_call 28; (with_reducible refine hgo.mono ?_); rintro e w7 ⟨rfl, hb7⟩; have y7 := (HGD.out w7 (HB6.out.trans (hb7.mono HB6.out.size))).box; have y2 := y7.c2; simp only at y2; have hre := HRE.out w7 (HB6.out.trans (hb7.mono HB6.out.size)); clear y7))
      go_ret
      exact ⟨rfl, HFIN.out _ hb7⟩
    cases ok
    case true =>
      simp only [Bool.true_eq_false, if_false, if_true] at hR
      subst hR
      go_wp2_with (first | (go_at_call 28; (with_reducible refine hgo.mono ?_); rintro e w7 ⟨rfl, hb7⟩; have y7 := (HGD.out w7 (HB6.out.trans (hb7.mono HB6.out.size))).box; have y2 := y7.c2; simp only at y2; have hre := HRE.out w7 (HB6.out.trans (hb7.mono HB6.out.size)); clear y7))
      go_ret
      exact ⟨rfl, HFIN.out _ hb7⟩
    cases cred
    · skip
      simp only [Bool.true_eq_false, Bool.false_eq_true, if_false, Bool.false_and] at hR
      subst hR
      go_wp2_with (first | (go_at_call 28; (with_reducible refine hgo.mono ?_); rintro e w7 ⟨rfl, hb7⟩; have y7 := (HGD.out w7 (HB6.out.trans (hb7.mono HB6.out.size))).box; have y2 := y7.c2; simp only at y2; have hre := HRE.out w7 (HB6.out.trans (hb7.mono HB6.out.size)); clear y7))
      go_ret
      exact ⟨rfl, HFIN.out _ hb7⟩
    cases F
    · skip
      simp only [Bool.true_eq_false, Bool.false_eq_true, if_false, if_true, Bool.not_false, Bool.and_self] at hR
      subst hR
      go_wp2_with (first | (go_at_call 28; (with_reducible refine hgo.mono ?_); rintro e w7 ⟨rfl, hb7⟩; have y7 := (HGD.out w7 (HB6.out.trans (hb7.mono HB6.out.size))).box; have y2 := y7.c2; simp only at y2; have hre := HRE.out w7 (HB6.out.trans (hb7.mono HB6.out.size)); clear y7) | (go_at_call 45; (with_reducible refine hre.mono ?_); rintro e w8 ⟨rfl, hb8⟩))
      go_ret
      exact ⟨rfl, HFIN.out _ (hb7.trans (hb8.mono hb7.size))⟩
    simp only [Bool.true_eq_false, Bool.false_eq_true, if_false, Bool.not_true, Bool.and_false] at hR
    subst hR
    go_wp2_with (first | (go_at_call 28; (with_reducible refine hgo.mono ?_); rintro e w7 ⟨rfl, hb7⟩; have y7 := (HGD.out w7 (HB6.out.trans (hb7.mono HB6.out.size))).box; have y2 := y7.c2; simp only at y2; have hre := HRE.out w7 (HB6.out.trans (hb7.mono HB6.out.size)); clear y7) | (go_at_call 45; (with_reducible refine hre.mono ?_); rintro e w8 ⟨rfl, hb8⟩))
    go_ret
    exact ⟨rfl, HFIN.out _ (hb7.trans (hb8.mono hb7.size))⟩
end Go.Proofs.Ytnfpmobmfcgfnaa
