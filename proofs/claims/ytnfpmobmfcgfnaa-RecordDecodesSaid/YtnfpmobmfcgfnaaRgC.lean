/- THE WALK OF octroilaw08.lives (printed by gen/genliv8.py). -/
import Derived.Test.YtnfpmobmfcgfnaaPt
import Derived.Test.YtnfpmobmfcgfnaaReL
import Derived.Test.YtnfpmobmfcgfnaaPo
namespace Go.Proofs.Ytnfpmobmfcgfnaa
open Go.RowKit
/-- 'a command', whatever its lines' place -/
def cmS (c : Cm) : Sp := ⟨fun v W => CmV W W.heap.size v c, fun _ _ _ h hb => (h.below hb).more hb.size⟩
def yrC : Cm := { Cm.zero with kind := 11, pk := 3, py := 2024, px := 1 }
theorem yrC_ok : yrC.ok := ⟨⟨by decide, by decide⟩, len_zero, len_zero, i64_zero, i64_zero, i64_zero, i64_zero, i64_zero, i64_zero, i64_zero, ⟨by decide, by decide⟩, ⟨by decide, by decide⟩, ⟨by decide, by decide⟩, Dm.zero_ok⟩
set_option maxRecDepth 100000 in
theorem yr_good : goodCB yrC = true := by decide +kernel
set_option maxRecDepth 100000 in
theorem yr_enc : encL yrC = [1, 11, 2, 7, 232] := by decide +kernel
set_option maxRecDepth 100000 in
theorem sim_good : goodCB simC = true := by decide +kernel
/-- what is good has these bytes -/
theorem encode_good {w : World} {B : Nat} {v : Value} {c : Cm} (hv : CmV w B v c) (hB : B ≤ w.heap.size) (hl : c.doc.ls.length ≤ 100000) (hg : goodCB c = true) :
  Calls Try.prog 31 #[v] w fun e w' => ∃ r, e = .returned (.tuple #[r, .int .i64 0]) ∧ Own w' w.heap.size r (encL c) ∧ Below w.heap.size w w' := by
 refine (encode_any hv hB hl).mono ?_
 rintro e w' ⟨h | h, hb⟩
 ·rw [hg] at h; cases h.1
 ·obtain ⟨_, r, rfl, ho⟩ := h
  exact ⟨r, rfl, ho, hb⟩
/-- what was encoded is decoded -/
theorem decode_good {w : World} {B : Nat} {v : Value} {c : Cm} (hb : Byt w B v (encL c)) (hB : B ≤ w.heap.size) (hg : goodCB c = true) :
  Calls Try.prog 33 #[v] w fun e w' => ∃ lv, e = .returned (.tuple #[.agg (c.vs lv), .int .i64 0]) ∧ OwN lnK w' w.heap.size lv c.doc.ls ∧ c.ok ∧ Below w.heap.size w w' := by
 refine (decode_any hb hB).mono ?_
 have hd := decS_app hg
 unfold DecPost
 rw [hd]
 rintro e w' ⟨lv, rfl, ho, hb⟩
 exact ⟨lv, rfl, ho, (decS_ok hd).1, hb⟩
theorem run_loadVar_part {P : Program} (w : World) (g off : Nat) (t ty : TypeId) (cs ds : Array Value) (fr : Nat × Nat) (d : TypeDesc) (hg : w.heap[g]? = some (.cells cs t fr)) (hc : ∀ (j : Nat) (v : Value), ds[j]? = some v → cs[off + j]? = some v)
  (hu : P.underlying ty = some d) (hd : (match d with | .struct _ | .array _ _ => true | _ => false) = true) (hi : (P.info? ty).map (·.size) = some ds.size) :
  (loadVar ty ⟨g, off, none⟩).run P w = .ok (.agg ds) w := by
 have hl : (loadCells ⟨g, off, none⟩ ds.toList.length).run P w = .ok ds.toList.toArray w :=
  run_loadCells_list (P := P) w ⟨g, off, none⟩ ds.toList (fun j v hv => by
   have hadd : (⟨g, off, none⟩ : Addr).add j = ⟨g, off + j, none⟩ := by unfold Addr.add; split <;> simp_all
   rw [hadd, cell_of_row w g (off + j) cs t fr hg]
   exact hc j v (by simpa using hv))
 cases hq : P.info? ty with
 | none => simp [hq] at hi
 | some i =>
  have hs : i.size = ds.size := by simpa [hq] using hi
  have hagg : (isAgg ty).run P w = .ok true w := by
   unfold isAgg
   rw [Sem.run_bind, run_underlying hu w]
   cases d <;> simp_all
  simp only [Array.length_toList, Array.toArray_toList] at hl
  simp [loadVar, Sem.run_bind, hagg, sizeOf, typeInfo, hq, hs, hl]
theorem doc_part (o : Cm) (lv : Value) (j : Nat) (v : Value) (h : (o.doc.vs lv)[j]? = some v) : (o.vs lv)[13 + j]? = some v := by
 have hj : j < 9 := (Array.getElem?_eq_some_iff.1 h).1
 match j, hj with
 | 0, _ => exact h
 | 1, _ => exact h
 | 2, _ => exact h
 | 3, _ => exact h
 | 4, _ => exact h
 | 5, _ => exact h
 | 6, _ => exact h
 | 7, _ => exact h
 | 8, _ => exact h
 | n + 9, h => omega
set_option maxRecDepth 100000 in
theorem dm_info (o : Dm) (lv : Value) : (Try.prog.info? 25).map (·.size) = some (o.vs lv).size := by
 rw [show (o.vs lv).size = 9 from rfl]; kernel_rfl
set_option maxRecDepth 100000 in
theorem ln_info (o : Ln) : (Try.prog.info? 55).map (·.size) = some o.vs.size := by
 rw [show o.vs.size = 9 from rfl]; kernel_rfl
/-- the document's part of a command's box -/
theorem exec_load_doc13 {w : World} {b : Nat} {o : Cm} {lv : Value} {op : Oper} {ρ : Operand → Value} {x : Operand} (ho : op.op = .load 25 x) (hx : ρ x = .pointer (some ⟨b, 13, none⟩)) (h : CBlk w b o lv) : (execOp ρ op).run Try.prog w = .ok (.value (.agg (o.doc.vs lv))) w := by
 have hr : (Instr.loadAt 25 (.pointer (some ⟨b, 13, none⟩))).run Try.prog w = .ok (.agg (o.doc.vs lv)) w := by
  simp only [Instr.loadAt, Instr.sureAddr, Sem.run_bind, Sem.run_pure, Result.andThen_ok, run_loadVar_part w b 13 53 25 (o.vs lv) (o.doc.vs lv) (0, 0) _ h (doc_part o lv) Try.underlying25 rfl (dm_info _ _)]
 unfold execOp; simp only [ho, hx]; simp [hr]
theorem exec_load_line {w : World} {b : Nat} {o : Ln} {op : Oper} {ρ : Operand → Value} {x : Operand} (ho : op.op = .load 55 x) (hx : ρ x = .pointer (some ⟨b, 0, none⟩)) (h : w.heap[b]? = some (.cells o.vs 55 (0, 0))) : (execOp ρ op).run Try.prog w = .ok (.value (.agg o.vs)) w := by
 have hr : (Instr.loadAt 55 (.pointer (some ⟨b, 0, none⟩))).run Try.prog w = .ok (.agg o.vs) w := by
  simp only [Instr.loadAt, Instr.sureAddr, Sem.run_bind, Sem.run_pure, Result.andThen_ok, run_loadVar_row w b 55 55 o.vs (0, 0) _ h Try.underlying55 rfl (ln_info _)]
 unfold execOp; simp only [ho, hx]; simp [hr]
/-- the box of what was decoded, and the bytes of the year's closing -/
structure LV (W : World) (b : Nat) (lv r : Value) : Prop where
 bx : CBlk W b simC lv
 ln : Lns W W.heap.size lv simC.doc.ls
 yr : Byt W W.heap.size r [1, 11, 2, 7, 232]
theorem LV.below {W W' : World} {b : Nat} {lv r : Value} (h : LV W b lv r) (k : Below W.heap.size W W') : LV W' b lv r :=
 ⟨(k.block b (lt_of_blk h.bx)).trans h.bx, (h.ln.below k).more k.size, (h.yr.below k).heap⟩
set_option maxRecDepth 100000 in
set_option maxHeartbeats 8000000 in
theorem lives8_any (w : World) : Calls Try.prog 25 #[] w fun e w' => e = .returned (.bool true) ∧ Below w.heap.size w w' := by
  have hyr := fun W : World => encode_good (w := W) (B := 0) (v := .agg (yrC.vs (.slice none 0 0))) (c := yrC) ⟨_, rfl, Lns.nil_ _ _, yrC_ok⟩ (Nat.zero_le _) (by decide) yr_good
  simp only [yr_enc] at hyr
  simp only [yrC, Cm.zero, Dm.zero, Cm.vs] at hyr
  have HYR := Lib.hid hyr
  clear hyr
  go_enter Try.func25, Try.ntmps25
  go_upto_region 2 with (go_at_call 31; (with_reducible refine (HYR.out _).mono ?_); rintro e w1 ⟨r1, rfl, hor, hb1⟩; have HR1 := Lib.hid hor.byt; have HB1 := Lib.hid hb1; clear hor hb1)
  have hsim := simple_any w1
  unfold SimplePost at hsim
  go_upto_region 3 with (first
    | (go_at_call 38; (with_reducible refine hsim.mono ?_); rintro e w2 ⟨b, rfl, hln, hb2⟩
       have HB2 := Lib.hid hb2
       have hen := encode_good (v := .agg (simC.vs (.slice (some ⟨b, 0, none⟩) 1 1))) (c := simC) ⟨_, rfl, simD_lns hln, simC_ok⟩ (Nat.le_refl _) (by decide) sim_good
       generalize simC.vs (.slice (some ⟨b, 0, none⟩) 1 1) = VS at hen ⊢
       clear hln hb2 hsim)
    | (go_at_call 31; (with_reducible refine hen.mono ?_); rintro e w3 ⟨r3, rfl, hor, hb3⟩; have HR3 := Lib.hid hor.byt; have HB3 := Lib.hid (HB2.out.trans (hb3.mono HB2.out.size)); clear hor hb3 hen))
  have hde := decode_good HR3.out (Nat.le_refl _) sim_good
  go_upto_region 4 with (first
    | (go_at_call 33; (with_reducible refine hde.mono ?_); rintro e w4 ⟨lv, rfl, how, _, hb4⟩
       have HB4 := Lib.hid (HB3.out.trans (hb4.mono HB3.out.size))
       obtain ⟨A1, c1, rfl, _, _⟩ := how.sl.form
       have HLN := Lib.hid (how.sl.lns simC_ok.doc.ls)
       have HNB := Lib.hid (fun e => (how.lt w4.heap.size e).2)
       clear how hb4 hde
       generalize hV : simC.vs (.slice A1 simC.doc.ls.length c1) = VD
       have HV := Lib.hid hV
       have HV1 := Lib.hid (show VD.all (·.oneCell') = true by rw [← hV]; exact cm_one _ _ _ _)
       have HV2 := Lib.hid (show VD.size = 22 by rw [← hV]; rfl)
       have HVI := Lib.hid (show (Try.prog.info? 53).map (·.size) = some VD.size by rw [HV2.out, cm_info])
       clear hV)
    | ((with_reducible show wpList _ _ _ (⟨none, .store _ _ _, _, _, _, _⟩ :: _) _ _); go_must (refine wpList_store_row rfl 53 (.tmp 5) (.tmp 21) rfl w4.heap.size VD rfl rfl 53 _ (heap_alloc_new w4 _) HVI.out (by rw [HV2.out]; rfl) HV1.out ?_)))
  rw [zero_vs]
  have hal := (Below.refl w4.heap.size w4).alloc (Nat.le_refl _) (.cells (Cm.zero.vs (.slice none 0 0)) 53)
  have hbk0 : Blk (w4.alloc (.cells (Cm.zero.vs (.slice none 0 0)) 53)) w4.heap.size (Cm.zero.vs (.slice none 0 0)) 53 := heap_alloc_new w4 _
  have hkr := (hbk0.row VD).2
  have hbl : Below w4.heap.size w4 ((w4.alloc (.cells (Cm.zero.vs (.slice none 0 0)) 53)).setRow w4.heap.size VD) := hal.trans (hkr.toBelow hal.size fun b hb => by omega)
  have HLV := Lib.hid (show LV ((w4.alloc (.cells (Cm.zero.vs (.slice none 0 0)) 53)).setRow w4.heap.size VD) w4.heap.size (.slice A1 simC.doc.ls.length c1) r1 from
    ⟨by unfold CBlk; rw [HV.out]; exact (hbk0.row VD).1, (HLN.out.below hbl).more hbl.size, ((HR1.out.below HB4.out).below (hbl.mono HB4.out.size)).heap⟩)
  have HB5 := Lib.hid ((HB1.out.trans (HB4.out.mono HB1.out.size)).trans (hbl.mono (Nat.le_trans HB1.out.size HB4.out.size)))
  clear hal hbk0 hkr hbl HB1 HB2 HB3 HB4 HR1 HR3 HLN HNB HYR
  generalize w4.heap.size = b5 at *
  generalize World.setRow _ _ _ = w5 at HLV HB5 ⊢
  generalize r1 = r1 at *
  have HX := Lib.hid (fun W (hW : Below w5.heap.size w5 W) => HLV.out.below hW)
  refine wp_region_sp (by kernel_rfl) [isS r1, isS (.string ⟨#[1, 11, 2, 7, 232]⟩), isS (.bool true), isS (.bool true), isS (.int .i64 0), isS (.bool true), isS (.bool true), isS (.bool true), isS (.int .i64 0), isS (.bool true), isS (.bool true), isS (.bool true), isS (.int .i64 0), isS (.bool true), isS (.bool true), isS (.bool true), isS (.agg VD), cmS simC, isS (.bool true), isS (.bool true), isS (.bool true)] (by kernel_rfl) (by kernel_rfl) (fun q hq => ?_) (fun a w6 hc hs => ?_)
  · match q, hq with
    | 0, _ =>
      intro a W hc hd
      have z1 := hc.same 1 (by kernel_rfl)
      simp only [List.getElem?_toArray, List.getElem?_cons_succ, List.getElem?_cons_zero, Option.getD_some] at z1
      refine obl_val rfl (wanted_none rfl) ?_ rfl
      go_simp
    | 1, _ =>
      intro a W hc hd
      have s0 : a.tmps[23]?.getD undef = r1 := hd 0 (by kernel_rfl)
      have hcv := ((HX.out W ((Below.refl w5.heap.size w5).drew.trans hc.below)).yr).str
      refine obl_val rfl (wanted_none rfl) ?_ rfl
      go_simp
    | 2, _ =>
      intro a W hc hd
      have s1 : a.tmps[24]?.getD undef = (.string ⟨#[1, 11, 2, 7, 232]⟩) := hd 1 (by kernel_rfl)
      refine obl_val rfl (wanted_none rfl) ?_ rfl
      go_simp
    | 3, _ =>
      intro a W hc hd
      have s2 : a.tmps[25]?.getD undef = (.bool true) := hd 2 (by kernel_rfl)
      refine obl_val rfl (wanted_none rfl) ?_ rfl
      go_simp
    | 4, _ =>
      intro a W hc hd
      have z2 := hc.same 2 (by kernel_rfl)
      have s3 : a.tmps[26]?.getD undef = (.bool true) := hd 3 (by kernel_rfl)
      simp only [List.getElem?_toArray, List.getElem?_cons_succ, List.getElem?_cons_zero, Option.getD_some] at z2
      refine obl_val rfl (wanted_some rfl rfl s3) ?_ rfl
      go_simp
    | 5, _ =>
      intro a W hc hd
      have s4 : a.tmps[27]?.getD undef = (.int .i64 0) := hd 4 (by kernel_rfl)
      have s3 : a.tmps[26]?.getD undef = (.bool true) := hd 3 (by kernel_rfl)
      refine obl_val rfl (wanted_some rfl rfl s3) ?_ rfl
      go_simp
    | 6, _ =>
      intro a W hc hd
      have s3 : a.tmps[26]?.getD undef = (.bool true) := hd 3 (by kernel_rfl)
      have s5 : a.tmps[28]?.getD undef = (.bool true) := hd 5 (by kernel_rfl)
      refine obl_val rfl (wanted_none rfl) ?_ rfl
      go_simp
    | 7, _ =>
      intro a W hc hd
      have s6 : a.tmps[29]?.getD undef = (.bool true) := hd 6 (by kernel_rfl)
      refine obl_val rfl (wanted_none rfl) ?_ rfl
      go_simp
    | 8, _ =>
      intro a W hc hd
      have z4 := hc.same 4 (by kernel_rfl)
      have s7 : a.tmps[30]?.getD undef = (.bool true) := hd 7 (by kernel_rfl)
      simp only [List.getElem?_toArray, List.getElem?_cons_succ, List.getElem?_cons_zero, Option.getD_some] at z4
      refine obl_val rfl (wanted_some rfl rfl s7) ?_ rfl
      go_simp
    | 9, _ =>
      intro a W hc hd
      have s8 : a.tmps[31]?.getD undef = (.int .i64 0) := hd 8 (by kernel_rfl)
      have s7 : a.tmps[30]?.getD undef = (.bool true) := hd 7 (by kernel_rfl)
      refine obl_val rfl (wanted_some rfl rfl s7) ?_ rfl
      go_simp
    | 10, _ =>
      intro a W hc hd
      have s7 : a.tmps[30]?.getD undef = (.bool true) := hd 7 (by kernel_rfl)
      have s9 : a.tmps[32]?.getD undef = (.bool true) := hd 9 (by kernel_rfl)
      refine obl_val rfl (wanted_none rfl) ?_ rfl
      go_simp
    | 11, _ =>
      intro a W hc hd
      have s10 : a.tmps[33]?.getD undef = (.bool true) := hd 10 (by kernel_rfl)
      refine obl_val rfl (wanted_none rfl) ?_ rfl
      go_simp
    | 12, _ =>
      intro a W hc hd
      have z6 := hc.same 6 (by kernel_rfl)
      have s11 : a.tmps[34]?.getD undef = (.bool true) := hd 11 (by kernel_rfl)
      simp only [List.getElem?_toArray, List.getElem?_cons_succ, List.getElem?_cons_zero, Option.getD_some] at z6
      refine obl_val rfl (wanted_some rfl rfl s11) ?_ rfl
      go_simp
    | 13, _ =>
      intro a W hc hd
      have s12 : a.tmps[35]?.getD undef = (.int .i64 0) := hd 12 (by kernel_rfl)
      have s11 : a.tmps[34]?.getD undef = (.bool true) := hd 11 (by kernel_rfl)
      refine obl_val rfl (wanted_some rfl rfl s11) ?_ rfl
      go_simp
    | 14, _ =>
      intro a W hc hd
      have s11 : a.tmps[34]?.getD undef = (.bool true) := hd 11 (by kernel_rfl)
      have s13 : a.tmps[36]?.getD undef = (.bool true) := hd 13 (by kernel_rfl)
      refine obl_val rfl (wanted_none rfl) ?_ rfl
      go_simp
    | 15, _ =>
      intro a W hc hd
      have s14 : a.tmps[37]?.getD undef = (.bool true) := hd 14 (by kernel_rfl)
      refine obl_val rfl (wanted_none rfl) ?_ rfl
      go_simp
    | 16, _ =>
      intro a W hc hd
      have z5 := hc.same 5 (by kernel_rfl)
      have s15 : a.tmps[38]?.getD undef = (.bool true) := hd 15 (by kernel_rfl)
      simp only [List.getElem?_toArray, List.getElem?_cons_succ, List.getElem?_cons_zero, Option.getD_some] at z5
      refine obl_val rfl (wanted_some rfl rfl s15) ?_ rfl
      rw [← HV.out]
      exact exec_load_cmd rfl (eval_tmp z5) (HX.out W ((Below.refl w5.heap.size w5).drew.trans hc.below)).bx
    | 17, _ =>
      intro a W hc hd
      have s15 : a.tmps[38]?.getD undef = (.bool true) := hd 15 (by kernel_rfl)
      refine obl_call rfl (wanted_some rfl rfl s15) (by go_simp) (simple_any W) ?_
      rintro e w9 ⟨b, rfl, hl, hb9⟩
      exact ⟨_, rfl, ⟨_, rfl, simD_lns hl, simC_ok⟩, hb9⟩
    | 18, _ =>
      intro a W hc hd
      have s16 : a.tmps[39]?.getD undef = (.agg VD) := hd 16 (by kernel_rfl)
      have s17 : (cmS simC).f (a.tmps[40]?.getD undef) W := hd 17 (by kernel_rfl)
      have s15 : a.tmps[38]?.getD undef = (.bool true) := hd 15 (by kernel_rfl)
      obtain ⟨lv9, e9, hl9, _⟩ := s17
      have hsm := rcsame_any (w := W) (va := .agg VD) (vb := .agg (simC.vs lv9)) (a := simC) (b := simC) ⟨_, by rw [← HV.out], (HX.out W ((Below.refl w5.heap.size w5).drew.trans hc.below)).ln, simC_ok⟩ (Nat.le_refl _) ⟨lv9, rfl, hl9, simC_ok⟩ (Nat.le_refl _) (by decide)
      rw [decide_eq_true rfl] at hsm
      generalize simC.vs lv9 = V9 at *
      refine obl_call rfl (wanted_some rfl rfl s15) (by go_simp) hsm ?_
      rintro e w9 ⟨rfl, hb9⟩
      exact ⟨_, rfl, rfl, hb9⟩
    | 19, _ =>
      intro a W hc hd
      have s15 : a.tmps[38]?.getD undef = (.bool true) := hd 15 (by kernel_rfl)
      have s18 : a.tmps[41]?.getD undef = (.bool true) := hd 18 (by kernel_rfl)
      refine obl_val rfl (wanted_none rfl) ?_ rfl
      go_simp
    | 20, _ =>
      intro a W hc hd
      have s19 : a.tmps[42]?.getD undef = (.bool true) := hd 19 (by kernel_rfl)
      refine obl_val rfl (wanted_none rfl) ?_ rfl
      go_simp
    | n + 21, h => exact absurd h (by simp)
  · skip
    have hfr := grow_frame hc [(23, r1), (24, (.string ⟨#[1, 11, 2, 7, 232]⟩)), (25, (.bool true)), (26, (.bool true)), (27, (.int .i64 0)), (28, (.bool true)), (29, (.bool true)), (30, (.bool true)), (31, (.int .i64 0)), (32, (.bool true)), (33, (.bool true)), (34, (.bool true)), (35, (.int .i64 0)), (36, (.bool true)), (37, (.bool true)), (38, (.bool true)), (39, (.agg VD)), (40, a.tmps[40]?.getD undef), (41, (.bool true)), (42, (.bool true)), (0, (.bool true))] (by kernel_rfl) (fun p hp => by
        simp only [List.mem_cons, List.not_mem_nil, or_false] at hp
        rcases hp with rfl | rfl | rfl | rfl | rfl | rfl | rfl | rfl | rfl | rfl | rfl | rfl | rfl | rfl | rfl | rfl | rfl | rfl | rfl | rfl | rfl
        · exact hs 0 23 (by decide) (by kernel_rfl)
        · exact hs 1 24 (by decide) (by kernel_rfl)
        · exact hs 2 25 (by decide) (by kernel_rfl)
        · exact hs 3 26 (by decide) (by kernel_rfl)
        · exact hs 4 27 (by decide) (by kernel_rfl)
        · exact hs 5 28 (by decide) (by kernel_rfl)
        · exact hs 6 29 (by decide) (by kernel_rfl)
        · exact hs 7 30 (by decide) (by kernel_rfl)
        · exact hs 8 31 (by decide) (by kernel_rfl)
        · exact hs 9 32 (by decide) (by kernel_rfl)
        · exact hs 10 33 (by decide) (by kernel_rfl)
        · exact hs 11 34 (by decide) (by kernel_rfl)
        · exact hs 12 35 (by decide) (by kernel_rfl)
        · exact hs 13 36 (by decide) (by kernel_rfl)
        · exact hs 14 37 (by decide) (by kernel_rfl)
        · exact hs 15 38 (by decide) (by kernel_rfl)
        · exact hs 16 39 (by decide) (by kernel_rfl)
        · rfl
        · exact hs 18 41 (by decide) (by kernel_rfl)
        · exact hs 19 42 (by decide) (by kernel_rfl)
        · exact hs 20 0 (by decide) (by kernel_rfl)
        )
    generalize a.tmps[40]?.getD undef = z40 at hfr
    simp only [List.range, List.range.loop, List.size_toArray, List.length_cons, List.length_nil, List.map_cons, List.map_nil, List.lookup_cons, List.lookup_nil, Nat.reduceAdd, Nat.reduceBEq, Option.getD_some, Option.getD_none, List.getElem?_toArray, List.getElem?_cons_succ, List.getElem?_cons_zero] at hfr
    subst hfr
    have hb3 := HB5.out.trans (((Below.refl w5.heap.size w5).drew.trans hc.below).mono HB5.out.size)
    clear hc hs
    go_wp2
    go_ret
    exact ⟨rfl, hb3⟩
def LawPost8 (w : World) (e : Ending) (w' : World) : Prop := e = .returned (.bool true) ∧ Below w.heap.size w w'
/-- a command in its box -/
structure LE1 (W : World) (b1 : Nat) (c : Cm) (lv : Value) : Prop where
 bx : CBlk W b1 c lv
 ln : Lns W W.heap.size lv c.doc.ls
theorem LE1.below {W W' : World} {b1 : Nat} {c : Cm} {lv : Value} (h : LE1 W b1 c lv) (k : Below W.heap.size W W') : LE1 W' b1 c lv :=
 ⟨(k.block b1 (lt_of_blk h.bx)).trans h.bx, (h.ln.below k).more k.size⟩
theorem LE1.val {W : World} {b1 : Nat} {c : Cm} {lv : Value} {V : Array Value} (h : LE1 W b1 c lv) (hV : c.vs lv = V) (hok : c.ok) : CmV W W.heap.size (.agg V) c := ⟨lv, by rw [hV], h.ln, hok⟩
/-- a command is stored into a new box -/
theorem LE1.box {w : World} {c : Cm} {lv : Value} (h : Lns w w.heap.size lv c.doc.ls) : LE1 ((w.alloc (.cells (Cm.zero.vs (.slice none 0 0)) 53)).setRow w.heap.size (c.vs lv)) w.heap.size c lv ∧ Below w.heap.size w ((w.alloc (.cells (Cm.zero.vs (.slice none 0 0)) 53)).setRow w.heap.size (c.vs lv)) := by
 have hal := (Below.refl w.heap.size w).alloc (Nat.le_refl _) (.cells (Cm.zero.vs (.slice none 0 0)) 53)
 have hbk0 : Blk (w.alloc (.cells (Cm.zero.vs (.slice none 0 0)) 53)) w.heap.size (Cm.zero.vs (.slice none 0 0)) 53 := heap_alloc_new w _
 have hkr := (hbk0.row (c.vs lv)).2
 have hbl : Below w.heap.size w ((w.alloc (.cells (Cm.zero.vs (.slice none 0 0)) 53)).setRow w.heap.size (c.vs lv)) := hal.trans (hkr.toBelow hal.size fun b hb => by omega)
 exact ⟨⟨(hbk0.row (c.vs lv)).1, (h.below hbl).more hbl.size⟩, hbl⟩
end Go.Proofs.Ytnfpmobmfcgfnaa

