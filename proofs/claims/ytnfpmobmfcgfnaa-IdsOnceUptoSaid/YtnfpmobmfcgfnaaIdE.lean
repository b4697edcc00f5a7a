/- THE WALK OF ids.Put (printed by gen/genide.py). -/
import Derived.Test.YtnfpmobmfcgfnaaIdD
import Derived.Test.YtnfpmobmfcgfnaaGrR
import Derived.StillTailTactics
namespace Go.Proofs.Ytnfpmobmfcgfnaa
open Go.RowKit
theorem DBlk.set8 {w : World} {b : Nat} {o : Dm} {lv : Value} (h : DBlk w b o lv) (lv' : Value) : DBlk (w.setCell ⟨b, 8, none⟩ lv') b o lv' ∧ Kept (fun x => x ≠ b) w (w.setCell ⟨b, 8, none⟩ lv') := by
  unfold DBlk Dm.vs at *
  have s8 := Lib.heap_setCell_same (i := 8) h lv'
  exact ⟨by simpa using s8, (Kept.refl _ w).setCell _ _ (fun _ h => h rfl)⟩
def PutPost (docs : List Dm) (d : Dm) (base g : Nat) (Z : Nat → Prop) (w : World) (e : Ending) (w' : World) : Prop :=
  ∃ Z', e = .returned (.int .i64 (checkD docs d)) ∧ St w' base g Z' (if checkD docs d = 0 then docs ++ [d] else docs) ∧ (∀ b, Z' b → Z b ∨ w.heap.size ≤ b) ∧ Kept (fun b => ¬ Z b) w w'
theorem check_zero {docs : List Dm} {d : Dm} (h : checkD docs d = 0) : findD docs d.id.data.toList = none := by
  unfold checkD at h
  by_cases hg : goodDocB d = false
  · rw [if_pos hg] at h; cases h
  · rw [if_neg hg] at h
    cases hf : findD docs d.id.data.toList with
    | none => rfl
    | some o => rw [hf] at h; simp at h
/-- a literal of one text, apart from a row -/
def litS (lo : Nat) (y : Value) (id : ByteArray) : Sp := ⟨fun x w => ∃ b, x = .slice (some ⟨b, 0, none⟩) 1 1 ∧ w.heap[b]? = some (.cells #[.string id] 9 (0, 0)) ∧ lo ≤ b ∧ y.ownBlock ≠ some b, fun _ _ _ h hb => by
  obtain ⟨b, e, h1, h2⟩ := h
  exact ⟨b, e, (hb.block b (lt_of_blk h1)).trans h1, h2⟩⟩
/-- the row, and one more behind it -/
def appS (lo base : Nat) (y : Value) (l : List ByteArray) : Sp := ⟨fun x w => Ow strK w base x l ∧ (x.ownBlock = y.ownBlock ∨ ∃ k, x.ownBlock = some k ∧ lo ≤ k), fun _ _ _ h hb => ⟨h.1.below hb, h.2⟩⟩
theorem obl_app {P : Program} {ops : Array Oper} {Q : Exit → Act → World → Prop} {i : Nat} {o : Oper} {a : Act} {w w8 : World} {v y v8 : Value} {T : TypeId} {K : Act → World → Prop} (ho : ops[i]? = some o) (hw : Region.wanted o (yielded ops a.tmps) = true) (s x : Operand)
    (hop : o.op = .call { callee := .builtin .append, args := #[s, x], argTypes := #[T, T] }) (hs : a.eval s = v) (hx : a.eval x = y) (hrun : (Builtin.append_ #[T, T] o.type #[v, y]).run P w = .ok v8 w8) (hK : K (a.put (dstOf ops i) v8) w8) : wpOp P ops Q i K a w := by
  unfold wpOp
  simp only [ho, hw, if_true]
  refine .inl ?_
  have hd : dstOf ops i = o.dst := by unfold dstOf; rw [ho]; rfl
  rw [hd] at hK
  unfold Oper.wp execOp
  simp only [hop, resolve, invoke, builtin, Sem.run_bind, Sem.run_pure, Result.andThen_ok, List.map_toArray, List.map_cons, List.map_nil, hs, hx, hrun]
  exact hK
theorem lit_sl {w : World} {b : Nat} {id : ByteArray} (h : w.heap[b]? = some (.cells #[.string id] 9 (0, 0))) : Sl strK w w.heap.size (.slice (some ⟨b, 0, none⟩) 1 1) [id] :=
  ⟨_, 1, rfl, Nat.le_refl _, by simp [maxLen], fun _ => ⟨_, rfl, lt_of_blk h, fun j x hj => by
    match j, hj with
    | 0, hj => cases hj; exact cells_of h 0 _ rfl
    | n + 1, hj => simp at hj⟩⟩
set_option maxRecDepth 100000 in
set_option maxHeartbeats 8000000 in
theorem idsput_any {w : World} {base g : Nat} {Z : Nat → Prop} {docs : List Dm} (h : St w base g Z docs) {B : Nat} {v : Value} {d : Dm} (hv : DmV w B v d) (hB : B ≤ w.heap.size) (hlim : d.lim) (hl : docs.length ≤ 1000000) :
    Calls Try.prog 13 #[.pointer (some ⟨g, 0, none⟩), v] w (PutPost docs d base g Z w) := by
  obtain ⟨lv, rfl, hls, hd⟩ := hv
  have hb1 := (Below.refl w.heap.size w).alloc (Nat.le_refl _) (.cells (d.vs lv) 25)
  have hgd : DBlk (w.alloc (.cells (d.vs lv) 25)) w.heap.size d lv := heap_alloc_new w (.cells (d.vs lv) 25 (0, 0))
  have hchk := idscheck_any (h.below hb1) (B := w.heap.size) (v := .agg (d.vs lv)) (d := d) ⟨lv, rfl, (hls.more hB).below hb1, hd⟩ hb1.size hlim
  by_cases h0 : checkD docs d = 0
  case neg =>
    have e2 : (checkD docs d == 0) = false := by rw [beq_eq_false_iff_ne]; exact h0
    have e3 : (checkD docs d != 0) = true := by simp [e2, bne]
    unfold PutPost
    rw [if_neg h0]
    generalize checkD docs d = C at *
    have H := Lib.hid h
    have HB1 := Lib.hid hb1
    clear h hb1 hgd hls hd h0 hlim
    obtain ⟨id, sale, cred, ref, day, cty, num, cur, ls⟩ := d
    simp only [Dm.vs] at *
    go_enter Try.func13, Try.ntmps13
    go_wp2_with (go_at_call 18; (with_reducible refine hchk.mono ?_); rintro e w2 ⟨rfl, hb2⟩)
    go_ret
    have hbb := HB1.out.trans (hb2.mono HB1.out.size)
    exact ⟨Z, rfl, H.out.below hbb, fun b hb => .inl hb, Kept.ofBelow hbb⟩
  have hfn := check_zero h0
  unfold PutPost
  rw [if_pos h0]
  rw [h0] at hchk ⊢
  have hlns := fun W (hW : Below w.heap.size w W) => hls.below (hW.mono hB)
  have hcl := fun W (hW : Below w.heap.size w W) => cloneL_any (hlns W hW) (Nat.le_trans hB hW.size) (Nat.le_trans hlim.ls (by decide))
  have hidz := hd.id
  have hrfz := hd.ref
  have H := Lib.hid h
  have HFN := Lib.hid hfn
  have HCL := Lib.hid hcl
  have HGD := Lib.hid hgd
  have HB1 := Lib.hid hb1
  have HOKD := Lib.hid hd
  generalize hdd : d = dd at HFN HGD HOKD H ⊢
  have HDD := Lib.hid hdd
  clear h hfn hcl hgd hb1 hls hd hdd hlns h0 hlim
  obtain ⟨id, sale, cred, ref, day, cty, num, cur, ls⟩ := d
  simp only [Dm.vs] at hchk HCL hidz hrfz ⊢
  have HIZ := Lib.hid hidz
  have HRZ := Lib.hid hrfz
  clear hidz hrfz
  have hdd := HDD.out
  subst hdd
  simp only [Dm.vs] at HB1
  go_enter Try.func13, Try.ntmps13
  go_upto_region 4 with (go_at_call 18; (with_reducible refine hchk.mono ?_); rintro e w2 ⟨rfl, hb2⟩)
  have hbb2 := HB1.out.trans (hb2.mono HB1.out.size)
  have hgd2 := HGD.out.below hb2
  have HB2 := Lib.hid hbb2
  have HG2 := Lib.hid hgd2
  obtain ⟨y0, y1, y2, y3, y4, y5, y6, y7, y8⟩ := hgd2.box
  simp only at y0 y1 y2 y3 y4 y5 y6 y7 y8
  have hcl := HCL.out w2 hbb2
  clear hb2 hbb2 hgd2 hchk
  go_upto_region 5 with (go_at_call 39; (with_reducible refine hcl.mono ?_); rintro e w3 ⟨v3, rfl, ho3, hb3⟩; obtain ⟨A3, c3, rfl, _, _⟩ := ho3.sl.form; have hg3 := HG2.out.below hb3; obtain ⟨y0, y1, y2, y3, y4, y5, y6, y7, y8⟩ := hg3.box; obtain ⟨k0, k1, k2, k3, k4, k5, k6, k7, k8⟩ := hg3.free; simp only at y0 y1 y2 y3 y4 y5 y6 y7 y8)
  obtain ⟨hg4, hk4⟩ := hg3.set8 (.slice A3 ls.length c3)
  have hbb3 := HB2.out.trans (hb3.mono HB2.out.size)
  have hb4 : Below w.heap.size w (w3.setCell ⟨w.heap.size, 8, none⟩ (.slice A3 ls.length c3)) := hbb3.trans (hk4.toBelow (B := w.heap.size) hbb3.size (fun b hb => by omega))
  have ho4 := (ho3.kept hk4 (fun b hb e => by obtain ⟨cs, hh⟩ := ho3.kind b hb; exact kind_ne hh hg3 (by decide) e)).more (base' := w.heap.size) HB2.out.size
  clear hcl y0 y1 y2 y3 y4 y5 y6 y7 y8 k0 k1 k2 k3 k4 k5 k6 k7 k8 hk4 hbb3 hb3 ho3 hg3 HG2 HB2
  generalize World.setCell w3 ⟨w.heap.size, 8, none⟩ (.slice A3 ls.length c3) = w4 at *
  have hbd : Below w4.heap.size w4 w4.drew := (Below.refl _ _).drew
  have hb5 := hb4.trans (hbd.mono hb4.size)
  have hg5 := hg4.below hbd
  have ho5 := ho4.below hbd
  obtain ⟨bd, bc, nc, m, fd, fc, hr⟩ := (H.out.below hb5).ex
  have hr4 : w4.cell? ⟨g, 0, none⟩ = some (.map (some bd)) := cells_of ((hbd.block g (by have := lt_of_blk hr.hd; simpa using this)).symm.trans hr.hd) 0 _ rfl
  obtain ⟨w6, hup, hm6, hg6⟩ := hr.md.update (t := 45) (e := 25) Try.underlying45 (by unfold maxLen; omega) id HIZ.out (.agg #[.string id, .bool sale, .bool cred, .string ref, .int .i64 day, .string cty, .string num, .string cur, .slice A3 ls.length c3])
  obtain ⟨y0, y1, y2, y3, y4, y5, y6, y7, y8⟩ := hg4.box
  simp only at y0 y1 y2 y3 y4 y5 y6 y7 y8
  have HR := Lib.hid hr
  have HB5 := Lib.hid hb5
  have HG5 := Lib.hid hg5
  have HO5 := Lib.hid ho5
  have HM6 := Lib.hid hm6
  have HG6 := Lib.hid hg6
  clear hbd hb5 hg5 ho5 hr hm6 hg6 hb4 hg4 ho4
  go_still_tail 7, (by kernel_rfl)
  change wpList _ _ _ _ _ w4.drew
  generalize w4.drew = w5 at *
  clear y0 y1 y2 y3 y4 y5 y6 y7 y8 hr4
  have hfd : fd id.data.toList = none := (HR.out.dk _).1 HFN.out
  have hm6 := HM6.out
  rw [hfd] at hm6
  simp only [Option.isSome_none, Bool.false_eq_true, if_false] at hm6
  have hbase : base ≤ w.heap.size := Nat.le_trans H.out.g0 (by obtain ⟨_, _, _, _, _, _, q⟩ := H.out.ex; exact Nat.le_of_lt (lt_of_blk q.hd))
  have hr6 := Raw.docPut (d := ⟨id, sale, cred, ref, day, cty, num, cur, ls⟩) (t := (A3, ls.length, c3)) HR.out HFN.out hm6 HG6.out (HO5.out.more hbase)
  have hkk : Kept (fun b => some bd ≠ some b) w5 w6 := (Kept.refl _ w5).grown HG6.out (fun k hk _ hS => hS hk)
  have hk6 : Kept (fun b => ¬ Z b) w w6 := (Kept.ofBelow HB5.out).trans hkk (fun b _ hz => fun e => by injection e with e; exact hz (e ▸ HR.out.zd))
  have hg6 : DBlk w6 w.heap.size ⟨id, sale, cred, ref, day, cty, num, cur, ls⟩ (.slice A3 ls.length c3) := hkk.heap HG5.out (fun e => by injection e with e; exact cells_ne_map HG5.out HR.out.md.kind e.symm)
  have hz6 : ∀ b, Z b → KindS w6 b := fun b hz => ((H.out.below HB5.out).kd b hz).grownMap HG6.out hm6.kind
  have HR6 := Lib.hid hr6
  have HK6 := Lib.hid hk6
  have HD6 := Lib.hid hg6
  have HZ6 := Lib.hid hz6
  have hok' : ∀ o ∈ docs ++ [(⟨id, sale, cred, ref, day, cty, num, cur, ls⟩ : Dm)], o.ok := fun o ho => by
    rcases List.mem_append.1 ho with h | h
    · exact H.out.ok o h
    · rw [List.mem_singleton] at h; subst h; exact HOKD.out
  have HOK := Lib.hid hok'
  clear hfd hm6 hr6 hkk hk6 hg6 hz6 hok'
  obtain ⟨y0, y1, y2, y3, y4, y5, y6, y7, y8⟩ := HD6.out.box
  simp only at y0 y1 y2 y3 y4 y5 y6 y7 y8
  cases cred
  · go_wp2
    go_ret
    exact ⟨rfl, Z, ⟨⟨bd, bc, nc, m, _, fc, HR6.out.noCred rfl⟩, HZ6.out, H.out.lo, H.out.g0, HOK.out⟩, fun b hb => .inl hb, HK6.out⟩
  go_upto_region 7 with fail
  clear hup y0 y1 y2 y3 y4 y5 y6 y7 y8
  obtain ⟨y, hlk, hy, hyz, hyd⟩ := HR6.out.row ref HRZ.out
  have HLK := Lib.hid hlk
  have HY := Lib.hid hy
  have HYZ := Lib.hid hyz
  have HYD := Lib.hid hyd
  have hyk : ∀ b cs T, w6.heap[b]? = some (.cells cs T (0, 0)) → T ≠ 9 → y.ownBlock ≠ some b := fun b cs T hh hT e => by
    obtain ⟨cs', hh'⟩ := hy.kind' b e
    exact kind_ne hh hh' hT rfl
  have hym : y.ownBlock ≠ some bc := fun e => by
    obtain ⟨cs', hh'⟩ := hy.kind' bc e
    exact cells_ne_map hh' HR6.out.mc.kind rfl
  have hyl : ∀ b, y.ownBlock = some b → b < w6.heap.size := fun b e => by
    obtain ⟨cs', hh'⟩ := hy.kind' b e
    exact lt_of_blk hh'
  have HYL := Lib.hid hyl
  have HX := Lib.hid (fun W (hW : Kept (fun b => y.ownBlock ≠ some b) w6.drew W) => (show W.cell? ⟨g, 1, none⟩ = some (.map (some bc)) ∧ (Instr.lookup 46 (.map (some bc)) (.string ref) false).run Try.prog W = .ok y W ∧ DBlk W w.heap.size ⟨id, sale, true, ref, day, cty, num, cur, ls⟩ (.slice A3 ls.length c3) from
    ⟨cells_of (hW.heap HR6.out.hd (hyk g _ _ HR6.out.hd (by decide))) 1 (.map (some bc)) rfl, hlk W (hW.block bc HR6.out.mc.lt hym), hW.heap HD6.out (hyk _ _ _ HD6.out (by decide))⟩))
  clear hlk hy hyz hyd hyk hym hyl
  refine wp_region_oneE (S := fun b => y.ownBlock ≠ some b) 16 17 (by kernel_rfl) [isS (.pointer (some ⟨g, 0, none⟩)), isS (.pointer (some ⟨g, 0, none⟩)), isS (.pointer (some ⟨g, 1, none⟩)), isS (.map (some bc)), isS (.pointer (some ⟨w.heap.size, 3, none⟩)), isS (.string ref), isS (.pointer (some ⟨g, 0, none⟩)), isS (.pointer (some ⟨g, 0, none⟩)), isS (.pointer (some ⟨g, 1, none⟩)), isS (.map (some bc)), isS (.pointer (some ⟨w.heap.size, 3, none⟩)), isS (.string ref), isS y, isS (.pointer (some ⟨w.heap.size, 0, none⟩)), isS (.string id), litS w6.heap.size y id, appS w6.heap.size base y (credL docs ref.data.toList ++ [id])] (fun i v w w' hi h k => by
      match i, hi with
      | 0, _ => exact h
      | 1, _ => exact h
      | 2, _ => exact h
      | 3, _ => exact h
      | 4, _ => exact h
      | 5, _ => exact h
      | 6, _ => exact h
      | 7, _ => exact h
      | 8, _ => exact h
      | 9, _ => exact h
      | 10, _ => exact h
      | 11, _ => exact h
      | 12, _ => exact h
      | 13, _ => exact h
      | 14, _ => exact h
      | 15, _ => obtain ⟨b, e, h1, h2, h3⟩ := h; exact ⟨b, e, k.heap h1 h3, h2, h3⟩
      | 16, hi => exact absurd rfl hi
      | n + 17, _ => trivial) (by kernel_rfl) (by kernel_rfl) (by kernel_rfl) (by kernel_rfl) (by decide) (by kernel_rfl) (fun q hq hne => ?_) (fun _ a W hc hbel hd => ?_) (fun a w7 hc hs => ?_)
  · match q, hq, hne with
    | 0, _, _ =>
      intro a W hc hd
      have z0 := hc.same 0 (by kernel_rfl)
      simp only [List.getElem?_toArray, List.getElem?_cons_zero, Option.getD_some] at z0
      refine obl_val rfl (wanted_none rfl) ?_ rfl
      go_simp
    | 1, _, _ =>
      intro a W hc hd
      have s0 : a.tmps[25]?.getD undef = (.pointer (some ⟨g, 0, none⟩)) := hd 0 (by kernel_rfl)
      refine obl_val rfl (wanted_none rfl) ?_ rfl
      go_simp
    | 2, _, _ =>
      intro a W hc hd
      have s1 : a.tmps[26]?.getD undef = (.pointer (some ⟨g, 0, none⟩)) := hd 1 (by kernel_rfl)
      refine obl_val rfl (wanted_none rfl) ?_ rfl
      go_simp
    | 3, _, _ =>
      intro a W hc hd
      have s2 : a.tmps[27]?.getD undef = (.pointer (some ⟨g, 1, none⟩)) := hd 2 (by kernel_rfl)
      obtain ⟨q, _, _⟩ := HX.out W hc.kept
      refine obl_val rfl (wanted_none rfl) ?_ rfl
      go_simp
    | 4, _, _ =>
      intro a W hc hd
      have z3 := hc.same 3 (by kernel_rfl)
      simp only [List.getElem?_toArray, List.getElem?_cons_succ, List.getElem?_cons_zero, Option.getD_some] at z3
      refine obl_val rfl (wanted_none rfl) ?_ rfl
      go_simp
    | 5, _, _ =>
      intro a W hc hd
      have s4 : a.tmps[29]?.getD undef = (.pointer (some ⟨w.heap.size, 3, none⟩)) := hd 4 (by kernel_rfl)
      obtain ⟨_, _, hbx⟩ := HX.out W hc.kept
      obtain ⟨q0, q1, q2, q3, q4, q5, q6, q7, q8⟩ := hbx.box
      simp only at q0 q1 q2 q3 q4 q5 q6 q7 q8
      refine obl_val rfl (wanted_none rfl) ?_ rfl
      go_simp
    | 6, _, _ =>
      intro a W hc hd
      have z0 := hc.same 0 (by kernel_rfl)
      simp only [List.getElem?_toArray, List.getElem?_cons_zero, Option.getD_some] at z0
      refine obl_val rfl (wanted_none rfl) ?_ rfl
      go_simp
    | 7, _, _ =>
      intro a W hc hd
      have s6 : a.tmps[31]?.getD undef = (.pointer (some ⟨g, 0, none⟩)) := hd 6 (by kernel_rfl)
      refine obl_val rfl (wanted_none rfl) ?_ rfl
      go_simp
    | 8, _, _ =>
      intro a W hc hd
      have s7 : a.tmps[32]?.getD undef = (.pointer (some ⟨g, 0, none⟩)) := hd 7 (by kernel_rfl)
      refine obl_val rfl (wanted_none rfl) ?_ rfl
      go_simp
    | 9, _, _ =>
      intro a W hc hd
      have s8 : a.tmps[33]?.getD undef = (.pointer (some ⟨g, 1, none⟩)) := hd 8 (by kernel_rfl)
      obtain ⟨q, _, _⟩ := HX.out W hc.kept
      refine obl_val rfl (wanted_none rfl) ?_ rfl
      go_simp
    | 10, _, _ =>
      intro a W hc hd
      have z3 := hc.same 3 (by kernel_rfl)
      simp only [List.getElem?_toArray, List.getElem?_cons_succ, List.getElem?_cons_zero, Option.getD_some] at z3
      refine obl_val rfl (wanted_none rfl) ?_ rfl
      go_simp
    | 11, _, _ =>
      intro a W hc hd
      have s10 : a.tmps[35]?.getD undef = (.pointer (some ⟨w.heap.size, 3, none⟩)) := hd 10 (by kernel_rfl)
      obtain ⟨_, _, hbx⟩ := HX.out W hc.kept
      obtain ⟨q0, q1, q2, q3, q4, q5, q6, q7, q8⟩ := hbx.box
      simp only at q0 q1 q2 q3 q4 q5 q6 q7 q8
      refine obl_val rfl (wanted_none rfl) ?_ rfl
      go_simp
    | 12, _, _ =>
      intro a W hc hd
      have s9 : a.tmps[34]?.getD undef = (.map (some bc)) := hd 9 (by kernel_rfl)
      have s11 : a.tmps[36]?.getD undef = (.string ref) := hd 11 (by kernel_rfl)
      obtain ⟨_, q, _⟩ := HX.out W hc.kept
      refine obl_val rfl (wanted_none rfl) ?_ rfl
      go_simp
    | 13, _, _ =>
      intro a W hc hd
      have z3 := hc.same 3 (by kernel_rfl)
      simp only [List.getElem?_toArray, List.getElem?_cons_succ, List.getElem?_cons_zero, Option.getD_some] at z3
      refine obl_val rfl (wanted_none rfl) ?_ rfl
      go_simp
    | 14, _, _ =>
      intro a W hc hd
      have s13 : a.tmps[38]?.getD undef = (.pointer (some ⟨w.heap.size, 0, none⟩)) := hd 13 (by kernel_rfl)
      obtain ⟨_, _, hbx⟩ := HX.out W hc.kept
      obtain ⟨q0, q1, q2, q3, q4, q5, q6, q7, q8⟩ := hbx.box
      simp only at q0 q1 q2 q3 q4 q5 q6 q7 q8
      refine obl_val rfl (wanted_none rfl) ?_ rfl
      go_simp
    | 15, _, _ =>
      intro a W hc hd
      have s14 : a.tmps[39]?.getD undef = (.string id) := hd 14 (by kernel_rfl)
      refine obl_grow rfl (wanted_none rfl) (v := .slice (some ⟨W.heap.size, 0, none⟩) 1 1) (w' := W.alloc (.cells #[.string id] 9)) ?_ ⟨_, rfl, heap_alloc_new W _, hc.kept.size, fun e => by have h1 := HYL.out _ e; have h2 := hc.kept.size; have h3 : w6.drew.heap.size = w6.heap.size := rfl; omega⟩ ((Below.refl W.heap.size W).alloc (Nat.le_refl _) _)
      go_simp
    | 16, _, hne => exact absurd rfl hne
    | n + 17, h, _ => exact absurd h (by omega)
  · have s12 : a.tmps[37]?.getD undef = y := hd 12 (by kernel_rfl)
    obtain ⟨b7, e7, hbx7, hlo7, hny7⟩ := (show ∃ b, a.tmps[40]?.getD undef = .slice (some ⟨b, 0, none⟩) 1 1 ∧ W.heap[b]? = some (.cells #[.string id] 9 (0, 0)) ∧ w6.heap.size ≤ b ∧ y.ownBlock ≠ some b from hd 15 (by kernel_rfl))
    have hbW : Below w6.heap.size w6 W := (Below.refl w6.heap.size w6).drew.trans hbel
    have hlen : (credL docs ref.data.toList).length ≤ docs.length := by unfold credL; rw [List.length_map]; exact List.length_filter_le _ _
    obtain ⟨v8, w8, hrun, ho8, hg8, ha8⟩ := run_append_sl strK W base 39 39 Try.underlying39 y _ [id] (HY.out.below hbW) _ _ (lit_sl hbx7) (by simp only [List.length_singleton]; omega) (by decide) (Nat.le_trans hbase (Nat.le_trans HK6.out.size hbW.size))
    refine obl_app rfl (wanted_none rfl) (.tmp 37) (.tmp 40) rfl (eval_tmp s12) (eval_tmp e7) hrun ⟨v8, rfl, ⟨ho8, ?_⟩, (Kept.refl _ W).grown hg8 (fun k hk _ hS => hS hk)⟩
    rcases ha8 with e | e
    · exact .inl e
    · exact .inr ⟨_, e, hbW.size⟩
  · have hbx := hs 15 40 (by decide) (by kernel_rfl)
    have hap := hs 16 41 (by decide) (by kernel_rfl)
    have hkp := hc.kept
    have hc : GrowCtx _ _ w7 _ w7 := ⟨Below.refl _ _, hc.defers, hc.size, hc.same⟩
    have hfr := grow_frame hc [(25, (.pointer (some ⟨g, 0, none⟩))), (26, (.pointer (some ⟨g, 0, none⟩))), (27, (.pointer (some ⟨g, 1, none⟩))), (28, (.map (some bc))), (29, (.pointer (some ⟨w.heap.size, 3, none⟩))), (30, (.string ref)), (31, (.pointer (some ⟨g, 0, none⟩))), (32, (.pointer (some ⟨g, 0, none⟩))), (33, (.pointer (some ⟨g, 1, none⟩))), (34, (.map (some bc))), (35, (.pointer (some ⟨w.heap.size, 3, none⟩))), (36, (.string ref)), (37, y), (38, (.pointer (some ⟨w.heap.size, 0, none⟩))), (39, (.string id)), (40, a.tmps[40]?.getD undef), (41, a.tmps[41]?.getD undef)] (by kernel_rfl) (fun p hp => by
        simp only [List.mem_cons, List.not_mem_nil, or_false] at hp
        rcases hp with rfl | rfl | rfl | rfl | rfl | rfl | rfl | rfl | rfl | rfl | rfl | rfl | rfl | rfl | rfl | rfl | rfl
        · exact hs 0 25 (by decide) (by kernel_rfl)
        · exact hs 1 26 (by decide) (by kernel_rfl)
        · exact hs 2 27 (by decide) (by kernel_rfl)
        · exact hs 3 28 (by decide) (by kernel_rfl)
        · exact hs 4 29 (by decide) (by kernel_rfl)
        · exact hs 5 30 (by decide) (by kernel_rfl)
        · exact hs 6 31 (by decide) (by kernel_rfl)
        · exact hs 7 32 (by decide) (by kernel_rfl)
        · exact hs 8 33 (by decide) (by kernel_rfl)
        · exact hs 9 34 (by decide) (by kernel_rfl)
        · exact hs 10 35 (by decide) (by kernel_rfl)
        · exact hs 11 36 (by decide) (by kernel_rfl)
        · exact hs 12 37 (by decide) (by kernel_rfl)
        · exact hs 13 38 (by decide) (by kernel_rfl)
        · exact hs 14 39 (by decide) (by kernel_rfl)
        · rfl
        · rfl
        )
    generalize a.tmps[40]?.getD undef = z40 at hfr hbx
    generalize a.tmps[41]?.getD undef = z41 at hfr hap
    simp only [List.range, List.range.loop, List.size_toArray, List.length_cons, List.length_nil, List.map_cons, List.map_nil, List.lookup_cons, List.lookup_nil, Nat.reduceAdd, Nat.reduceBEq, Option.getD_some, Option.getD_none, List.getElem?_toArray, List.getElem?_cons_succ, List.getElem?_cons_zero] at hfr
    subst hfr
    obtain ⟨b7, rfl, hbx7, hlo7, _⟩ := hbx
    obtain ⟨ho8, ha8⟩ := hap
    simp only [List.drop_succ_cons, List.drop_zero]
    obtain ⟨w9, hup, hm9, hg9⟩ := (HR6.out.mc.heap (hkp.block bc HR6.out.mc.lt (fun e => by obtain ⟨cs, hh⟩ := HY.out.kind' bc e; exact cells_ne_map hh HR6.out.mc.kind rfl))).update (t := 46) (e := 39) Try.underlying46 (by have := HR6.out.nl; unfold maxLen; omega) ref HRZ.out z41
    have hk7 : Kept (fun b => y.ownBlock ≠ some b) w6 w7 := (Kept.ofBelow (S := fun b => y.ownBlock ≠ some b) (Below.refl w6.heap.size w6).drew).trans hkp (fun _ _ h => h)
    have HRF := Lib.hid (Raw.credPut (d := ⟨id, sale, true, ref, day, cty, num, cur, ls⟩) (B0 := w.heap.size) HR6.out rfl HY.out HYZ.out HYD.out ho8 hk7 ha8 hm9 hg9 HK6.out.size)
    have HKF := Lib.hid (show Kept (fun b => ¬ Z b) w w9 from (HK6.out.trans hk7 (fun b _ hz => fun e => hz (HYZ.out b e))).trans ((Kept.refl _ w7).grown hg9 (fun k hk _ hS => hS hk)) (fun b _ hz => fun e => by injection e with e; exact hz (e ▸ HR6.out.zc)))
    clear hs hc hkp hbx7 ho8 ha8 hm9 hg9 hk7
    go_wp2
    go_ret
    exact ⟨rfl, _, ⟨⟨bd, bc, _, _, _, _, HRF.out⟩, fun b hb => hb.2, fun b hb => hb.1.elim (H.out.lo b) (fun h => Nat.le_trans hbase h), H.out.g0, HOK.out⟩, fun b hb => hb.1, HKF.out⟩
end Go.Proofs.Ytnfpmobmfcgfnaa
