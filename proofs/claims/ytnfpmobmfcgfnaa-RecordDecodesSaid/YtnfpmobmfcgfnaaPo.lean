/- COMMANDS IN BOXES; THE WALKS OF record.Same AND octroiref08.Same (printed by gen/gensam.py). -/
import Derived.Test.YtnfpmobmfcgfnaaPn
namespace Go.Proofs.Ytnfpmobmfcgfnaa
open Go.RowKit
theorem Cm.eq_iff (a b : Cm) : (a.kind = b.kind ∧ a.cty = b.cty ∧ a.txt = b.txt ∧ a.cat = b.cat ∧ a.bp = b.bp ∧ a.day = b.day ∧ a.til = b.til ∧ a.nm = b.nm ∧ a.dn = b.dn ∧ a.ix = b.ix ∧ a.pk = b.pk ∧ a.py = b.py ∧ a.px = b.px ∧ a.doc = b.doc) ↔ a = b := by
 constructor
 ·rintro ⟨h1, h2, h3, h4, h5, h6, h7, h8, h9, h10, h11, h12, h13, h14⟩
  cases a; cases b
  simp only at *
  subst h1 h2 h3 h4 h5 h6 h7 h8 h9 h10 h11 h12 h13 h14
  rfl
 ·rintro rfl
  exact ⟨rfl, rfl, rfl, rfl, rfl, rfl, rfl, rfl, rfl, rfl, rfl, rfl, rfl, rfl⟩
instance : DecidableEq Cm := fun a b => decidable_of_iff _ (Cm.eq_iff a b)
/-- a command's block -/
def CBlk (w : World) (b : Nat) (o : Cm) (lv : Value) : Prop := w.heap[b]? = some (.cells (o.vs lv) 53 (0, 0))
structure CBox (w : World) (b : Nat) (o : Cm) (lv : Value) : Prop where
 c0 : w.cell? ⟨b, 0, none⟩ = some (.int .i64 o.kind)
 c1 : w.cell? ⟨b, 1, none⟩ = some (.string o.cty)
 c2 : w.cell? ⟨b, 2, none⟩ = some (.string o.txt)
 c3 : w.cell? ⟨b, 3, none⟩ = some (.int .i64 o.cat)
 c4 : w.cell? ⟨b, 4, none⟩ = some (.int .i64 o.bp)
 c5 : w.cell? ⟨b, 5, none⟩ = some (.int .i64 o.day)
 c6 : w.cell? ⟨b, 6, none⟩ = some (.int .i64 o.til)
 c7 : w.cell? ⟨b, 7, none⟩ = some (.int .i64 o.nm)
 c8 : w.cell? ⟨b, 8, none⟩ = some (.int .i64 o.dn)
 c9 : w.cell? ⟨b, 9, none⟩ = some (.int .i64 o.ix)
 c10 : w.cell? ⟨b, 10, none⟩ = some (.int .i64 o.pk)
 c11 : w.cell? ⟨b, 11, none⟩ = some (.int .i64 o.py)
 c12 : w.cell? ⟨b, 12, none⟩ = some (.int .i64 o.px)
 c13 : w.cell? ⟨b, 13, none⟩ = some (.string o.doc.id)
 c14 : w.cell? ⟨b, 14, none⟩ = some (.bool o.doc.sale)
 c15 : w.cell? ⟨b, 15, none⟩ = some (.bool o.doc.cred)
 c16 : w.cell? ⟨b, 16, none⟩ = some (.string o.doc.ref)
 c17 : w.cell? ⟨b, 17, none⟩ = some (.int .i64 o.doc.day)
 c18 : w.cell? ⟨b, 18, none⟩ = some (.string o.doc.cty)
 c19 : w.cell? ⟨b, 19, none⟩ = some (.string o.doc.num)
 c20 : w.cell? ⟨b, 20, none⟩ = some (.string o.doc.cur)
 c21 : w.cell? ⟨b, 21, none⟩ = some lv
section
variable {w w' : World} {b : Nat} {o : Cm} {lv : Value}
theorem CBlk.box (h : CBlk w b o lv) : CBox w b o lv :=
 ⟨cells_of h 0 _ rfl, cells_of h 1 _ rfl, cells_of h 2 _ rfl, cells_of h 3 _ rfl, cells_of h 4 _ rfl, cells_of h 5 _ rfl, cells_of h 6 _ rfl, cells_of h 7 _ rfl, cells_of h 8 _ rfl, cells_of h 9 _ rfl, cells_of h 10 _ rfl, cells_of h 11 _ rfl, cells_of h 12 _ rfl, cells_of h 13 _ rfl, cells_of h 14 _ rfl, cells_of h 15 _ rfl, cells_of h 16 _ rfl, cells_of h 17 _ rfl, cells_of h 18 _ rfl, cells_of h 19 _ rfl, cells_of h 20 _ rfl, cells_of h 21 _ rfl⟩
theorem CBlk.below (h : CBlk w b o lv) (k : Below w.heap.size w w') : CBlk w' b o lv := (k.block b (lt_of_blk h)).trans h
theorem CBlk.made (w : World) (o : Cm) (lv : Value) : CBlk (w.alloc (.cells (o.vs lv) 53)) w.heap.size o lv := heap_alloc_new w (.cells (o.vs lv) 53 (0, 0))
theorem cm_info : (Try.prog.info? 53).map (·.size) = some 22 := by kernel_rfl
theorem run_load_cmd (h : CBlk w b o lv) : (Instr.loadAt 53 (.pointer (some ⟨b, 0, none⟩))).run Try.prog w = .ok (.agg (o.vs lv)) w := by
 simp only [Instr.loadAt, Instr.sureAddr, Sem.run_bind, Sem.run_pure, Result.andThen_ok, run_loadVar_row w b 53 53 (o.vs lv) (0, 0) _ h Try.underlying53 rfl cm_info]
theorem exec_load_cmd {op : Oper} {ρ : Operand → Value} {x : Operand} (ho : op.op = .load 53 x) (hx : ρ x = .pointer (some ⟨b, 0, none⟩)) (h : CBlk w b o lv) : (execOp ρ op).run Try.prog w = .ok (.value (.agg (o.vs lv))) w := by
 unfold execOp; simp only [ho, hx]; simp [run_load_cmd h]
end
def Cm.pr (o : Cm) : Array Value := #[.int .i64 o.pk, .int .i64 o.py, .int .i64 o.px]
def Cm.prlits (o : Cm) : List Lit := [.int .i64 o.pk, .int .i64 o.py, .int .i64 o.px]
def prEq (a b : Cm) : Prop := a.pk = b.pk ∧ a.py = b.py ∧ a.px = b.px
instance (a b : Cm) : Decidable (prEq a b) := by unfold prEq; exact inferInstance
theorem Cm.prlits_iff (a b : Cm) : a.prlits = b.prlits ↔ prEq a b := by
 simp only [Cm.prlits, prEq, List.cons.injEq, Lit.int.injEq, true_and, and_true]
theorem pr_fields : (Try.prog.fieldsOf 51).toList.map (fun f => (f.type, f.offset, f.name != "_")) = [(3, 0, true), (3, 1, true), (3, 2, true)] := by kernel_rfl
theorem pr_under : Try.prog.underlying 51 = some (.struct (Try.prog.fieldsOf 51)) := by kernel_rfl
theorem pr_keyLits {o : Cm} (h : o.ok) : Try.prog.keyLits 2 51 o.pr.toList = some o.prlits := by
 have hf := pr_fields
 unfold Program.keyLits
 rw [pr_under]
 generalize Try.prog.fieldsOf 51 = fs at *
 obtain ⟨fs⟩ := fs
 simp only at hf ⊢
 rcases fs with _ | ⟨f0, _ | ⟨f1, _ | ⟨f2, _ | ⟨f3, r⟩⟩⟩⟩ <;> simp only [List.map_cons, List.map_nil, List.cons.injEq, Prod.mk.injEq, reduceCtorEq, and_false] at hf
 obtain ⟨⟨t0, o0, n0⟩, ⟨t1, o1, n1⟩, ⟨t2, o2, n2⟩, _⟩ := hf
 have hc : Try.prog.cellsOf 51 = 3 := by kernel_rfl
 simp [Cm.pr, hc, n0, n1, n2, t0, t1, t2, o0, o1, o2, cells_int, lits_int h.pk 0, lits_int h.py 0, lits_int h.px 0, Cm.prlits, List.mapM_cons]
theorem pr_formed (o : Cm) : (Value.agg o.pr).formed Try.prog 51 = true := by
 have hc : Try.prog.cellsOf 51 = 3 := by kernel_rfl
 simp [Value.formed, hc, Cm.pr]
theorem pr_eql {a b : Cm} (ha : a.ok) (hb : b.ok) (w : World) : (binOp .eql 51 (.agg a.pr) (.agg b.pr)).run Try.prog w = .ok (.bool (decide (prEq a b))) w :=
 eql_deep (m := 2) (by decide) (by kernel_rfl) (pr_formed a) (pr_formed b) (pr_keyLits ha) (pr_keyLits hb) (Cm.prlits_iff a b) w
theorem pr_neq {a b : Cm} (ha : a.ok) (hb : b.ok) (w : World) : (binOp .neq 51 (.agg a.pr) (.agg b.pr)).run Try.prog w = .ok (.bool (!decide (prEq a b))) w :=
 neq_deep (m := 2) (by decide) (by kernel_rfl) (pr_formed a) (pr_formed b) (pr_keyLits ha) (pr_keyLits hb) (Cm.prlits_iff a b) w
def Cm.nms (o : Cm) : Array Value := #[.int .i64 o.kind, .int .i64 o.cat, .int .i64 o.bp, .int .i64 o.day, .int .i64 o.til, .int .i64 o.nm, .int .i64 o.dn, .int .i64 o.ix]
def Cm.nmlits (o : Cm) : List Lit := [.int .i64 o.kind, .int .i64 o.cat, .int .i64 o.bp, .int .i64 o.day, .int .i64 o.til, .int .i64 o.nm, .int .i64 o.dn, .int .i64 o.ix]
def nmEq (a b : Cm) : Prop := a.kind = b.kind ∧ a.cat = b.cat ∧ a.bp = b.bp ∧ a.day = b.day ∧ a.til = b.til ∧ a.nm = b.nm ∧ a.dn = b.dn ∧ a.ix = b.ix
instance (a b : Cm) : Decidable (nmEq a b) := by unfold nmEq; exact inferInstance
theorem Cm.nmlits_iff (a b : Cm) : a.nmlits = b.nmlits ↔ nmEq a b := by
 simp only [Cm.nmlits, nmEq, List.cons.injEq, Lit.int.injEq, true_and, and_true]
theorem nm_keyLits {o : Cm} (h : o.ok) : Try.prog.keyLits 2 98 o.nms.toList = some o.nmlits := by
 unfold Program.keyLits
 rw [Try.underlying98]
 have hc : Try.prog.cellsOf 98 = 8 := by kernel_rfl
 simp [Cm.nms, hc, cells_int, lits_int h.kind 0, lits_int h.cat 0, lits_int h.bp 0, lits_int h.day 0, lits_int h.til 0, lits_int h.nm 0, lits_int h.dn 0, lits_int h.ix 0, Cm.nmlits, List.range, List.range.loop, List.mapM_cons]
theorem nm_formed (o : Cm) : (Value.agg o.nms).formed Try.prog 98 = true := by
 have hc : Try.prog.cellsOf 98 = 8 := by kernel_rfl
 simp [Value.formed, hc, Cm.nms]
theorem nm_eql {a b : Cm} (ha : a.ok) (hb : b.ok) (w : World) : (binOp .eql 98 (.agg a.nms) (.agg b.nms)).run Try.prog w = .ok (.bool (decide (nmEq a b))) w :=
 eql_deep (m := 2) (by decide) (by kernel_rfl) (nm_formed a) (nm_formed b) (nm_keyLits ha) (nm_keyLits hb) (Cm.nmlits_iff a b) w
set_option maxRecDepth 100000 in
theorem nums_any (o : Cm) (lv : Value) (w : World) : Calls Try.prog 76 #[.agg (o.vs lv)] w fun e w' => e = .returned (.agg o.nms) ∧ Below w.heap.size w w' := by
 have hbel : ∀ o o', Below w.heap.size w ((w.alloc o).alloc o') := fun o o' => ((Below.refl _ _).alloc (Nat.le_refl _) o).alloc (by simp) o'
 have HB := Lib.hid hbel
 clear hbel
 obtain ⟨kind, cty, txt, cat, bp, day, til, nm, dn, ix, pk, py, px, ⟨id, sale, cred, ref, dday, dcty, num, cur, ls⟩⟩ := o
 simp only [Cm.vs, Cm.nms]
 go_enter Try.func76, Try.ntmps76
 go_wp2
 exact bodyPost_ret (v := .agg #[.int .i64 kind, .int .i64 cat, .int .i64 bp, .int .i64 day, .int .i64 til, .int .i64 nm, .int .i64 dn, .int .i64 ix]) (by simp [results, Try.results76, go_sem]) rfl ⟨rfl, HB.out _ _⟩
theorem csame_parts (a b : Cm) : (((decide (a.doc = b.doc) && decide (prEq a b)) && (a.cty.toList == b.cty.toList)) && (a.txt.toList == b.txt.toList) && decide (nmEq a b)) = decide (a = b) := by
 rw [Bool.eq_iff_iff]
 simp only [Bool.and_eq_true, decide_eq_true_eq, beq_iff_eq, toL_iff]
 unfold prEq nmEq
 rw [← Cm.eq_iff]
 constructor
 ·rintro ⟨⟨⟨⟨h1, h2, h3, h4⟩, h5⟩, h6⟩, h7, h8, h9, h10, h11, h12, h13, h14⟩
  exact ⟨h7, h5, h6, h8, h9, h10, h11, h12, h13, h14, h2, h3, h4, h1⟩
 ·rintro ⟨h7, h5, h6, h8, h9, h10, h11, h12, h13, h14, h2, h3, h4, h1⟩
  exact ⟨⟨⟨⟨h1, h2, h3, h4⟩, h5⟩, h6⟩, h7, h8, h9, h10, h11, h12, h13, h14⟩
set_option maxRecDepth 100000 in
set_option maxHeartbeats 8000000 in
theorem csame_any {w : World} {Ba Bb : Nat} {va vb : Value} {a b : Cm} (ha : CmV w Ba va a) (hBa : Ba ≤ w.heap.size) (hb : CmV w Bb vb b) (hBb : Bb ≤ w.heap.size) :
  Calls Try.prog 36 #[va, vb] w fun e w' => e = .returned (.bool (decide (a = b))) ∧ Below w.heap.size w w' := by
 obtain ⟨lva, rfl, hla, hoka⟩ := ha
 obtain ⟨lvb, rfl, hlb, hokb⟩ := hb
 have hal1 := (Below.refl w.heap.size w).alloc (Nat.le_refl _) (.cells (a.vs lva) 53)
 have hbx1 := CBlk.made w a lva
 have hal2 := (Below.refl (w.alloc (.cells (a.vs lva) 53)).heap.size (w.alloc (.cells (a.vs lva) 53))).alloc (Nat.le_refl _) (.cells (b.vs lvb) 53)
 have hbx1 := hbx1.below hal2
 have hbx2 := CBlk.made (w.alloc (.cells (a.vs lva) 53)) b lvb
 have hal := hal1.trans (hal2.mono hal1.size)
 rw [World.size_alloc] at hbx2
 obtain ⟨Aa, ca, rfl, hcla, hcma⟩ := hla.form
 obtain ⟨Ab, cb, rfl, hclb, hcmb⟩ := hlb.form
 have hsd := fun W (hW : Below w.heap.size w W) => samedoc_any (w := W) (va := .agg (a.doc.vs (.slice Aa a.doc.ls.length ca))) (vb := .agg (b.doc.vs (.slice Ab b.doc.ls.length cb))) (a := a.doc) (b := b.doc) ⟨_, rfl, hla.below (hW.mono hBa), hoka.doc⟩ (Nat.le_trans hBa hW.size) ⟨_, rfl, hlb.below (hW.mono hBb), hokb.doc⟩ (Nat.le_trans hBb hW.size)

 have hpq := fun W => pr_neq hoka hokb W
 have hnq := fun W => nm_eql hoka hokb W
 have hna := fun W => nums_any a (.slice Aa a.doc.ls.length ca) W
 have hnb := fun W => nums_any b (.slice Ab b.doc.ls.length cb) W
 rw [← csame_parts]
 generalize decide (a.doc = b.doc) = SD at *
 generalize decide (prEq a b) = PR at *
 generalize decide (nmEq a b) = NM at *
 clear hoka hokb hla hlb
 simp only [Dm.vs] at hsd
 simp only [Cm.pr] at hpq
 generalize hVA : a.vs (.slice Aa a.doc.ls.length ca) = VA at *
 generalize hVB : b.vs (.slice Ab b.doc.ls.length cb) = VB at *
 generalize hTA : a.nms = TA at *
 generalize hTB : b.nms = TB at *
 generalize hcq : (a.cty.toList == b.cty.toList) = CT
 generalize htq : (a.txt.toList == b.txt.toList) = TX
 generalize hR : ((((SD && PR) && CT) && TX) && NM) = R
 have HR := Lib.hid hR
 have HSD := Lib.hid hsd
 have HNQ := Lib.hid hnq
 have HNA := Lib.hid hna
 have HNB := Lib.hid hnb
 have HAL := Lib.hid hal
 have HB1 := Lib.hid hbx1
 have HB2 := Lib.hid hbx2
 have HVA := Lib.hid hVA
 have HVB := Lib.hid hVB
 have ecq : (a.cty.toList != b.cty.toList) = !CT := by rw [bne, hcq]
 have etq : (a.txt.toList != b.txt.toList) = !TX := by rw [bne, htq]
 clear hR hsd hnq hna hnb hal hbx1 hbx2 hal1 hal2 hVA hVB hTA hTB
 go_enter Try.func36, Try.ntmps36
 go_upto_region 1 with fail
 generalize World.alloc (World.alloc w _) _ = w1 at *
 have HX1 := Lib.hid (fun W (hW : Below w1.heap.size w1 W) => HB1.out.below hW)
 have HX2 := Lib.hid (fun W (hW : Below w1.heap.size w1 W) => HB2.out.below hW)
 obtain ⟨c0, c1, c2, c3, c4, c5, c6, c7, c8, c9, c10, c11, c12, c13, c14, c15, c16, c17, c18, c19, c20, c21⟩ := HB1.out.box
 obtain ⟨d0, d1, d2, d3, d4, d5, d6, d7, d8, d9, d10, d11, d12, d13, d14, d15, d16, d17, d18, d19, d20, d21⟩ := HB2.out.box
 clear HB1 HB2
 have hsd := HSD.out w1 HAL.out
 go_cut [32] from 6 to 32 (fun x32 wx => x32 = .bool (!(((SD && PR) && CT) && TX)) ∧ Below w1.heap.size w1 wx)
 case first =>
  cases SD <;> cases PR <;> cases CT <;> cases TX
  all_goals
   go_wp2_with (go_at_call 37; (with_reducible refine hsd.mono ?_); rintro e w2 ⟨rfl, hb2⟩; have HB2 := Lib.hid hb2; clear hsd hb2 c0 c1 c2 c3 c4 c5 c6 c7 c8 c9 c10 c11 c12 c13 c14 c15 c16 c17 c18 c19 c20 c21 d0 d1 d2 d3 d4 d5 d6 d7 d8 d9 d10 d11 d12 d13 d14 d15 d16 d17 d18 d19 d20 d21; obtain ⟨c0, c1, c2, c3, c4, c5, c6, c7, c8, c9, c10, c11, c12, c13, c14, c15, c16, c17, c18, c19, c20, c21⟩ := (HX1.out w2 HB2.out).box; obtain ⟨d0, d1, d2, d3, d4, d5, d6, d7, d8, d9, d10, d11, d12, d13, d14, d15, d16, d17, d18, d19, d20, d21⟩ := (HX2.out w2 HB2.out).box)
   go_meet
   exact ⟨rfl, HB2.out⟩
 case rest =>
 obtain ⟨rfl, hb2⟩ := hcut
 have HB2 := Lib.hid hb2
 clear hb2 hsd c0 c1 c2 c3 c4 c5 c6 c7 c8 c9 c10 c11 c12 c13 c14 c15 c16 c17 c18 c19 c20 c21 d0 d1 d2 d3 d4 d5 d6 d7 d8 d9 d10 d11 d12 d13 d14 d15 d16 d17 d18 d19 d20 d21 hpq
 generalize (((SD && PR) && CT) && TX) = X at *
 have hR := HR.out
 cases X
 ·rw [Bool.false_and] at hR
  subst hR
  go_wp2
  go_ret
  exact ⟨rfl, HAL.out.trans (HB2.out.mono HAL.out.size)⟩
 rw [Bool.true_and] at hR
 subst hR
 go_upto_region 4 with fail
 refine wp_region_sp (by kernel_rfl) [isS (Value.func (Fn.func 76) #[] #[]), isS (.agg VA), isS (.agg TA), isS (Value.func (Fn.func 76) #[] #[]), isS (.agg VB), isS (.agg TB), isS (.bool NM), isS (.bool NM)] (by kernel_rfl) (by kernel_rfl) (fun q hq => ?_) (fun a' w3 hc hs => ?_)
 ·match q, hq with
  | 0, _ =>
   intro a W hc hd
   have z5 := hc.same 5 (by kernel_rfl)
   simp only [List.getElem?_toArray, List.getElem?_cons_succ, List.getElem?_cons_zero, Option.getD_some] at z5
   refine obl_val rfl (wanted_none rfl) ?_ rfl
   go_simp
  | 1, _ =>
   intro a W hc hd
   have z2 := hc.same 2 (by kernel_rfl)
   simp only [List.getElem?_toArray, List.getElem?_cons_succ, List.getElem?_cons_zero, Option.getD_some] at z2
   refine obl_val rfl (wanted_none rfl) ?_ rfl
   rw [← HVA.out]
   exact exec_load_cmd rfl (eval_tmp z2) (HX1.out W (HB2.out.trans (((Below.refl wc.heap.size wc).drew.trans hc.below).mono HB2.out.size)))
  | 2, _ =>
   intro a W hc hd
   have s0 : a.tmps[33]?.getD undef = (Value.func (Fn.func 76) #[] #[]) := hd 0 (by kernel_rfl)
   have s1 : a.tmps[34]?.getD undef = (.agg VA) := hd 1 (by kernel_rfl)
   refine obl_call rfl (wanted_none rfl) (by go_simp) (HNA.out W) ?_
   rintro e w8 ⟨rfl, hb8⟩
   exact ⟨_, rfl, rfl, hb8⟩
  | 3, _ =>
   intro a W hc hd
   have z5 := hc.same 5 (by kernel_rfl)
   simp only [List.getElem?_toArray, List.getElem?_cons_succ, List.getElem?_cons_zero, Option.getD_some] at z5
   refine obl_val rfl (wanted_none rfl) ?_ rfl
   go_simp
  | 4, _ =>
   intro a W hc hd
   have z3 := hc.same 3 (by kernel_rfl)
   simp only [List.getElem?_toArray, List.getElem?_cons_succ, List.getElem?_cons_zero, Option.getD_some] at z3
   refine obl_val rfl (wanted_none rfl) ?_ rfl
   rw [← HVB.out]
   exact exec_load_cmd rfl (eval_tmp z3) (HX2.out W (HB2.out.trans (((Below.refl wc.heap.size wc).drew.trans hc.below).mono HB2.out.size)))
  | 5, _ =>
   intro a W hc hd
   have s3 : a.tmps[36]?.getD undef = (Value.func (Fn.func 76) #[] #[]) := hd 3 (by kernel_rfl)
   have s4 : a.tmps[37]?.getD undef = (.agg VB) := hd 4 (by kernel_rfl)
   refine obl_call rfl (wanted_none rfl) (by go_simp) (HNB.out W) ?_
   rintro e w8 ⟨rfl, hb8⟩
   exact ⟨_, rfl, rfl, hb8⟩
  | 6, _ =>
   intro a W hc hd
   have s2 : a.tmps[35]?.getD undef = (.agg TA) := hd 2 (by kernel_rfl)
   have s5 : a.tmps[38]?.getD undef = (.agg TB) := hd 5 (by kernel_rfl)
   refine obl_val rfl (wanted_none rfl) ?_ rfl
   exact exec_eqagg rfl (eval_tmp s2) (eval_tmp s5) (by kernel_rfl) (HNQ.out W)
  | 7, _ =>
   intro a W hc hd
   have s6 : a.tmps[39]?.getD undef = (.bool NM) := hd 6 (by kernel_rfl)
   refine obl_val rfl (wanted_none rfl) ?_ rfl
   go_simp
  | n + 8, h => exact absurd h (by simp)
 ·skip
  have hfr := grow_frame hc [(33, (Value.func (Fn.func 76) #[] #[])), (34, (.agg VA)), (35, (.agg TA)), (36, (Value.func (Fn.func 76) #[] #[])), (37, (.agg VB)), (38, (.agg TB)), (39, (.bool NM)), (4, (.bool NM))] (by kernel_rfl) (fun p hp => by
    simp only [List.mem_cons, List.not_mem_nil, or_false] at hp
    rcases hp with rfl | rfl | rfl | rfl | rfl | rfl | rfl | rfl
    ·exact hs 0 33 (by decide) (by kernel_rfl)
    ·exact hs 1 34 (by decide) (by kernel_rfl)
    ·exact hs 2 35 (by decide) (by kernel_rfl)
    ·exact hs 3 36 (by decide) (by kernel_rfl)
    ·exact hs 4 37 (by decide) (by kernel_rfl)
    ·exact hs 5 38 (by decide) (by kernel_rfl)
    ·exact hs 6 39 (by decide) (by kernel_rfl)
    ·exact hs 7 4 (by decide) (by kernel_rfl)
    )
  simp only [List.range, List.range.loop, List.size_toArray, List.length_cons, List.length_nil, List.map_cons, List.map_nil, List.lookup_cons, List.lookup_nil, Nat.reduceAdd, Nat.reduceBEq, Option.getD_some, Option.getD_none, List.getElem?_toArray, List.getElem?_cons_succ, List.getElem?_cons_zero] at hfr
  subst hfr
  have hb3 := HAL.out.trans ((HB2.out.trans (((Below.refl wc.heap.size wc).drew.trans hc.below).mono HB2.out.size)).mono HAL.out.size)
  clear hc hs
  go_wp2
  go_ret
  exact ⟨rfl, hb3⟩
end Go.Proofs.Ytnfpmobmfcgfnaa

/- THE WALK OF octroiref08.Same (printed by gen/genrsm.py). -/
namespace Go.Proofs.Ytnfpmobmfcgfnaa
open Go.RowKit
theorem rsame_parts (a b : Cm) : ((((((((((((a.kind == b.kind) && (a.cty.toList == b.cty.toList)) && (a.txt.toList == b.txt.toList)) && (a.cat == b.cat)) && (a.bp == b.bp)) && (a.day == b.day)) && (a.til == b.til)) && (a.nm == b.nm)) && (a.dn == b.dn)) && (a.ix == b.ix)) && decide (prEq a b)) && decide (a.doc = b.doc)) = decide (a = b) := by
 rw [Bool.eq_iff_iff]
 simp only [Bool.and_eq_true, decide_eq_true_eq, beq_iff_eq, toL_iff]
 unfold prEq
 rw [← Cm.eq_iff]
 constructor
 ·rintro ⟨⟨⟨⟨⟨⟨⟨⟨⟨⟨⟨h1, h2⟩, h3⟩, h4⟩, h5⟩, h6⟩, h7⟩, h8⟩, h9⟩, h10⟩, h11, h12, h13⟩, h14⟩
  exact ⟨h1, h2, h3, h4, h5, h6, h7, h8, h9, h10, h11, h12, h13, h14⟩
 ·rintro ⟨h1, h2, h3, h4, h5, h6, h7, h8, h9, h10, h11, h12, h13, h14⟩
  exact ⟨⟨⟨⟨⟨⟨⟨⟨⟨⟨⟨h1, h2⟩, h3⟩, h4⟩, h5⟩, h6⟩, h7⟩, h8⟩, h9⟩, h10⟩, h11, h12, h13⟩, h14⟩
set_option maxRecDepth 100000 in
set_option maxHeartbeats 8000000 in
theorem rcsame_any {w : World} {Ba Bb : Nat} {va vb : Value} {a b : Cm} (ha : CmV w Ba va a) (hBa : Ba ≤ w.heap.size) (hb : CmV w Bb vb b) (hBb : Bb ≤ w.heap.size) (hl : a.doc.ls.length ≤ 100000) :
  Calls Try.prog 34 #[va, vb] w fun e w' => e = .returned (.bool (decide (a = b))) ∧ Below w.heap.size w w' := by
 obtain ⟨lva, rfl, hla, hoka⟩ := ha
 obtain ⟨lvb, rfl, hlb, hokb⟩ := hb
 have hal1 := (Below.refl w.heap.size w).alloc (Nat.le_refl _) (.cells (a.vs lva) 53)
 have hbx1 := CBlk.made w a lva
 have hal2 := (Below.refl (w.alloc (.cells (a.vs lva) 53)).heap.size (w.alloc (.cells (a.vs lva) 53))).alloc (Nat.le_refl _) (.cells (b.vs lvb) 53)
 have hbx1 := hbx1.below hal2
 have hbx2 := CBlk.made (w.alloc (.cells (a.vs lva) 53)) b lvb
 have hal := hal1.trans (hal2.mono hal1.size)
 rw [World.size_alloc] at hbx2
 obtain ⟨Aa, ca, rfl, hcla, hcma⟩ := hla.form
 obtain ⟨Ab, cb, rfl, hclb, hcmb⟩ := hlb.form
 have hsd := rsamedoc_any (w := ((w.alloc (.cells (a.vs (.slice Aa a.doc.ls.length ca)) 53)).alloc (.cells (b.vs (.slice Ab b.doc.ls.length cb)) 53))) (va := .agg (a.doc.vs (.slice Aa a.doc.ls.length ca))) (vb := .agg (b.doc.vs (.slice Ab b.doc.ls.length cb))) (a := a.doc) (b := b.doc) ⟨_, rfl, hla.below (hal.mono hBa), hoka.doc⟩ (Nat.le_trans hBa hal.size) ⟨_, rfl, hlb.below (hal.mono hBb), hokb.doc⟩ (Nat.le_trans hBb hal.size) hl
 have hpq := fun W => pr_eql hoka hokb W
 rw [← rsame_parts]
 generalize decide (a.doc = b.doc) = SD at *
 generalize decide (prEq a b) = PR at *
 clear hoka hokb hla hlb
 simp only [Dm.vs] at hsd
 simp only [Cm.pr] at hpq
 obtain ⟨c0, c1, c2, c3, c4, c5, c6, c7, c8, c9, c10, c11, c12, c13, c14, c15, c16, c17, c18, c19, c20, c21⟩ := hbx1.box
 obtain ⟨d0, d1, d2, d3, d4, d5, d6, d7, d8, d9, d10, d11, d12, d13, d14, d15, d16, d17, d18, d19, d20, d21⟩ := hbx2.box
 generalize a.vs (.slice Aa a.doc.ls.length ca) = VA at *
 generalize b.vs (.slice Ab b.doc.ls.length cb) = VB at *
 have HAL := Lib.hid hal
 clear hbx1 hbx2 hal hal1 hal2
 generalize e0 : (a.kind == b.kind) = K0
 generalize e1 : (a.cty.toList == b.cty.toList) = K1
 generalize e2 : (a.txt.toList == b.txt.toList) = K2
 generalize e3 : (a.cat == b.cat) = K3
 generalize e4 : (a.bp == b.bp) = K4
 generalize e5 : (a.day == b.day) = K5
 generalize e6 : (a.til == b.til) = K6
 generalize e7 : (a.nm == b.nm) = K7
 generalize e8 : (a.dn == b.dn) = K8
 generalize e9 : (a.ix == b.ix) = K9
 generalize hR : (((((((((((K0 && K1) && K2) && K3) && K4) && K5) && K6) && K7) && K8) && K9) && PR) && SD) = R
 have HR := Lib.hid hR
 clear hR
 cases K0
 ·have hR : R = false := by rw [← HR.out]; simp
  subst hR
  clear HR hsd
  go_enter Try.func34, Try.ntmps34
  go_wp2
  go_ret
  exact ⟨rfl, HAL.out⟩
 cases K1
 ·have hR : R = false := by rw [← HR.out]; simp
  subst hR
  clear HR hsd
  go_enter Try.func34, Try.ntmps34
  go_wp2
  go_ret
  exact ⟨rfl, HAL.out⟩
 cases K2
 ·have hR : R = false := by rw [← HR.out]; simp
  subst hR
  clear HR hsd
  go_enter Try.func34, Try.ntmps34
  go_wp2
  go_ret
  exact ⟨rfl, HAL.out⟩
 cases K3
 ·have hR : R = false := by rw [← HR.out]; simp
  subst hR
  clear HR hsd
  go_enter Try.func34, Try.ntmps34
  go_wp2
  go_ret
  exact ⟨rfl, HAL.out⟩
 cases K4
 ·have hR : R = false := by rw [← HR.out]; simp
  subst hR
  clear HR hsd
  go_enter Try.func34, Try.ntmps34
  go_wp2
  go_ret
  exact ⟨rfl, HAL.out⟩
 cases K5
 ·have hR : R = false := by rw [← HR.out]; simp
  subst hR
  clear HR hsd
  go_enter Try.func34, Try.ntmps34
  go_wp2
  go_ret
  exact ⟨rfl, HAL.out⟩
 cases K6
 ·have hR : R = false := by rw [← HR.out]; simp
  subst hR
  clear HR hsd
  go_enter Try.func34, Try.ntmps34
  go_wp2
  go_ret
  exact ⟨rfl, HAL.out⟩
 cases K7
 ·have hR : R = false := by rw [← HR.out]; simp
  subst hR
  clear HR hsd
  go_enter Try.func34, Try.ntmps34
  go_wp2
  go_ret
  exact ⟨rfl, HAL.out⟩
 cases K8
 ·have hR : R = false := by rw [← HR.out]; simp
  subst hR
  clear HR hsd
  go_enter Try.func34, Try.ntmps34
  go_wp2
  go_ret
  exact ⟨rfl, HAL.out⟩
 cases K9
 ·have hR : R = false := by rw [← HR.out]; simp
  subst hR
  clear HR hsd
  go_enter Try.func34, Try.ntmps34
  go_wp2
  go_ret
  exact ⟨rfl, HAL.out⟩
 cases PR
 ·have hR : R = false := by rw [← HR.out]; simp
  subst hR
  clear HR hsd
  go_enter Try.func34, Try.ntmps34
  go_wp2
  go_ret
  exact ⟨rfl, HAL.out⟩
 have hR : R = SD := by rw [← HR.out]; simp
 subst hR
 have HSD := Lib.hid hsd
 clear HR hsd
 go_enter Try.func34, Try.ntmps34
 go_wp2_with (go_at_call 17; (with_reducible refine HSD.out.mono ?_); rintro e w2 ⟨rfl, hb2⟩)
 go_ret
 exact ⟨rfl, HAL.out.trans (hb2.mono HAL.out.size)⟩
end Go.Proofs.Ytnfpmobmfcgfnaa

