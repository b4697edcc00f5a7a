/- THE WALKS OF ids.common AND OF Check's CLOSURE (printed by gen/genidb.py). -/
import Derived.Test.YtnfpmobmfcgfnaaIdA
import Derived.Test.YtnfpmobmfcgfnaaGr7
namespace Go.Proofs.Ytnfpmobmfcgfnaa
open Go.RowKit
theorem lt_of_blk {w : World} {b : Nat} {o : Obj} (h : w.heap[b]? = some o) : b < w.heap.size := (Array.getElem?_eq_some_iff.1 h).1
theorem free_of {w : World} {b : Nat} {cs : Array Value} {t : TypeId} (h : w.heap[b]? = some (.cells cs t (0, 0))) (i : Nat) : w.frozen? ⟨b, i, none⟩ = false := by
  simp [World.frozen?, h]
theorem kind_ne {w : World} {a b : Nat} {cs cs' : Array Value} {t t' : TypeId} {fr fr' : Nat × Nat} (h1 : w.heap[a]? = some (.cells cs t fr)) (h2 : w.heap[b]? = some (.cells cs' t' fr')) (hne : t ≠ t') : a ≠ b := by
  rintro rfl
  rw [h1] at h2
  injection h2 with h2
  injection h2 with _ h2 _
  exact hne h2
theorem wanted_not {ops : Array Oper} {o : Oper} {a : Act} {g : Nat} {b : Bool} {d : Nat} (h : o.guard = some (g, b)) (hd : dstOf ops g = some d) (hv : a.tmps[d]?.getD undef = .bool (!b)) : Region.wanted o (yielded ops a.tmps) = false := by
  unfold Region.wanted
  rw [h]
  have : yielded ops a.tmps g = some (!b) := by
    unfold yielded
    unfold dstOf at hd
    rw [hd]
    cases hx : a.tmps[d]? with
    | none => rw [hx] at hv; cases hv
    | some x =>
      rw [hx] at hv
      simp only [Option.getD_some] at hv
      subst hv
      simp [hx]
  simp [this]
theorem obl_grow {P : Program} {ops : Array Oper} {Q : Exit → Act → World → Prop} {sp : Nat → Value → World → Prop} {i : Nat} {o : Oper} {a : Act} {w w' : World} {v : Value} (ho : ops[i]? = some o) (hw : Region.wanted o (yielded ops a.tmps) = true) (hr : (execOp a.eval o).run P w = .ok (.value v) w') (hv : sp i v w') (hb : Below w.heap.size w w') :
    wpOp P ops Q i (fun a' w' => ∃ v, a' = a.put (dstOf ops i) v ∧ sp i v w' ∧ Below w.heap.size w w') a w := by
  unfold wpOp
  simp only [ho, hw, if_true]
  refine .inl ?_
  unfold Oper.wp
  rw [hr]
  exact ⟨v, by unfold dstOf; rw [ho]; rfl, hv, hb⟩
/-- a document's block -/
def DBlk (w : World) (b : Nat) (o : Dm) (lv : Value) : Prop := w.heap[b]? = some (.cells (o.vs lv) 25 (0, 0))
section
variable {w w' : World} {b : Nat} {o o' : Dm} {lv lv' : Value}
theorem DBlk.box (h : DBlk w b o lv) : DBox w b o lv :=
  ⟨cells_of h 0 _ rfl, cells_of h 1 _ rfl, cells_of h 2 _ rfl, cells_of h 3 _ rfl, cells_of h 4 _ rfl, cells_of h 5 _ rfl, cells_of h 6 _ rfl, cells_of h 7 _ rfl, cells_of h 8 _ rfl⟩
theorem DBlk.below (h : DBlk w b o lv) (k : Below w.heap.size w w') : DBlk w' b o lv := (k.block b (lt_of_blk h)).trans h
theorem DBlk.free (h : DBlk w b o lv) : w.frozen? ⟨b, 0, none⟩ = false ∧ w.frozen? ⟨b, 1, none⟩ = false ∧ w.frozen? ⟨b, 2, none⟩ = false ∧ w.frozen? ⟨b, 3, none⟩ = false ∧ w.frozen? ⟨b, 4, none⟩ = false ∧ w.frozen? ⟨b, 5, none⟩ = false ∧ w.frozen? ⟨b, 6, none⟩ = false ∧ w.frozen? ⟨b, 7, none⟩ = false ∧ w.frozen? ⟨b, 8, none⟩ = false :=
  ⟨free_of h 0, free_of h 1, free_of h 2, free_of h 3, free_of h 4, free_of h 5, free_of h 6, free_of h 7, free_of h 8⟩
/-- a document is stored -/
abbrev setD (w : World) (b : Nat) (o : Dm) (lv : Value) : World := ((((((((w.setCell ⟨b, 0, none⟩ (.string o.id)).setCell ⟨b, 1, none⟩ (.bool o.sale)).setCell ⟨b, 2, none⟩ (.bool o.cred)).setCell ⟨b, 3, none⟩ (.string o.ref)).setCell ⟨b, 4, none⟩ (.int .i64 o.day)).setCell ⟨b, 5, none⟩ (.string o.cty)).setCell ⟨b, 6, none⟩ (.string o.num)).setCell ⟨b, 7, none⟩ (.string o.cur)).setCell ⟨b, 8, none⟩ lv
theorem DBlk.set (h : DBlk w b o' lv') (o : Dm) (lv : Value) : DBlk (setD w b o lv) b o lv ∧ Kept (fun x => x ≠ b) w (setD w b o lv) := by
  unfold DBlk Dm.vs at h
  have s0 := Lib.heap_setCell_same (i := 0) h (.string o.id)
  have s1 := Lib.heap_setCell_same (i := 1) s0 (.bool o.sale)
  have s2 := Lib.heap_setCell_same (i := 2) s1 (.bool o.cred)
  have s3 := Lib.heap_setCell_same (i := 3) s2 (.string o.ref)
  have s4 := Lib.heap_setCell_same (i := 4) s3 (.int .i64 o.day)
  have s5 := Lib.heap_setCell_same (i := 5) s4 (.string o.cty)
  have s6 := Lib.heap_setCell_same (i := 6) s5 (.string o.num)
  have s7 := Lib.heap_setCell_same (i := 7) s6 (.string o.cur)
  have s8 := Lib.heap_setCell_same (i := 8) s7 lv
  refine ⟨by unfold DBlk Dm.vs; simpa using s8, ?_⟩
  exact (((((((((Kept.refl _ w).setCell _ _ (fun _ h => h rfl)).setCell _ _ (fun _ h => h rfl)).setCell _ _ (fun _ h => h rfl)).setCell _ _ (fun _ h => h rfl)).setCell _ _ (fun _ h => h rfl)).setCell _ _ (fun _ h => h rfl)).setCell _ _ (fun _ h => h rfl)).setCell _ _ (fun _ h => h rfl)).setCell _ _ (fun _ h => h rfl)
end
/-- a box that an alloc made -/
def boxZ (lo : Nat) : Sp := ⟨fun x w => ∃ b, x = .pointer (some ⟨b, 0, none⟩) ∧ DBlk w b Dm.zero (.slice none 0 0) ∧ lo ≤ b, fun x w w' h hb => by
  obtain ⟨b, e, h1, h2⟩ := h
  exact ⟨b, e, h1.below hb, h2⟩⟩
/-- what two documents have in common -/
def ofV (o : Dm) : Value := .agg #[.bool o.sale, .string o.cty, .string o.num, .string o.cur]
def ofEq (a b : Dm) : Prop := a.sale = b.sale ∧ a.cty = b.cty ∧ a.num = b.num ∧ a.cur = b.cur
instance (a b : Dm) : Decidable (ofEq a b) := by unfold ofEq; exact inferInstance
def Dm.oflits (o : Dm) : List Lit := [.bool o.sale, .string o.cty.data.toList, .string o.num.data.toList, .string o.cur.data.toList]
theorem Dm.oflits_iff (a b : Dm) : a.oflits = b.oflits ↔ ofEq a b := by
  simp only [Dm.oflits, ofEq, List.cons.injEq, Lit.string.injEq, Lit.bool.injEq, toList_data, and_true]
theorem of_fields : (Try.prog.fieldsOf 76).toList.map (fun f => (f.type, f.offset, f.name != "_")) = [(4, 0, true), (9, 1, true), (9, 2, true), (9, 3, true)] := by kernel_rfl
theorem of_under : Try.prog.underlying 76 = some (.struct (Try.prog.fieldsOf 76)) := by kernel_rfl
theorem of_keyLits {o : Dm} (h : o.ok) : Try.prog.keyLits 2 76 [.bool o.sale, .string o.cty, .string o.num, .string o.cur] = some o.oflits := by
  have hf := of_fields
  unfold Program.keyLits
  rw [of_under]
  generalize Try.prog.fieldsOf 76 = fs at *
  obtain ⟨fs⟩ := fs
  simp only at hf ⊢
  rcases fs with _ | ⟨f0, _ | ⟨f1, _ | ⟨f2, _ | ⟨f3, _ | ⟨f4, r⟩⟩⟩⟩⟩ <;> simp only [List.map_cons, List.map_nil, List.cons.injEq, Prod.mk.injEq, reduceCtorEq, and_false] at hf
  obtain ⟨⟨t0, o0, n0⟩, ⟨t1, o1, n1⟩, ⟨t2, o2, n2⟩, ⟨t3, o3, n3⟩, _⟩ := hf
  have hc : Try.prog.cellsOf 76 = 4 := by kernel_rfl
  simp [hc, n0, n1, n2, n3, t0, t1, t2, t3, o0, o1, o2, o3, cells_str, cells_bool, lits_bool, lits_str h.cty 0, lits_str h.num 0, lits_str h.cur 0, Dm.oflits, List.mapM_cons]
theorem of_formed (o : Dm) : (Value.agg #[.bool o.sale, .string o.cty, .string o.num, .string o.cur]).formed Try.prog 76 = true := by
  have hc : Try.prog.cellsOf 76 = 4 := by kernel_rfl
  simp [Value.formed, hc]
theorem of_eql {a b : Dm} (ha : a.ok) (hb : b.ok) (w : World) : (binOp .eql 76 (.agg #[.bool a.sale, .string a.cty, .string a.num, .string a.cur]) (.agg #[.bool b.sale, .string b.cty, .string b.num, .string b.cur])).run Try.prog w = .ok (.bool (decide (ofEq a b))) w :=
  eql_deep (m := 2) (by decide) (by kernel_rfl) (of_formed a) (of_formed b) (of_keyLits ha) (of_keyLits hb) (Dm.oflits_iff a b) w
set_option maxRecDepth 100000 in
theorem common_any (o : Dm) (lv : Value) (w : World) : Calls Try.prog 46 #[.agg (o.vs lv)] w fun e w' => e = .returned (.agg #[.bool o.sale, .string o.cty, .string o.num, .string o.cur]) ∧ Below w.heap.size w w' := by
  have hbel : ∀ o o', Below w.heap.size w ((w.alloc o).alloc o') := fun o o' => ((Below.refl _ _).alloc (Nat.le_refl _) o).alloc (by simp) o'
  have HB := Lib.hid hbel
  clear hbel
  obtain ⟨id, sale, cred, ref, day, cty, num, cur, ls⟩ := o
  simp only [Dm.vs]
  go_enter Try.func46, Try.ntmps46
  go_wp2
  exact bodyPost_ret (v := .agg #[.bool sale, .string cty, .string num, .string cur]) (by simp [results, Try.results46, go_sem]) rfl ⟨rfl, HB.out _ _⟩
/-- what a credit refers to -/
def refersB (docs : List Dm) (d : Dm) : Bool :=
  match findD docs d.ref.data.toList with
  | none => false
  | some x => !x.cred && decide (ofEq x d) && decide (x.day ≤ d.day)
theorem St.docv {w : World} {base g : Nat} {Z : Nat → Prop} {docs : List Dm} (h : St w base g Z docs) (s : ByteArray) (hs : s.size ≤ maxLen) :
    ∃ bd o t, (∀ W, Below w.heap.size w W → W.cell? ⟨g, 0, none⟩ = some (.map (some bd)) ∧ (Instr.lookup 45 (.map (some bd)) (.string s) true).run Try.prog W = .ok (.tuple #[.agg (o.vs (triV t)), .bool (findD docs s.data.toList).isSome]) W) ∧
      ((findD docs s.data.toList).isSome = true → findD docs s.data.toList = some o ∧ Lns w w.heap.size (triV t) o.ls ∧ o.ok) ∧ o.ok := by
  have hok := h.ok
  obtain ⟨bd, bc, nc, m, fd, fc, h1, _, _, _, h5, _, _, h8, _⟩ := h.ex
  obtain ⟨q1, q2⟩ := h8 s.data.toList
  have hlk := fun W (hW : Below w.heap.size w W) => (h5.below hW).look (t := 45) (e := 25) Try.underlying45 (Try.zdoc _) true s hs
  unfold MapV.val at hlk
  cases hf : findD docs s.data.toList with
  | none =>
    rw [q1 hf] at hlk
    exact ⟨bd, Dm.zero, (none, 0, 0), fun W hW => ⟨cells_of ((hW.block g (lt_of_blk h1)).trans h1) 0 _ rfl, hlk W hW⟩, (fun h => absurd h (by simp)), Dm.zero_ok⟩
  | some o =>
    obtain ⟨t, e, hown⟩ := q2 o hf
    rw [e] at hlk
    have ho := hok o (findD_mem hf).1
    exact ⟨bd, o, t, fun W hW => ⟨cells_of ((hW.block g (lt_of_blk h1)).trans h1) 0 _ rfl, hlk W hW⟩, fun _ => ⟨rfl, hown.sl.lns ho.ls, ho⟩, ho⟩
set_option maxRecDepth 100000 in
set_option maxHeartbeats 8000000 in
theorem refers_any {w : World} {base g : Nat} {Z : Nat → Prop} {docs : List Dm} (h : St w base g Z docs) {gs gd : Nat} {d : Dm} {lv : Value} (hgs : w.cell? ⟨gs, 0, none⟩ = some (.pointer (some ⟨g, 0, none⟩))) (hgd : DBlk w gd d lv) (hd : d.ok) :
    Calls Try.prog 45 #[.pointer (some ⟨gs, 0, none⟩), .pointer (some ⟨gd, 0, none⟩)] w fun e w' => e = .returned (.bool (refersB docs d)) ∧ Below w.heap.size w w' := by
  obtain ⟨bd, x, t, hlk, hx, hxo⟩ := h.docv d.ref hd.ref
  have hlt : gs < w.heap.size := World.block_lt_of_cell? w ⟨gs, 0, none⟩ hgs
  have heq := of_eql hxo hd
  generalize hR : refersB docs d = R
  have hR2 : ((findD docs d.ref.data.toList).isSome && (!x.cred && decide (ofEq x d) && decide (x.day ≤ d.day))) = R := by
    rw [← hR]
    unfold refersB
    cases hf : findD docs d.ref.data.toList with
    | none => rfl
    | some y =>
      obtain ⟨e, _⟩ := hx (by rw [hf]; rfl)
      rw [hf] at e
      cases e
      rfl
  generalize (findD docs d.ref.data.toList).isSome = ok at *
  have HLK := Lib.hid hlk
  have HGS := Lib.hid (fun W (hW : Below w.heap.size w W) => (hW.cell (p := ⟨gs, 0, none⟩) hlt).trans hgs)
  have HGD := Lib.hid (fun W (hW : Below w.heap.size w W) => hgd.below hW)
  have HR := Lib.hid hR2
  generalize decide (ofEq x d) = E at *
  have HEQ := Lib.hid heq
  have hcx := fun W => common_any x (triV t) W
  have hcd := fun W => common_any d lv W
  clear hlk hx hxo hgs hgd hd hR hR2 heq h hlt
  obtain ⟨id, sale, cred, ref, day, cty, num, cur, ls⟩ := d
  obtain ⟨id', sale', cred', ref', day', cty', num', cur', ls'⟩ := x
  obtain ⟨tA, tn, tc⟩ := t
  simp only [Dm.vs, triV] at hcx hcd HLK
  have HCX := Lib.hid hcx
  have HCD := Lib.hid hcd
  clear hcx hcd
  go_enter Try.func45, Try.ntmps45
  go_upto_region 1 with fail
  refine wp_region_headE 11 2 9 (by decide) (.bool ok) _ rfl (by kernel_rfl) [isS (.pointer (some ⟨g, 0, none⟩)), isS (.pointer (some ⟨g, 0, none⟩)), isS (.pointer (some ⟨g, 0, none⟩)), isS (.map (some bd)), isS (.pointer (some ⟨gd, 3, none⟩)), isS (.string ref), isS (.tuple #[.agg #[.string id', .bool sale', .bool cred', .string ref', .int .i64 day', .string cty', .string num', .string cur', .slice tA tn tc], .bool ok]), isS (.tuple #[.agg #[.string id', .bool sale', .bool cred', .string ref', .int .i64 day', .string cty', .string num', .string cur', .slice tA tn tc], .bool ok]), isS (.agg #[.string id', .bool sale', .bool cred', .string ref', .int .i64 day', .string cty', .string num', .string cur', .slice tA tn tc]), isS (.bool ok), boxZ w.heap.size] (by kernel_rfl) (by kernel_rfl) (by kernel_rfl) (by decide) rfl (by kernel_rfl) (fun _ _ _ h => h) (by kernel_rfl) (by kernel_rfl) (fun a W hd => by
      have s7 : a.tmps[5]?.getD undef = .tuple #[.agg #[.string id', .bool sale', .bool cred', .string ref', .int .i64 day', .string cty', .string num', .string cur', .slice tA tn tc], .bool ok] := hd 7 (by decide) (by kernel_rfl)
      exact .inl ⟨by rfl, fun w => by go_simp⟩) (fun _ => rfl) (fun q hq => ?_) (fun a w5 hc hs => ?_)
  · match q, hq with
    | 0, _ =>
      intro a W hc hd
      have z0 := hc.same 0 (by kernel_rfl)
      simp only [List.getElem?_toArray, List.getElem?_cons_zero, Option.getD_some] at z0
      have y := HGS.out W ((Below.refl w.heap.size w).drew.trans hc.below)
      refine obl_val rfl (wanted_none rfl) ?_ rfl
      go_simp
    | 1, _ =>
      intro a W hc hd
      have s0 : a.tmps[6]?.getD undef = (.pointer (some ⟨g, 0, none⟩)) := hd 0 (by decide) (by kernel_rfl)
      refine obl_val rfl (wanted_none rfl) ?_ rfl
      go_simp
    | 2, _ =>
      intro a W hc hd
      have s1 : a.tmps[7]?.getD undef = (.pointer (some ⟨g, 0, none⟩)) := hd 1 (by decide) (by kernel_rfl)
      refine obl_val rfl (wanted_none rfl) ?_ rfl
      go_simp
    | 3, _ =>
      intro a W hc hd
      have s2 : a.tmps[8]?.getD undef = (.pointer (some ⟨g, 0, none⟩)) := hd 2 (by decide) (by kernel_rfl)
      obtain ⟨y, _⟩ := HLK.out W ((Below.refl w.heap.size w).drew.trans hc.below)
      refine obl_val rfl (wanted_none rfl) ?_ rfl
      go_simp
    | 4, _ =>
      intro a W hc hd
      have z1 := hc.same 1 (by kernel_rfl)
      simp only [List.getElem?_toArray, List.getElem?_cons_succ, List.getElem?_cons_zero, Option.getD_some] at z1
      refine obl_val rfl (wanted_none rfl) ?_ rfl
      go_simp
    | 5, _ =>
      intro a W hc hd
      have s4 : a.tmps[10]?.getD undef = (.pointer (some ⟨gd, 3, none⟩)) := hd 4 (by decide) (by kernel_rfl)
      obtain ⟨y0, y1, y2, y3, y4, y5, y6, y7, y8⟩ := (HGD.out W ((Below.refl w.heap.size w).drew.trans hc.below)).box
      simp only at y0 y1 y2 y3 y4 y5 y6 y7 y8
      refine obl_val rfl (wanted_none rfl) ?_ rfl
      go_simp
    | 6, _ =>
      intro a W hc hd
      have s3 : a.tmps[9]?.getD undef = (.map (some bd)) := hd 3 (by decide) (by kernel_rfl)
      have s5 : a.tmps[11]?.getD undef = (.string ref) := hd 5 (by decide) (by kernel_rfl)
      obtain ⟨_, y⟩ := HLK.out W ((Below.refl w.heap.size w).drew.trans hc.below)
      refine obl_val rfl (wanted_none rfl) ?_ rfl
      go_simp
    | 7, _ =>
      intro a W hc hd
      have s6 : a.tmps[12]?.getD undef = (.tuple #[.agg #[.string id', .bool sale', .bool cred', .string ref', .int .i64 day', .string cty', .string num', .string cur', .slice tA tn tc], .bool ok]) := hd 6 (by decide) (by kernel_rfl)
      refine obl_val rfl (wanted_none rfl) ?_ rfl
      go_simp
    | 8, _ =>
      intro a W hc hd
      have s7 : a.tmps[5]?.getD undef = (.tuple #[.agg #[.string id', .bool sale', .bool cred', .string ref', .int .i64 day', .string cty', .string num', .string cur', .slice tA tn tc], .bool ok]) := hd 7 (by decide) (by kernel_rfl)
      refine obl_val rfl (wanted_none rfl) ?_ rfl
      go_simp
    | 9, _ =>
      intro a W hc hd
      have s7 : a.tmps[5]?.getD undef = (.tuple #[.agg #[.string id', .bool sale', .bool cred', .string ref', .int .i64 day', .string cty', .string num', .string cur', .slice tA tn tc], .bool ok]) := hd 7 (by decide) (by kernel_rfl)
      refine obl_val rfl (wanted_none rfl) ?_ rfl
      go_simp
    | 10, _ =>
      intro a W hc hd
      refine obl_grow rfl (wanted_none rfl) (v := .pointer (some ⟨W.heap.size, 0, none⟩)) (w' := W.alloc (.cells #[.string ⟨#[]⟩, .bool false, .bool false, .string ⟨#[]⟩, .int .i64 0, .string ⟨#[]⟩, .string ⟨#[]⟩, .string ⟨#[]⟩, .slice none 0 0] 25)) ?_ ⟨_, rfl, heap_alloc_new W _, ((Below.refl w.heap.size w).drew.trans hc.below).size⟩ ((Below.refl W.heap.size W).alloc (Nat.le_refl _) _)
      go_simp
    | n + 11, h => exact absurd h (by omega)
  · have hbx := hs 10 3 (by decide) (by kernel_rfl)
    have hfr := grow_frameN hc [(6, (.pointer (some ⟨g, 0, none⟩))), (7, (.pointer (some ⟨g, 0, none⟩))), (8, (.pointer (some ⟨g, 0, none⟩))), (9, (.map (some bd))), (10, (.pointer (some ⟨gd, 3, none⟩))), (11, (.string ref)), (12, (.tuple #[.agg #[.string id', .bool sale', .bool cred', .string ref', .int .i64 day', .string cty', .string num', .string cur', .slice tA tn tc], .bool ok])), (5, (.tuple #[.agg #[.string id', .bool sale', .bool cred', .string ref', .int .i64 day', .string cty', .string num', .string cur', .slice tA tn tc], .bool ok])), (13, (.agg #[.string id', .bool sale', .bool cred', .string ref', .int .i64 day', .string cty', .string num', .string cur', .slice tA tn tc])), (14, (.bool ok)), (3, a.tmps[3]?.getD undef)] (by kernel_rfl) (fun p hp => by
        simp only [List.mem_cons, List.not_mem_nil, or_false] at hp
        rcases hp with rfl | rfl | rfl | rfl | rfl | rfl | rfl | rfl | rfl | rfl | rfl
        · exact hs 0 6 (by decide) (by kernel_rfl)
        · exact hs 1 7 (by decide) (by kernel_rfl)
        · exact hs 2 8 (by decide) (by kernel_rfl)
        · exact hs 3 9 (by decide) (by kernel_rfl)
        · exact hs 4 10 (by decide) (by kernel_rfl)
        · exact hs 5 11 (by decide) (by kernel_rfl)
        · exact hs 6 12 (by decide) (by kernel_rfl)
        · exact hs 7 5 (by decide) (by kernel_rfl)
        · exact hs 8 13 (by decide) (by kernel_rfl)
        · exact hs 9 14 (by decide) (by kernel_rfl)
        · rfl
        )
    generalize a.tmps[3]?.getD undef = z3 at hfr hbx
    simp only [List.range, List.range.loop, List.size_toArray, List.length_cons, List.length_nil, List.map_cons, List.map_nil, List.lookup_cons, List.lookup_nil, Nat.reduceAdd, Nat.reduceBEq, Option.getD_some, Option.getD_none, List.getElem?_toArray, List.getElem?_cons_succ, List.getElem?_cons_zero] at hfr
    subst hfr
    obtain ⟨b5, rfl, hbx5, hlo5⟩ := hbx
    have HB5 := Lib.hid ((Below.refl w.heap.size w).drew.trans hc.below)
    have hz := hbx5.box
    obtain ⟨f0, f1, f2, f3, f4, f5, f6, f7, f8⟩ := hbx5.free
    obtain ⟨x0, x1, x2, x3, x4, x5, x6, x7, x8⟩ := hz
    simp only [Dm.zero] at x0 x1 x2 x3 x4 x5 x6 x7 x8
    have hst := hbx5.set ⟨id', sale', cred', ref', day', cty', num', cur', ls'⟩ (.slice tA tn tc)
    simp only [setD] at hst
    have HST := Lib.hid hst
    clear hs hc hst hbx5
    refine wpAny_seq 11 2 (by kernel_rfl) (by kernel_rfl) ?_
    simp only [List.drop_succ_cons, List.drop_zero]
    go_upto_region 2 with fail
    generalize World.setCell (World.setCell _ _ _) ⟨b5, 8, none⟩ (.slice tA tn tc) = w6 at HST ⊢

    have hgd5 := HGD.out _ HB5.out
    have hgl : gd < w.heap.size := lt_of_blk (HGD.out w (Below.refl _ _))
    have HX6 := Lib.hid HST.out.1
    have HD6 := Lib.hid (show DBlk w6 gd ⟨id, sale, cred, ref, day, cty, num, cur, ls⟩ lv from HST.out.2.heap hgd5 (by omega))
    have HB6 := Lib.hid (HB5.out.trans (HST.out.2.toBelow (B := w.heap.size) HB5.out.size (fun b hb => by omega)))
    clear hgd5 HST x0 x1 x2 x3 x4 x5 x6 x7 x8 f0 f1 f2 f3 f4 f5 f6 f7 f8
    have hR := HR.out
    cases ok
    · simp only [Bool.false_and] at hR
      subst hR
      refine wp_region_sp (by kernel_rfl) [isS (.bool false), isS (.bool false), isS undef, isS undef, isS undef, isS (.bool false), isS (.bool false), isS undef, isS undef, isS undef, isS undef, isS undef, isS (.bool false), isS (.bool false), isS undef, isS undef, isS undef, isS undef, isS undef, isS (.bool false), isS (.bool false)] (by kernel_rfl) (by kernel_rfl) (fun q hq => ?_) (fun a' w7 hc hs => ?_)
      · match q, hq with
        | 0, _ =>
          intro a W hc hd
          have z4 := hc.same 4 (by kernel_rfl)
          simp only [List.getElem?_toArray, List.getElem?_cons_succ, List.getElem?_cons_zero, Option.getD_some] at z4
          refine obl_val rfl (wanted_none rfl) ?_ rfl
          go_simp
        | 1, _ =>
          intro a W hc hd
          have s0 : a.tmps[15]?.getD undef = (.bool false) := hd 0 (by kernel_rfl)
          refine obl_val rfl (wanted_none rfl) ?_ rfl
          go_simp
        | 2, _ =>
          intro a W hc hd
          have z3 := hc.same 3 (by kernel_rfl)
          have s1 : a.tmps[16]?.getD undef = (.bool false) := hd 1 (by kernel_rfl)
          simp only [List.getElem?_toArray, List.getElem?_cons_succ, List.getElem?_cons_zero, Option.getD_some] at z3
          exact obl_skip rfl (wanted_not rfl rfl s1) rfl
        | 3, _ =>
          intro a W hc hd
          have s2 : a.tmps[17]?.getD undef = undef := hd 2 (by kernel_rfl)
          have s1 : a.tmps[16]?.getD undef = (.bool false) := hd 1 (by kernel_rfl)
          exact obl_skip rfl (wanted_not rfl rfl s1) rfl
        | 4, _ =>
          intro a W hc hd
          have s3 : a.tmps[18]?.getD undef = undef := hd 3 (by kernel_rfl)
          have s1 : a.tmps[16]?.getD undef = (.bool false) := hd 1 (by kernel_rfl)
          exact obl_skip rfl (wanted_not rfl rfl s1) rfl
        | 5, _ =>
          intro a W hc hd
          have s1 : a.tmps[16]?.getD undef = (.bool false) := hd 1 (by kernel_rfl)
          have s4 : a.tmps[19]?.getD undef = undef := hd 4 (by kernel_rfl)
          refine obl_val rfl (wanted_none rfl) ?_ rfl
          go_simp
        | 6, _ =>
          intro a W hc hd
          have s5 : a.tmps[20]?.getD undef = (.bool false) := hd 5 (by kernel_rfl)
          refine obl_val rfl (wanted_none rfl) ?_ rfl
          go_simp
        | 7, _ =>
          intro a W hc hd
          have z3 := hc.same 3 (by kernel_rfl)
          have s6 : a.tmps[21]?.getD undef = (.bool false) := hd 6 (by kernel_rfl)
          simp only [List.getElem?_toArray, List.getElem?_cons_succ, List.getElem?_cons_zero, Option.getD_some] at z3
          exact obl_skip rfl (wanted_not rfl rfl s6) rfl
        | 8, _ =>
          intro a W hc hd
          have s7 : a.tmps[22]?.getD undef = undef := hd 7 (by kernel_rfl)
          have s6 : a.tmps[21]?.getD undef = (.bool false) := hd 6 (by kernel_rfl)
          exact obl_skip rfl (wanted_not rfl rfl s6) rfl
        | 9, _ =>
          intro a W hc hd
          have z1 := hc.same 1 (by kernel_rfl)
          have s6 : a.tmps[21]?.getD undef = (.bool false) := hd 6 (by kernel_rfl)
          simp only [List.getElem?_toArray, List.getElem?_cons_succ, List.getElem?_cons_zero, Option.getD_some] at z1
          exact obl_skip rfl (wanted_not rfl rfl s6) rfl
        | 10, _ =>
          intro a W hc hd
          have s9 : a.tmps[24]?.getD undef = undef := hd 9 (by kernel_rfl)
          have s6 : a.tmps[21]?.getD undef = (.bool false) := hd 6 (by kernel_rfl)
          exact obl_skip rfl (wanted_not rfl rfl s6) rfl
        | 11, _ =>
          intro a W hc hd
          have s8 : a.tmps[23]?.getD undef = undef := hd 8 (by kernel_rfl)
          have s10 : a.tmps[25]?.getD undef = undef := hd 10 (by kernel_rfl)
          have s6 : a.tmps[21]?.getD undef = (.bool false) := hd 6 (by kernel_rfl)
          exact obl_skip rfl (wanted_not rfl rfl s6) rfl
        | 12, _ =>
          intro a W hc hd
          have s6 : a.tmps[21]?.getD undef = (.bool false) := hd 6 (by kernel_rfl)
          have s11 : a.tmps[26]?.getD undef = undef := hd 11 (by kernel_rfl)
          refine obl_val rfl (wanted_none rfl) ?_ rfl
          go_simp
        | 13, _ =>
          intro a W hc hd
          have s12 : a.tmps[27]?.getD undef = (.bool false) := hd 12 (by kernel_rfl)
          refine obl_val rfl (wanted_none rfl) ?_ rfl
          go_simp
        | 14, _ =>
          intro a W hc hd
          have z3 := hc.same 3 (by kernel_rfl)
          have s13 : a.tmps[28]?.getD undef = (.bool false) := hd 13 (by kernel_rfl)
          simp only [List.getElem?_toArray, List.getElem?_cons_succ, List.getElem?_cons_zero, Option.getD_some] at z3
          exact obl_skip rfl (wanted_not rfl rfl s13) rfl
        | 15, _ =>
          intro a W hc hd
          have s14 : a.tmps[29]?.getD undef = undef := hd 14 (by kernel_rfl)
          have s13 : a.tmps[28]?.getD undef = (.bool false) := hd 13 (by kernel_rfl)
          exact obl_skip rfl (wanted_not rfl rfl s13) rfl
        | 16, _ =>
          intro a W hc hd
          have z1 := hc.same 1 (by kernel_rfl)
          have s13 : a.tmps[28]?.getD undef = (.bool false) := hd 13 (by kernel_rfl)
          simp only [List.getElem?_toArray, List.getElem?_cons_succ, List.getElem?_cons_zero, Option.getD_some] at z1
          exact obl_skip rfl (wanted_not rfl rfl s13) rfl
        | 17, _ =>
          intro a W hc hd
          have s16 : a.tmps[31]?.getD undef = undef := hd 16 (by kernel_rfl)
          have s13 : a.tmps[28]?.getD undef = (.bool false) := hd 13 (by kernel_rfl)
          exact obl_skip rfl (wanted_not rfl rfl s13) rfl
        | 18, _ =>
          intro a W hc hd
          have s15 : a.tmps[30]?.getD undef = undef := hd 15 (by kernel_rfl)
          have s17 : a.tmps[32]?.getD undef = undef := hd 17 (by kernel_rfl)
          have s13 : a.tmps[28]?.getD undef = (.bool false) := hd 13 (by kernel_rfl)
          exact obl_skip rfl (wanted_not rfl rfl s13) rfl
        | 19, _ =>
          intro a W hc hd
          have s13 : a.tmps[28]?.getD undef = (.bool false) := hd 13 (by kernel_rfl)
          have s18 : a.tmps[33]?.getD undef = undef := hd 18 (by kernel_rfl)
          refine obl_val rfl (wanted_none rfl) ?_ rfl
          go_simp
        | 20, _ =>
          intro a W hc hd
          have s19 : a.tmps[34]?.getD undef = (.bool false) := hd 19 (by kernel_rfl)
          refine obl_val rfl (wanted_none rfl) ?_ rfl
          go_simp
        | n + 21, h => exact absurd h (by simp)
      · have HB7 := Lib.hid (HB6.out.trans (((Below.refl w6.heap.size w6).drew.trans hc.below).mono HB6.out.size))
        have hfr := grow_frame hc [(15, (.bool false)), (16, (.bool false)), (17, undef), (18, undef), (19, undef), (20, (.bool false)), (21, (.bool false)), (22, undef), (23, undef), (24, undef), (25, undef), (26, undef), (27, (.bool false)), (28, (.bool false)), (29, undef), (30, undef), (31, undef), (32, undef), (33, undef), (34, (.bool false)), (2, (.bool false))] (by kernel_rfl) (fun p hp => by
            simp only [List.mem_cons, List.not_mem_nil, or_false] at hp
            rcases hp with rfl | rfl | rfl | rfl | rfl | rfl | rfl | rfl | rfl | rfl | rfl | rfl | rfl | rfl | rfl | rfl | rfl | rfl | rfl | rfl | rfl
            · exact hs 0 15 (by decide) (by kernel_rfl)
            · exact hs 1 16 (by decide) (by kernel_rfl)
            · exact hs 2 17 (by decide) (by kernel_rfl)
            · exact hs 3 18 (by decide) (by kernel_rfl)
            · exact hs 4 19 (by decide) (by kernel_rfl)
            · exact hs 5 20 (by decide) (by kernel_rfl)
            · exact hs 6 21 (by decide) (by kernel_rfl)
            · exact hs 7 22 (by decide) (by kernel_rfl)
            · exact hs 8 23 (by decide) (by kernel_rfl)
            · exact hs 9 24 (by decide) (by kernel_rfl)
            · exact hs 10 25 (by decide) (by kernel_rfl)
            · exact hs 11 26 (by decide) (by kernel_rfl)
            · exact hs 12 27 (by decide) (by kernel_rfl)
            · exact hs 13 28 (by decide) (by kernel_rfl)
            · exact hs 14 29 (by decide) (by kernel_rfl)
            · exact hs 15 30 (by decide) (by kernel_rfl)
            · exact hs 16 31 (by decide) (by kernel_rfl)
            · exact hs 17 32 (by decide) (by kernel_rfl)
            · exact hs 18 33 (by decide) (by kernel_rfl)
            · exact hs 19 34 (by decide) (by kernel_rfl)
            · exact hs 20 2 (by decide) (by kernel_rfl)
            )
        simp only [List.range, List.range.loop, List.size_toArray, List.length_cons, List.length_nil, List.map_cons, List.map_nil, List.lookup_cons, List.lookup_nil, Nat.reduceAdd, Nat.reduceBEq, Option.getD_some, Option.getD_none, List.getElem?_toArray, List.getElem?_cons_succ, List.getElem?_cons_zero] at hfr
        subst hfr
        clear hs hc
        go_wp2
        go_ret
        exact ⟨rfl, HB7.out⟩
    cases cred'
    case true =>
      simp only [Bool.not_true, Bool.false_and, Bool.and_false] at hR
      subst hR
      refine wp_region_sp (by kernel_rfl) [isS (.bool true), isS (.bool true), isS (.pointer (some ⟨b5, 2, none⟩)), isS (.bool true), isS (.bool false), isS (.bool false), isS (.bool false), isS undef, isS undef, isS undef, isS undef, isS undef, isS (.bool false), isS (.bool false), isS undef, isS undef, isS undef, isS undef, isS undef, isS (.bool false), isS (.bool false)] (by kernel_rfl) (by kernel_rfl) (fun q hq => ?_) (fun a' w7 hc hs => ?_)
      · match q, hq with
        | 0, _ =>
          intro a W hc hd
          have z4 := hc.same 4 (by kernel_rfl)
          simp only [List.getElem?_toArray, List.getElem?_cons_succ, List.getElem?_cons_zero, Option.getD_some] at z4
          refine obl_val rfl (wanted_none rfl) ?_ rfl
          go_simp
        | 1, _ =>
          intro a W hc hd
          have s0 : a.tmps[15]?.getD undef = (.bool true) := hd 0 (by kernel_rfl)
          refine obl_val rfl (wanted_none rfl) ?_ rfl
          go_simp
        | 2, _ =>
          intro a W hc hd
          have z3 := hc.same 3 (by kernel_rfl)
          have s1 : a.tmps[16]?.getD undef = (.bool true) := hd 1 (by kernel_rfl)
          simp only [List.getElem?_toArray, List.getElem?_cons_succ, List.getElem?_cons_zero, Option.getD_some] at z3
          refine obl_val rfl (wanted_some rfl rfl s1) ?_ rfl
          go_simp
        | 3, _ =>
          intro a W hc hd
          have s2 : a.tmps[17]?.getD undef = (.pointer (some ⟨b5, 2, none⟩)) := hd 2 (by kernel_rfl)
          have s1 : a.tmps[16]?.getD undef = (.bool true) := hd 1 (by kernel_rfl)
          obtain ⟨y0, y1, y2, y3, y4, y5, y6, y7, y8⟩ := (HX6.out.below ((Below.refl w6.heap.size w6).drew.trans hc.below)).box
          simp only at y0 y1 y2 y3 y4 y5 y6 y7 y8
          refine obl_val rfl (wanted_some rfl rfl s1) ?_ rfl
          go_simp
        | 4, _ =>
          intro a W hc hd
          have s3 : a.tmps[18]?.getD undef = (.bool true) := hd 3 (by kernel_rfl)
          have s1 : a.tmps[16]?.getD undef = (.bool true) := hd 1 (by kernel_rfl)
          refine obl_val rfl (wanted_some rfl rfl s1) ?_ rfl
          go_simp
        | 5, _ =>
          intro a W hc hd
          have s1 : a.tmps[16]?.getD undef = (.bool true) := hd 1 (by kernel_rfl)
          have s4 : a.tmps[19]?.getD undef = (.bool false) := hd 4 (by kernel_rfl)
          refine obl_val rfl (wanted_none rfl) ?_ rfl
          go_simp
        | 6, _ =>
          intro a W hc hd
          have s5 : a.tmps[20]?.getD undef = (.bool false) := hd 5 (by kernel_rfl)
          refine obl_val rfl (wanted_none rfl) ?_ rfl
          go_simp
        | 7, _ =>
          intro a W hc hd
          have z3 := hc.same 3 (by kernel_rfl)
          have s6 : a.tmps[21]?.getD undef = (.bool false) := hd 6 (by kernel_rfl)
          simp only [List.getElem?_toArray, List.getElem?_cons_succ, List.getElem?_cons_zero, Option.getD_some] at z3
          exact obl_skip rfl (wanted_not rfl rfl s6) rfl
        | 8, _ =>
          intro a W hc hd
          have s7 : a.tmps[22]?.getD undef = undef := hd 7 (by kernel_rfl)
          have s6 : a.tmps[21]?.getD undef = (.bool false) := hd 6 (by kernel_rfl)
          exact obl_skip rfl (wanted_not rfl rfl s6) rfl
        | 9, _ =>
          intro a W hc hd
          have z1 := hc.same 1 (by kernel_rfl)
          have s6 : a.tmps[21]?.getD undef = (.bool false) := hd 6 (by kernel_rfl)
          simp only [List.getElem?_toArray, List.getElem?_cons_succ, List.getElem?_cons_zero, Option.getD_some] at z1
          exact obl_skip rfl (wanted_not rfl rfl s6) rfl
        | 10, _ =>
          intro a W hc hd
          have s9 : a.tmps[24]?.getD undef = undef := hd 9 (by kernel_rfl)
          have s6 : a.tmps[21]?.getD undef = (.bool false) := hd 6 (by kernel_rfl)
          exact obl_skip rfl (wanted_not rfl rfl s6) rfl
        | 11, _ =>
          intro a W hc hd
          have s8 : a.tmps[23]?.getD undef = undef := hd 8 (by kernel_rfl)
          have s10 : a.tmps[25]?.getD undef = undef := hd 10 (by kernel_rfl)
          have s6 : a.tmps[21]?.getD undef = (.bool false) := hd 6 (by kernel_rfl)
          exact obl_skip rfl (wanted_not rfl rfl s6) rfl
        | 12, _ =>
          intro a W hc hd
          have s6 : a.tmps[21]?.getD undef = (.bool false) := hd 6 (by kernel_rfl)
          have s11 : a.tmps[26]?.getD undef = undef := hd 11 (by kernel_rfl)
          refine obl_val rfl (wanted_none rfl) ?_ rfl
          go_simp
        | 13, _ =>
          intro a W hc hd
          have s12 : a.tmps[27]?.getD undef = (.bool false) := hd 12 (by kernel_rfl)
          refine obl_val rfl (wanted_none rfl) ?_ rfl
          go_simp
        | 14, _ =>
          intro a W hc hd
          have z3 := hc.same 3 (by kernel_rfl)
          have s13 : a.tmps[28]?.getD undef = (.bool false) := hd 13 (by kernel_rfl)
          simp only [List.getElem?_toArray, List.getElem?_cons_succ, List.getElem?_cons_zero, Option.getD_some] at z3
          exact obl_skip rfl (wanted_not rfl rfl s13) rfl
        | 15, _ =>
          intro a W hc hd
          have s14 : a.tmps[29]?.getD undef = undef := hd 14 (by kernel_rfl)
          have s13 : a.tmps[28]?.getD undef = (.bool false) := hd 13 (by kernel_rfl)
          exact obl_skip rfl (wanted_not rfl rfl s13) rfl
        | 16, _ =>
          intro a W hc hd
          have z1 := hc.same 1 (by kernel_rfl)
          have s13 : a.tmps[28]?.getD undef = (.bool false) := hd 13 (by kernel_rfl)
          simp only [List.getElem?_toArray, List.getElem?_cons_succ, List.getElem?_cons_zero, Option.getD_some] at z1
          exact obl_skip rfl (wanted_not rfl rfl s13) rfl
        | 17, _ =>
          intro a W hc hd
          have s16 : a.tmps[31]?.getD undef = undef := hd 16 (by kernel_rfl)
          have s13 : a.tmps[28]?.getD undef = (.bool false) := hd 13 (by kernel_rfl)
          exact obl_skip rfl (wanted_not rfl rfl s13) rfl
        | 18, _ =>
          intro a W hc hd
          have s15 : a.tmps[30]?.getD undef = undef := hd 15 (by kernel_rfl)
          have s17 : a.tmps[32]?.getD undef = undef := hd 17 (by kernel_rfl)
          have s13 : a.tmps[28]?.getD undef = (.bool false) := hd 13 (by kernel_rfl)
          exact obl_skip rfl (wanted_not rfl rfl s13) rfl
        | 19, _ =>
          intro a W hc hd
          have s13 : a.tmps[28]?.getD undef = (.bool false) := hd 13 (by kernel_rfl)
          have s18 : a.tmps[33]?.getD undef = undef := hd 18 (by kernel_rfl)
          refine obl_val rfl (wanted_none rfl) ?_ rfl
          go_simp
        | 20, _ =>
          intro a W hc hd
          have s19 : a.tmps[34]?.getD undef = (.bool false) := hd 19 (by kernel_rfl)
          refine obl_val rfl (wanted_none rfl) ?_ rfl
          go_simp
        | n + 21, h => exact absurd h (by simp)
      · have HB7 := Lib.hid (HB6.out.trans (((Below.refl w6.heap.size w6).drew.trans hc.below).mono HB6.out.size))
        have hfr := grow_frame hc [(15, (.bool true)), (16, (.bool true)), (17, (.pointer (some ⟨b5, 2, none⟩))), (18, (.bool true)), (19, (.bool false)), (20, (.bool false)), (21, (.bool false)), (22, undef), (23, undef), (24, undef), (25, undef), (26, undef), (27, (.bool false)), (28, (.bool false)), (29, undef), (30, undef), (31, undef), (32, undef), (33, undef), (34, (.bool false)), (2, (.bool false))] (by kernel_rfl) (fun p hp => by
            simp only [List.mem_cons, List.not_mem_nil, or_false] at hp
            rcases hp with rfl | rfl | rfl | rfl | rfl | rfl | rfl | rfl | rfl | rfl | rfl | rfl | rfl | rfl | rfl | rfl | rfl | rfl | rfl | rfl | rfl
            · exact hs 0 15 (by decide) (by kernel_rfl)
            · exact hs 1 16 (by decide) (by kernel_rfl)
            · exact hs 2 17 (by decide) (by kernel_rfl)
            · exact hs 3 18 (by decide) (by kernel_rfl)
            · exact hs 4 19 (by decide) (by kernel_rfl)
            · exact hs 5 20 (by decide) (by kernel_rfl)
            · exact hs 6 21 (by decide) (by kernel_rfl)
            · exact hs 7 22 (by decide) (by kernel_rfl)
            · exact hs 8 23 (by decide) (by kernel_rfl)
            · exact hs 9 24 (by decide) (by kernel_rfl)
            · exact hs 10 25 (by decide) (by kernel_rfl)
            · exact hs 11 26 (by decide) (by kernel_rfl)
            · exact hs 12 27 (by decide) (by kernel_rfl)
            · exact hs 13 28 (by decide) (by kernel_rfl)
            · exact hs 14 29 (by decide) (by kernel_rfl)
            · exact hs 15 30 (by decide) (by kernel_rfl)
            · exact hs 16 31 (by decide) (by kernel_rfl)
            · exact hs 17 32 (by decide) (by kernel_rfl)
            · exact hs 18 33 (by decide) (by kernel_rfl)
            · exact hs 19 34 (by decide) (by kernel_rfl)
            · exact hs 20 2 (by decide) (by kernel_rfl)
            )
        simp only [List.range, List.range.loop, List.size_toArray, List.length_cons, List.length_nil, List.map_cons, List.map_nil, List.lookup_cons, List.lookup_nil, Nat.reduceAdd, Nat.reduceBEq, Option.getD_some, Option.getD_none, List.getElem?_toArray, List.getElem?_cons_succ, List.getElem?_cons_zero] at hfr
        subst hfr
        clear hs hc
        go_wp2
        go_ret
        exact ⟨rfl, HB7.out⟩
    cases E
    · simp only [Bool.false_and, Bool.and_false] at hR
      subst hR
      refine wp_region_sp (by kernel_rfl) [isS (.bool true), isS (.bool true), isS (.pointer (some ⟨b5, 2, none⟩)), isS (.bool false), isS (.bool true), isS (.bool true), isS (.bool true), isS (.agg #[.string id', .bool sale', .bool false, .string ref', .int .i64 day', .string cty', .string num', .string cur', .slice tA tn tc]), isS (.agg #[.bool sale', .string cty', .string num', .string cur']), isS (.agg #[.string id, .bool sale, .bool cred, .string ref, .int .i64 day, .string cty, .string num, .string cur, lv]), isS (.agg #[.bool sale, .string cty, .string num, .string cur]), isS (.bool false), isS (.bool false), isS (.bool false), isS undef, isS undef, isS undef, isS undef, isS undef, isS (.bool false), isS (.bool false)] (by kernel_rfl) (by kernel_rfl) (fun q hq => ?_) (fun a' w7 hc hs => ?_)
      · match q, hq with
        | 0, _ =>
          intro a W hc hd
          have z4 := hc.same 4 (by kernel_rfl)
          simp only [List.getElem?_toArray, List.getElem?_cons_succ, List.getElem?_cons_zero, Option.getD_some] at z4
          refine obl_val rfl (wanted_none rfl) ?_ rfl
          go_simp
        | 1, _ =>
          intro a W hc hd
          have s0 : a.tmps[15]?.getD undef = (.bool true) := hd 0 (by kernel_rfl)
          refine obl_val rfl (wanted_none rfl) ?_ rfl
          go_simp
        | 2, _ =>
          intro a W hc hd
          have z3 := hc.same 3 (by kernel_rfl)
          have s1 : a.tmps[16]?.getD undef = (.bool true) := hd 1 (by kernel_rfl)
          simp only [List.getElem?_toArray, List.getElem?_cons_succ, List.getElem?_cons_zero, Option.getD_some] at z3
          refine obl_val rfl (wanted_some rfl rfl s1) ?_ rfl
          go_simp
        | 3, _ =>
          intro a W hc hd
          have s2 : a.tmps[17]?.getD undef = (.pointer (some ⟨b5, 2, none⟩)) := hd 2 (by kernel_rfl)
          have s1 : a.tmps[16]?.getD undef = (.bool true) := hd 1 (by kernel_rfl)
          obtain ⟨y0, y1, y2, y3, y4, y5, y6, y7, y8⟩ := (HX6.out.below ((Below.refl w6.heap.size w6).drew.trans hc.below)).box
          simp only at y0 y1 y2 y3 y4 y5 y6 y7 y8
          refine obl_val rfl (wanted_some rfl rfl s1) ?_ rfl
          go_simp
        | 4, _ =>
          intro a W hc hd
          have s3 : a.tmps[18]?.getD undef = (.bool false) := hd 3 (by kernel_rfl)
          have s1 : a.tmps[16]?.getD undef = (.bool true) := hd 1 (by kernel_rfl)
          refine obl_val rfl (wanted_some rfl rfl s1) ?_ rfl
          go_simp
        | 5, _ =>
          intro a W hc hd
          have s1 : a.tmps[16]?.getD undef = (.bool true) := hd 1 (by kernel_rfl)
          have s4 : a.tmps[19]?.getD undef = (.bool true) := hd 4 (by kernel_rfl)
          refine obl_val rfl (wanted_none rfl) ?_ rfl
          go_simp
        | 6, _ =>
          intro a W hc hd
          have s5 : a.tmps[20]?.getD undef = (.bool true) := hd 5 (by kernel_rfl)
          refine obl_val rfl (wanted_none rfl) ?_ rfl
          go_simp
        | 7, _ =>
          intro a W hc hd
          have z3 := hc.same 3 (by kernel_rfl)
          have s6 : a.tmps[21]?.getD undef = (.bool true) := hd 6 (by kernel_rfl)
          simp only [List.getElem?_toArray, List.getElem?_cons_succ, List.getElem?_cons_zero, Option.getD_some] at z3
          obtain ⟨y0, y1, y2, y3, y4, y5, y6, y7, y8⟩ := (HX6.out.below ((Below.refl w6.heap.size w6).drew.trans hc.below)).box
          simp only at y0 y1 y2 y3 y4 y5 y6 y7 y8
          refine obl_val rfl (wanted_some rfl rfl s6) ?_ rfl
          go_simp
        | 8, _ =>
          intro a W hc hd
          have s7 : a.tmps[22]?.getD undef = (.agg #[.string id', .bool sale', .bool false, .string ref', .int .i64 day', .string cty', .string num', .string cur', .slice tA tn tc]) := hd 7 (by kernel_rfl)
          have s6 : a.tmps[21]?.getD undef = (.bool true) := hd 6 (by kernel_rfl)
          refine obl_call rfl (wanted_some rfl rfl s6) (by go_simp) (HCX.out W) ?_
          rintro e w8 ⟨rfl, hb8⟩
          exact ⟨_, rfl, rfl, hb8⟩
        | 9, _ =>
          intro a W hc hd
          have z1 := hc.same 1 (by kernel_rfl)
          have s6 : a.tmps[21]?.getD undef = (.bool true) := hd 6 (by kernel_rfl)
          simp only [List.getElem?_toArray, List.getElem?_cons_succ, List.getElem?_cons_zero, Option.getD_some] at z1
          obtain ⟨y0, y1, y2, y3, y4, y5, y6, y7, y8⟩ := (HD6.out.below ((Below.refl w6.heap.size w6).drew.trans hc.below)).box
          simp only at y0 y1 y2 y3 y4 y5 y6 y7 y8
          refine obl_val rfl (wanted_some rfl rfl s6) ?_ rfl
          go_simp
        | 10, _ =>
          intro a W hc hd
          have s9 : a.tmps[24]?.getD undef = (.agg #[.string id, .bool sale, .bool cred, .string ref, .int .i64 day, .string cty, .string num, .string cur, lv]) := hd 9 (by kernel_rfl)
          have s6 : a.tmps[21]?.getD undef = (.bool true) := hd 6 (by kernel_rfl)
          refine obl_call rfl (wanted_some rfl rfl s6) (by go_simp) (HCD.out W) ?_
          rintro e w8 ⟨rfl, hb8⟩
          exact ⟨_, rfl, rfl, hb8⟩
        | 11, _ =>
          intro a W hc hd
          have s8 : a.tmps[23]?.getD undef = (.agg #[.bool sale', .string cty', .string num', .string cur']) := hd 8 (by kernel_rfl)
          have s10 : a.tmps[25]?.getD undef = (.agg #[.bool sale, .string cty, .string num, .string cur]) := hd 10 (by kernel_rfl)
          have s6 : a.tmps[21]?.getD undef = (.bool true) := hd 6 (by kernel_rfl)
          refine obl_val rfl (wanted_some rfl rfl s6) ?_ rfl
          exact exec_eqagg rfl (eval_tmp s8) (eval_tmp s10) (by kernel_rfl) (HEQ.out W)
        | 12, _ =>
          intro a W hc hd
          have s6 : a.tmps[21]?.getD undef = (.bool true) := hd 6 (by kernel_rfl)
          have s11 : a.tmps[26]?.getD undef = (.bool false) := hd 11 (by kernel_rfl)
          refine obl_val rfl (wanted_none rfl) ?_ rfl
          go_simp
        | 13, _ =>
          intro a W hc hd
          have s12 : a.tmps[27]?.getD undef = (.bool false) := hd 12 (by kernel_rfl)
          refine obl_val rfl (wanted_none rfl) ?_ rfl
          go_simp
        | 14, _ =>
          intro a W hc hd
          have z3 := hc.same 3 (by kernel_rfl)
          have s13 : a.tmps[28]?.getD undef = (.bool false) := hd 13 (by kernel_rfl)
          simp only [List.getElem?_toArray, List.getElem?_cons_succ, List.getElem?_cons_zero, Option.getD_some] at z3
          exact obl_skip rfl (wanted_not rfl rfl s13) rfl
        | 15, _ =>
          intro a W hc hd
          have s14 : a.tmps[29]?.getD undef = undef := hd 14 (by kernel_rfl)
          have s13 : a.tmps[28]?.getD undef = (.bool false) := hd 13 (by kernel_rfl)
          exact obl_skip rfl (wanted_not rfl rfl s13) rfl
        | 16, _ =>
          intro a W hc hd
          have z1 := hc.same 1 (by kernel_rfl)
          have s13 : a.tmps[28]?.getD undef = (.bool false) := hd 13 (by kernel_rfl)
          simp only [List.getElem?_toArray, List.getElem?_cons_succ, List.getElem?_cons_zero, Option.getD_some] at z1
          exact obl_skip rfl (wanted_not rfl rfl s13) rfl
        | 17, _ =>
          intro a W hc hd
          have s16 : a.tmps[31]?.getD undef = undef := hd 16 (by kernel_rfl)
          have s13 : a.tmps[28]?.getD undef = (.bool false) := hd 13 (by kernel_rfl)
          exact obl_skip rfl (wanted_not rfl rfl s13) rfl
        | 18, _ =>
          intro a W hc hd
          have s15 : a.tmps[30]?.getD undef = undef := hd 15 (by kernel_rfl)
          have s17 : a.tmps[32]?.getD undef = undef := hd 17 (by kernel_rfl)
          have s13 : a.tmps[28]?.getD undef = (.bool false) := hd 13 (by kernel_rfl)
          exact obl_skip rfl (wanted_not rfl rfl s13) rfl
        | 19, _ =>
          intro a W hc hd
          have s13 : a.tmps[28]?.getD undef = (.bool false) := hd 13 (by kernel_rfl)
          have s18 : a.tmps[33]?.getD undef = undef := hd 18 (by kernel_rfl)
          refine obl_val rfl (wanted_none rfl) ?_ rfl
          go_simp
        | 20, _ =>
          intro a W hc hd
          have s19 : a.tmps[34]?.getD undef = (.bool false) := hd 19 (by kernel_rfl)
          refine obl_val rfl (wanted_none rfl) ?_ rfl
          go_simp
        | n + 21, h => exact absurd h (by simp)
      · have HB7 := Lib.hid (HB6.out.trans (((Below.refl w6.heap.size w6).drew.trans hc.below).mono HB6.out.size))
        have hfr := grow_frame hc [(15, (.bool true)), (16, (.bool true)), (17, (.pointer (some ⟨b5, 2, none⟩))), (18, (.bool false)), (19, (.bool true)), (20, (.bool true)), (21, (.bool true)), (22, (.agg #[.string id', .bool sale', .bool false, .string ref', .int .i64 day', .string cty', .string num', .string cur', .slice tA tn tc])), (23, (.agg #[.bool sale', .string cty', .string num', .string cur'])), (24, (.agg #[.string id, .bool sale, .bool cred, .string ref, .int .i64 day, .string cty, .string num, .string cur, lv])), (25, (.agg #[.bool sale, .string cty, .string num, .string cur])), (26, (.bool false)), (27, (.bool false)), (28, (.bool false)), (29, undef), (30, undef), (31, undef), (32, undef), (33, undef), (34, (.bool false)), (2, (.bool false))] (by kernel_rfl) (fun p hp => by
            simp only [List.mem_cons, List.not_mem_nil, or_false] at hp
            rcases hp with rfl | rfl | rfl | rfl | rfl | rfl | rfl | rfl | rfl | rfl | rfl | rfl | rfl | rfl | rfl | rfl | rfl | rfl | rfl | rfl | rfl
            · exact hs 0 15 (by decide) (by kernel_rfl)
            · exact hs 1 16 (by decide) (by kernel_rfl)
            · exact hs 2 17 (by decide) (by kernel_rfl)
            · exact hs 3 18 (by decide) (by kernel_rfl)
            · exact hs 4 19 (by decide) (by kernel_rfl)
            · exact hs 5 20 (by decide) (by kernel_rfl)
            · exact hs 6 21 (by decide) (by kernel_rfl)
            · exact hs 7 22 (by decide) (by kernel_rfl)
            · exact hs 8 23 (by decide) (by kernel_rfl)
            · exact hs 9 24 (by decide) (by kernel_rfl)
            · exact hs 10 25 (by decide) (by kernel_rfl)
            · exact hs 11 26 (by decide) (by kernel_rfl)
            · exact hs 12 27 (by decide) (by kernel_rfl)
            · exact hs 13 28 (by decide) (by kernel_rfl)
            · exact hs 14 29 (by decide) (by kernel_rfl)
            · exact hs 15 30 (by decide) (by kernel_rfl)
            · exact hs 16 31 (by decide) (by kernel_rfl)
            · exact hs 17 32 (by decide) (by kernel_rfl)
            · exact hs 18 33 (by decide) (by kernel_rfl)
            · exact hs 19 34 (by decide) (by kernel_rfl)
            · exact hs 20 2 (by decide) (by kernel_rfl)
            )
        simp only [List.range, List.range.loop, List.size_toArray, List.length_cons, List.length_nil, List.map_cons, List.map_nil, List.lookup_cons, List.lookup_nil, Nat.reduceAdd, Nat.reduceBEq, Option.getD_some, Option.getD_none, List.getElem?_toArray, List.getElem?_cons_succ, List.getElem?_cons_zero] at hfr
        subst hfr
        clear hs hc
        go_wp2
        go_ret
        exact ⟨rfl, HB7.out⟩
    · simp only [Bool.not_false, Bool.true_and] at hR
      subst hR
      refine wp_region_sp (by kernel_rfl) [isS (.bool true), isS (.bool true), isS (.pointer (some ⟨b5, 2, none⟩)), isS (.bool false), isS (.bool true), isS (.bool true), isS (.bool true), isS (.agg #[.string id', .bool sale', .bool false, .string ref', .int .i64 day', .string cty', .string num', .string cur', .slice tA tn tc]), isS (.agg #[.bool sale', .string cty', .string num', .string cur']), isS (.agg #[.string id, .bool sale, .bool cred, .string ref, .int .i64 day, .string cty, .string num, .string cur, lv]), isS (.agg #[.bool sale, .string cty, .string num, .string cur]), isS (.bool true), isS (.bool true), isS (.bool true), isS (.pointer (some ⟨b5, 4, none⟩)), isS (.int .i64 day'), isS (.pointer (some ⟨gd, 4, none⟩)), isS (.int .i64 day), isS (.bool (decide (day' ≤ day))), isS (.bool (decide (day' ≤ day))), isS (.bool (decide (day' ≤ day)))] (by kernel_rfl) (by kernel_rfl) (fun q hq => ?_) (fun a' w7 hc hs => ?_)
      · match q, hq with
        | 0, _ =>
          intro a W hc hd
          have z4 := hc.same 4 (by kernel_rfl)
          simp only [List.getElem?_toArray, List.getElem?_cons_succ, List.getElem?_cons_zero, Option.getD_some] at z4
          refine obl_val rfl (wanted_none rfl) ?_ rfl
          go_simp
        | 1, _ =>
          intro a W hc hd
          have s0 : a.tmps[15]?.getD undef = (.bool true) := hd 0 (by kernel_rfl)
          refine obl_val rfl (wanted_none rfl) ?_ rfl
          go_simp
        | 2, _ =>
          intro a W hc hd
          have z3 := hc.same 3 (by kernel_rfl)
          have s1 : a.tmps[16]?.getD undef = (.bool true) := hd 1 (by kernel_rfl)
          simp only [List.getElem?_toArray, List.getElem?_cons_succ, List.getElem?_cons_zero, Option.getD_some] at z3
          refine obl_val rfl (wanted_some rfl rfl s1) ?_ rfl
          go_simp
        | 3, _ =>
          intro a W hc hd
          have s2 : a.tmps[17]?.getD undef = (.pointer (some ⟨b5, 2, none⟩)) := hd 2 (by kernel_rfl)
          have s1 : a.tmps[16]?.getD undef = (.bool true) := hd 1 (by kernel_rfl)
          obtain ⟨y0, y1, y2, y3, y4, y5, y6, y7, y8⟩ := (HX6.out.below ((Below.refl w6.heap.size w6).drew.trans hc.below)).box
          simp only at y0 y1 y2 y3 y4 y5 y6 y7 y8
          refine obl_val rfl (wanted_some rfl rfl s1) ?_ rfl
          go_simp
        | 4, _ =>
          intro a W hc hd
          have s3 : a.tmps[18]?.getD undef = (.bool false) := hd 3 (by kernel_rfl)
          have s1 : a.tmps[16]?.getD undef = (.bool true) := hd 1 (by kernel_rfl)
          refine obl_val rfl (wanted_some rfl rfl s1) ?_ rfl
          go_simp
        | 5, _ =>
          intro a W hc hd
          have s1 : a.tmps[16]?.getD undef = (.bool true) := hd 1 (by kernel_rfl)
          have s4 : a.tmps[19]?.getD undef = (.bool true) := hd 4 (by kernel_rfl)
          refine obl_val rfl (wanted_none rfl) ?_ rfl
          go_simp
        | 6, _ =>
          intro a W hc hd
          have s5 : a.tmps[20]?.getD undef = (.bool true) := hd 5 (by kernel_rfl)
          refine obl_val rfl (wanted_none rfl) ?_ rfl
          go_simp
        | 7, _ =>
          intro a W hc hd
          have z3 := hc.same 3 (by kernel_rfl)
          have s6 : a.tmps[21]?.getD undef = (.bool true) := hd 6 (by kernel_rfl)
          simp only [List.getElem?_toArray, List.getElem?_cons_succ, List.getElem?_cons_zero, Option.getD_some] at z3
          obtain ⟨y0, y1, y2, y3, y4, y5, y6, y7, y8⟩ := (HX6.out.below ((Below.refl w6.heap.size w6).drew.trans hc.below)).box
          simp only at y0 y1 y2 y3 y4 y5 y6 y7 y8
          refine obl_val rfl (wanted_some rfl rfl s6) ?_ rfl
          go_simp
        | 8, _ =>
          intro a W hc hd
          have s7 : a.tmps[22]?.getD undef = (.agg #[.string id', .bool sale', .bool false, .string ref', .int .i64 day', .string cty', .string num', .string cur', .slice tA tn tc]) := hd 7 (by kernel_rfl)
          have s6 : a.tmps[21]?.getD undef = (.bool true) := hd 6 (by kernel_rfl)
          refine obl_call rfl (wanted_some rfl rfl s6) (by go_simp) (HCX.out W) ?_
          rintro e w8 ⟨rfl, hb8⟩
          exact ⟨_, rfl, rfl, hb8⟩
        | 9, _ =>
          intro a W hc hd
          have z1 := hc.same 1 (by kernel_rfl)
          have s6 : a.tmps[21]?.getD undef = (.bool true) := hd 6 (by kernel_rfl)
          simp only [List.getElem?_toArray, List.getElem?_cons_succ, List.getElem?_cons_zero, Option.getD_some] at z1
          obtain ⟨y0, y1, y2, y3, y4, y5, y6, y7, y8⟩ := (HD6.out.below ((Below.refl w6.heap.size w6).drew.trans hc.below)).box
          simp only at y0 y1 y2 y3 y4 y5 y6 y7 y8
          refine obl_val rfl (wanted_some rfl rfl s6) ?_ rfl
          go_simp
        | 10, _ =>
          intro a W hc hd
          have s9 : a.tmps[24]?.getD undef = (.agg #[.string id, .bool sale, .bool cred, .string ref, .int .i64 day, .string cty, .string num, .string cur, lv]) := hd 9 (by kernel_rfl)
          have s6 : a.tmps[21]?.getD undef = (.bool true) := hd 6 (by kernel_rfl)
          refine obl_call rfl (wanted_some rfl rfl s6) (by go_simp) (HCD.out W) ?_
          rintro e w8 ⟨rfl, hb8⟩
          exact ⟨_, rfl, rfl, hb8⟩
        | 11, _ =>
          intro a W hc hd
          have s8 : a.tmps[23]?.getD undef = (.agg #[.bool sale', .string cty', .string num', .string cur']) := hd 8 (by kernel_rfl)
          have s10 : a.tmps[25]?.getD undef = (.agg #[.bool sale, .string cty, .string num, .string cur]) := hd 10 (by kernel_rfl)
          have s6 : a.tmps[21]?.getD undef = (.bool true) := hd 6 (by kernel_rfl)
          refine obl_val rfl (wanted_some rfl rfl s6) ?_ rfl
          exact exec_eqagg rfl (eval_tmp s8) (eval_tmp s10) (by kernel_rfl) (HEQ.out W)
        | 12, _ =>
          intro a W hc hd
          have s6 : a.tmps[21]?.getD undef = (.bool true) := hd 6 (by kernel_rfl)
          have s11 : a.tmps[26]?.getD undef = (.bool true) := hd 11 (by kernel_rfl)
          refine obl_val rfl (wanted_none rfl) ?_ rfl
          go_simp
        | 13, _ =>
          intro a W hc hd
          have s12 : a.tmps[27]?.getD undef = (.bool true) := hd 12 (by kernel_rfl)
          refine obl_val rfl (wanted_none rfl) ?_ rfl
          go_simp
        | 14, _ =>
          intro a W hc hd
          have z3 := hc.same 3 (by kernel_rfl)
          have s13 : a.tmps[28]?.getD undef = (.bool true) := hd 13 (by kernel_rfl)
          simp only [List.getElem?_toArray, List.getElem?_cons_succ, List.getElem?_cons_zero, Option.getD_some] at z3
          refine obl_val rfl (wanted_some rfl rfl s13) ?_ rfl
          go_simp
        | 15, _ =>
          intro a W hc hd
          have s14 : a.tmps[29]?.getD undef = (.pointer (some ⟨b5, 4, none⟩)) := hd 14 (by kernel_rfl)
          have s13 : a.tmps[28]?.getD undef = (.bool true) := hd 13 (by kernel_rfl)
          obtain ⟨y0, y1, y2, y3, y4, y5, y6, y7, y8⟩ := (HX6.out.below ((Below.refl w6.heap.size w6).drew.trans hc.below)).box
          simp only at y0 y1 y2 y3 y4 y5 y6 y7 y8
          refine obl_val rfl (wanted_some rfl rfl s13) ?_ rfl
          go_simp
        | 16, _ =>
          intro a W hc hd
          have z1 := hc.same 1 (by kernel_rfl)
          have s13 : a.tmps[28]?.getD undef = (.bool true) := hd 13 (by kernel_rfl)
          simp only [List.getElem?_toArray, List.getElem?_cons_succ, List.getElem?_cons_zero, Option.getD_some] at z1
          refine obl_val rfl (wanted_some rfl rfl s13) ?_ rfl
          go_simp
        | 17, _ =>
          intro a W hc hd
          have s16 : a.tmps[31]?.getD undef = (.pointer (some ⟨gd, 4, none⟩)) := hd 16 (by kernel_rfl)
          have s13 : a.tmps[28]?.getD undef = (.bool true) := hd 13 (by kernel_rfl)
          obtain ⟨y0, y1, y2, y3, y4, y5, y6, y7, y8⟩ := (HD6.out.below ((Below.refl w6.heap.size w6).drew.trans hc.below)).box
          simp only at y0 y1 y2 y3 y4 y5 y6 y7 y8
          refine obl_val rfl (wanted_some rfl rfl s13) ?_ rfl
          go_simp
        | 18, _ =>
          intro a W hc hd
          have s15 : a.tmps[30]?.getD undef = (.int .i64 day') := hd 15 (by kernel_rfl)
          have s17 : a.tmps[32]?.getD undef = (.int .i64 day) := hd 17 (by kernel_rfl)
          have s13 : a.tmps[28]?.getD undef = (.bool true) := hd 13 (by kernel_rfl)
          refine obl_val rfl (wanted_some rfl rfl s13) ?_ rfl
          go_simp
        | 19, _ =>
          intro a W hc hd
          have s13 : a.tmps[28]?.getD undef = (.bool true) := hd 13 (by kernel_rfl)
          have s18 : a.tmps[33]?.getD undef = (.bool (decide (day' ≤ day))) := hd 18 (by kernel_rfl)
          refine obl_val rfl (wanted_none rfl) ?_ rfl
          go_simp
        | 20, _ =>
          intro a W hc hd
          have s19 : a.tmps[34]?.getD undef = (.bool (decide (day' ≤ day))) := hd 19 (by kernel_rfl)
          refine obl_val rfl (wanted_none rfl) ?_ rfl
          go_simp
        | n + 21, h => exact absurd h (by simp)
      · have HB7 := Lib.hid (HB6.out.trans (((Below.refl w6.heap.size w6).drew.trans hc.below).mono HB6.out.size))
        have hfr := grow_frame hc [(15, (.bool true)), (16, (.bool true)), (17, (.pointer (some ⟨b5, 2, none⟩))), (18, (.bool false)), (19, (.bool true)), (20, (.bool true)), (21, (.bool true)), (22, (.agg #[.string id', .bool sale', .bool false, .string ref', .int .i64 day', .string cty', .string num', .string cur', .slice tA tn tc])), (23, (.agg #[.bool sale', .string cty', .string num', .string cur'])), (24, (.agg #[.string id, .bool sale, .bool cred, .string ref, .int .i64 day, .string cty, .string num, .string cur, lv])), (25, (.agg #[.bool sale, .string cty, .string num, .string cur])), (26, (.bool true)), (27, (.bool true)), (28, (.bool true)), (29, (.pointer (some ⟨b5, 4, none⟩))), (30, (.int .i64 day')), (31, (.pointer (some ⟨gd, 4, none⟩))), (32, (.int .i64 day)), (33, (.bool (decide (day' ≤ day)))), (34, (.bool (decide (day' ≤ day)))), (2, (.bool (decide (day' ≤ day))))] (by kernel_rfl) (fun p hp => by
            simp only [List.mem_cons, List.not_mem_nil, or_false] at hp
            rcases hp with rfl | rfl | rfl | rfl | rfl | rfl | rfl | rfl | rfl | rfl | rfl | rfl | rfl | rfl | rfl | rfl | rfl | rfl | rfl | rfl | rfl
            · exact hs 0 15 (by decide) (by kernel_rfl)
            · exact hs 1 16 (by decide) (by kernel_rfl)
            · exact hs 2 17 (by decide) (by kernel_rfl)
            · exact hs 3 18 (by decide) (by kernel_rfl)
            · exact hs 4 19 (by decide) (by kernel_rfl)
            · exact hs 5 20 (by decide) (by kernel_rfl)
            · exact hs 6 21 (by decide) (by kernel_rfl)
            · exact hs 7 22 (by decide) (by kernel_rfl)
            · exact hs 8 23 (by decide) (by kernel_rfl)
            · exact hs 9 24 (by decide) (by kernel_rfl)
            · exact hs 10 25 (by decide) (by kernel_rfl)
            · exact hs 11 26 (by decide) (by kernel_rfl)
            · exact hs 12 27 (by decide) (by kernel_rfl)
            · exact hs 13 28 (by decide) (by kernel_rfl)
            · exact hs 14 29 (by decide) (by kernel_rfl)
            · exact hs 15 30 (by decide) (by kernel_rfl)
            · exact hs 16 31 (by decide) (by kernel_rfl)
            · exact hs 17 32 (by decide) (by kernel_rfl)
            · exact hs 18 33 (by decide) (by kernel_rfl)
            · exact hs 19 34 (by decide) (by kernel_rfl)
            · exact hs 20 2 (by decide) (by kernel_rfl)
            )
        simp only [List.range, List.range.loop, List.size_toArray, List.length_cons, List.length_nil, List.map_cons, List.map_nil, List.lookup_cons, List.lookup_nil, Nat.reduceAdd, Nat.reduceBEq, Option.getD_some, Option.getD_none, List.getElem?_toArray, List.getElem?_cons_succ, List.getElem?_cons_zero] at hfr
        subst hfr
        clear hs hc
        go_wp2
        go_ret
        exact ⟨rfl, HB7.out⟩
end Go.Proofs.Ytnfpmobmfcgfnaa
