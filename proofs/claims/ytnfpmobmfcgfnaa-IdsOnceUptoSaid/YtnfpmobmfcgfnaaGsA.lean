/- THE WALK OF octroiref08.SameDoc (printed by gen/gengsa.py). -/
import Derived.Test.YtnfpmobmfcgfnaaGdB
import Derived.Test.YtnfpmobmfcgfnaaKyA
import Derived.Test.YtnfpmobmfcgfnaaGr2
namespace Go.Proofs.Ytnfpmobmfcgfnaa
open Go.RowKit
theorem Dm.eq_iff (a b : Dm) : (a.id = b.id ∧ a.sale = b.sale ∧ a.cred = b.cred ∧ a.ref = b.ref ∧ a.day = b.day ∧ a.cty = b.cty ∧ a.num = b.num ∧ a.cur = b.cur ∧ a.ls = b.ls) ↔ a = b := by
  constructor
  · rintro ⟨h1, h2, h3, h4, h5, h6, h7, h8, h9⟩
    cases a; cases b
    simp only at *
    subst h1 h2 h3 h4 h5 h6 h7 h8 h9
    rfl
  · rintro rfl
    exact ⟨rfl, rfl, rfl, rfl, rfl, rfl, rfl, rfl, rfl⟩
instance : DecidableEq Dm := fun a b => decidable_of_iff _ (Dm.eq_iff a b)
theorem toL_iff (a b : ByteArray) : a.toList = b.toList ↔ a = b := by rw [ByteArray.toList_eq, ByteArray.toList_eq]; exact toList_data a b
theorem bne_of_ne {x y : Bool} (h : ¬ x = y) : (x != y) = true := by cases x <;> cases y <;> first | rfl | exact absurd rfl h
/-- the first test of SameDoc, as the walk says it -/
def chainB (a b : Dm) : Bool := (a.id.toList == b.id.toList) && (a.sale == b.sale) && (a.cred == b.cred) && (a.ref.toList == b.ref.toList) && (a.day == b.day) && (a.cty.toList == b.cty.toList) && (a.num.toList == b.num.toList) && (a.cur.toList == b.cur.toList) && (a.ls.length == b.ls.length)
theorem chainB_iff (a b : Dm) : (chainB a b && decide (a.ls = b.ls)) = decide (a = b) := by
  rw [Bool.eq_iff_iff, decide_eq_true_eq, ← Dm.eq_iff]
  simp only [chainB, Bool.and_eq_true, beq_iff_eq, toL_iff, decide_eq_true_eq]
  constructor
  · rintro ⟨⟨⟨⟨⟨⟨⟨⟨⟨h1, h2⟩, h3⟩, h4⟩, h5⟩, h6⟩, h7⟩, h8⟩, _⟩, h9⟩
    exact ⟨h1, h2, h3, h4, h5, h6, h7, h8, h9⟩
  · rintro ⟨h1, h2, h3, h4, h5, h6, h7, h8, h9⟩
    exact ⟨⟨⟨⟨⟨⟨⟨⟨⟨h1, h2⟩, h3⟩, h4⟩, h5⟩, h6⟩, h7⟩, h8⟩, by rw [h9]⟩, h9⟩
theorem chainB_len {a b : Dm} (h : chainB a b = true) : a.ls.length = b.ls.length := by
  simp only [chainB, Bool.and_eq_true, beq_iff_eq] at h
  exact h.2
theorem exec_neagg {P : Program} {o : Oper} {ρ : Operand → Value} {w : World} {t t' : TypeId} {x y : Operand} {X Y : Array Value} {u : Value} (ho : o.op = .binOp .neq t x y t') (hx : ρ x = .agg X) (hy : ρ y = .agg Y) (hm : P.eqGuardType P.depth t = false) (h : (binOp .neq t (.agg X) (.agg Y)).run P w = .ok u w) : (execOp ρ o).run P w = .ok (.value u) w := by
  have hg := run_eqGuard_agg (P := P) w .neq t x y X Y hm
  unfold execOp; simp only [ho, hx, hy, Sem.run_bind, hg, h, Result.andThen_ok, Sem.run_pure]
theorem exec_eqagg {P : Program} {o : Oper} {ρ : Operand → Value} {w : World} {t t' : TypeId} {x y : Operand} {X Y : Array Value} {u : Value} (ho : o.op = .binOp .eql t x y t') (hx : ρ x = .agg X) (hy : ρ y = .agg Y) (hm : P.eqGuardType P.depth t = false) (h : (binOp .eql t (.agg X) (.agg Y)).run P w = .ok u w) : (execOp ρ o).run P w = .ok (.value u) w := by
  have hg := run_eqGuard_agg (P := P) w .eql t x y X Y hm
  unfold execOp; simp only [ho, hx, hy, Sem.run_bind, hg, h, Result.andThen_ok, Sem.run_pure]
theorem eval_tmp {a : Act} {t : Nat} {v : Value} (h : a.tmps[t]?.getD undef = v) : a.eval (.tmp t) = v := by
  rw [← h]; simp [Act.eval]
set_option maxRecDepth 100000 in
set_option maxHeartbeats 8000000 in
theorem rsamedoc_any {w : World} {Ba Bb : Nat} {va vb : Value} {a b : Dm} (ha : DmV w Ba va a) (hBa : Ba ≤ w.heap.size) (hb : DmV w Bb vb b) (hBb : Bb ≤ w.heap.size) (hl : a.ls.length ≤ 100000) :
    Calls Try.prog 17 #[va, vb] w fun e w' => e = .returned (.bool (decide (a = b))) ∧ Below w.heap.size w w' := by
  obtain ⟨lva, rfl, hla, hoka⟩ := ha
  obtain ⟨lvb, rfl, hlb, hokb⟩ := hb
  rw [← chainB_iff]
  have hlen := @chainB_len a b
  have hal1 := (Below.refl w.heap.size w).alloc (Nat.le_refl _) (.cells (a.vs lva) 25)
  have hbx1 := DBox.made w a lva
  have hal2 := (Below.refl (w.alloc (.cells (a.vs lva) 25)).heap.size (w.alloc (.cells (a.vs lva) 25))).alloc (Nat.le_refl _) (.cells (b.vs lvb) 25)
  have hbx1 := hbx1.below hal2
  have hbx2 := DBox.made (w.alloc (.cells (a.vs lva) 25)) b lvb
  have hal := hal1.trans (hal2.mono hal1.size)
  rw [World.size_alloc] at hbx2
  obtain ⟨Aa, ca, rfl, hcla, hcma⟩ := hla.form
  obtain ⟨Ab, cb, rfl, hclb, hcmb⟩ := hlb.form
  have hla2 := fun W (hW : Below w.heap.size w W) => hla.below (hW.mono hBa)
  have hlb2 := fun W (hW : Below w.heap.size w W) => hlb.below (hW.mono hBb)
  obtain ⟨id, sale, cred, ref, day, cty, num, cur, ls⟩ := a
  obtain ⟨id', sale', cred', ref', day', cty', num', cur', ls'⟩ := b
  unfold chainB
  unfold chainB at hlen
  simp only [Dm.vs] at *
  generalize hR : decide (ls = ls') = R at *
  generalize hG : (((id.toList == id'.toList) && (sale == sale') && (cred == cred') && (ref.toList == ref'.toList) && (day == day') && (cty.toList == cty'.toList) && (num.toList == num'.toList) && (cur.toList == cur'.toList) && (ls.length == ls'.length)) && R) = G at *
  have HG0 := Lib.hid hG
  clear hG
  have HR := Lib.hid hR
  have HLA := Lib.hid hla2
  have HLB := Lib.hid hlb2
  have HAL := Lib.hid hal
  have HB1 := Lib.hid hbx1
  have HB2 := Lib.hid hbx2
  have HLEN := Lib.hid hlen
  clear hR hla hlb hla2 hlb2 hoka hokb hal1 hal2 hal hbx1 hbx2 hlen
  go_enter Try.func17, Try.ntmps17
  go_upto_region 1 with fail
  generalize World.alloc (World.alloc w _) _ = w1 at HAL HB1 HB2 ⊢
  obtain ⟨c0, c1, c2, c3, c4, c5, c6, c7, c8⟩ := HB1.out
  obtain ⟨d0, d1, d2, d3, d4, d5, d6, d7, d8⟩ := HB2.out
  simp only at c0 c1 c2 c3 c4 c5 c6 c7 c8 d0 d1 d2 d3 d4 d5 d6 d7 d8
  go_cut [68] from 6 (fun x68 wx => x68 = .bool (!((id.toList == id'.toList) && (sale == sale') && (cred == cred') && (ref.toList == ref'.toList) && (day == day') && (cty.toList == cty'.toList) && (num.toList == num'.toList) && (cur.toList == cur'.toList) && (ls.length == ls'.length))) ∧ w1 = wx)
  case first =>
    by_cases hs : sale = sale'
    case neg =>
      have e1 := bne_of_ne hs
      have e2 : (sale == sale') = false := by rw [beq_eq_false_iff_ne]; exact hs
      clear hs
      go_wp2
      all_goals (go_meet; exact ⟨congrArg Value.bool (by simp [*]), rfl⟩)
    subst hs
    by_cases hs : cred = cred'
    case neg =>
      have e1 := bne_of_ne hs
      have e2 : (cred == cred') = false := by rw [beq_eq_false_iff_ne]; exact hs
      clear hs
      go_wp2
      all_goals (go_meet; exact ⟨congrArg Value.bool (by simp [*]), rfl⟩)
    subst hs
    by_cases hs : day = day'
    case neg =>
      have e1 : (day != day') = true := by simp [hs]
      have e2 : (day == day') = false := by rw [beq_eq_false_iff_ne]; exact hs
      clear hs
      go_wp2
      all_goals (go_meet; exact ⟨congrArg Value.bool (by simp [*]), rfl⟩)
    subst hs
    have e9 : ((ls.length : Int) != (ls'.length : Int)) = !(ls.length == ls'.length) := by
      rw [bne]; congr 1; rw [Bool.eq_iff_iff, beq_iff_eq, beq_iff_eq]; omega
    go_wp2
    all_goals (go_meet; exact ⟨congrArg Value.bool (by simp [*]), rfl⟩)
  case rest =>
  obtain ⟨rfl, rfl⟩ := hcut

  generalize hC : ((id.toList == id'.toList) && (sale == sale') && (cred == cred') && (ref.toList == ref'.toList) && (day == day') && (cty.toList == cty'.toList) && (num.toList == num'.toList) && (cur.toList == cur'.toList) && (ls.length == ls'.length)) = C at *
  clear hC
  have hG := HG0.out
  cases C
  · rw [Bool.false_and] at hG
    subst hG
    go_wp2
    go_ret
    exact ⟨rfl, HAL.out⟩
  have hlen := HLEN.out rfl
  rw [Bool.true_and] at hG
  subst hG
  have hR := HR.out
  clear c0 c1 c2 c3 c4 c5 c6 c7 c8 d0 d1 d2 d3 d4 d5 d6 d7 d8 HLEN
  go_wp2
  go_loopg [5] ls.length (fun gk x5 wr => ∃ k : Nat, gk = ls.length - k ∧ k ≤ ls.length ∧ x5 = .int .i64 (k : Int) ∧ decide (ls.drop k = ls'.drop k) = R ∧ Below w1.heap.size w1 wr)
  case atStart => exact ⟨0, rfl, Nat.zero_le _, rfl, HR.out, Below.refl _ _⟩
  case round =>
    obtain ⟨k, hgk, hk, rfl, hal, hbel⟩ := hrel
    have HG := Lib.hid hgk
    have HA := Lib.hid hal
    have HB := Lib.hid hbel
    obtain ⟨c0, c1, c2, c3, c4, c5, c6, c7, c8⟩ := HB1.out.below hbel
    obtain ⟨d0, d1, d2, d3, d4, d5, d6, d7, d8⟩ := HB2.out.below hbel
    simp only at c0 c1 c2 c3 c4 c5 c6 c7 c8 d0 d1 d2 d3 d4 d5 d6 d7 d8
    clear hgk hal hbel hR
    by_cases h : k < ls.length
    · have h' : k < ls'.length := by omega
      have hwr := HAL.out.trans (HB.out.mono HAL.out.size)
      obtain ⟨ad, c', hv, hadB, hok, hat⟩ := (HLA.out wr hwr).at_ k h
      cases hv
      obtain ⟨ad', c', hv, hadB', hok', hat'⟩ := (HLB.out wr hwr).at_ k h'
      cases hv
      have hal := HA.out
      rw [List.drop_eq_getElem_cons h, List.drop_eq_getElem_cons h'] at hal
      have hX : decide (ls[k] = ls'[k] ∧ ls.drop (k + 1) = ls'.drop (k + 1)) = R := by
        rw [← hal]; congr 1; rw [List.cons.injEq]
      have hnq := fun W => ln_neq hok hok' W
      have HAT := Lib.hid (fun W (hW : Below wr.heap.size wr W) => hat.keep (B := wr.heap.size) (w' := W) (Nat.lt_of_lt_of_le (by rw [addr_add_block]; exact hadB) (Nat.le_trans hBa hwr.size)) (fun p hp => hW.cell hp))
      have HAT' := Lib.hid (fun W (hW : Below wr.heap.size wr W) => hat'.keep (B := wr.heap.size) (w' := W) (Nat.lt_of_lt_of_le (by rw [addr_add_block]; exact hadB') (Nat.le_trans hBb hwr.size)) (fun p hp => hW.cell hp))
      have HBW := Lib.hid (fun W (hW : Below wr.heap.size wr W) => (HB1.out.below HB.out).below hW)
      have HBW' := Lib.hid (fun W (hW : Below wr.heap.size wr W) => (HB2.out.below HB.out).below hW)
      have HAL3 := Lib.hid hX
      have HWR := Lib.hid hwr
      have i1 : (0 : Int) ≤ (k : Int) := by omega
      have i2 : (k : Int) < (ls.length : Int) := by omega
      have i2' : (k : Int) < (ls'.length : Int) := by omega
      have i3 : IntKind.i64.wrap ((k : Int) + 1) = (k : Int) + 1 := by rw [IntKind.wrap_i64]; omega
      clear hok hok' hal hX hat hat' hwr
      generalize ls[k] = o at *
      generalize ls'[k] = o' at *
      obtain ⟨sup, cat, fr, tw, pl, am, gr, co, mx⟩ := o
      obtain ⟨sup', cat', fr', tw', pl', am', gr', co', mx'⟩ := o'
      simp only [Ln.vs] at hnq
      have hX := HAL3.out
      clear HAL3
      generalize hx : decide (Ln.mk sup cat fr tw pl am gr co mx = Ln.mk sup' cat' fr' tw' pl' am' gr' co' mx') = X at *
      have HX := Lib.hid hx
      have HNQ := Lib.hid hnq
      have HX2 := Lib.hid hX
      clear hnq hx hX
      go_upto_region 6 with fail
      refine wp_region_sp (by kernel_rfl) [isS (.pointer (some ⟨w.heap.size, 8, none⟩)), isS (.slice (some ad) ls.length ca), isS (.int .i64 (k : Int)), isS (.pointer (some (ad.add (k * 9)))), isS (.agg #[.int .i64 sup, .int .i64 cat, .string fr, .string tw, .string pl, .int .i64 am, .bool gr, .int .i64 co, .bool mx]), isS (.pointer (some ⟨w.heap.size + 1, 8, none⟩)), isS (.slice (some ad') ls'.length cb), isS (.int .i64 (k : Int)), isS (.pointer (some (ad'.add (k * 9)))), isS (.agg #[.int .i64 sup', .int .i64 cat', .string fr', .string tw', .string pl', .int .i64 am', .bool gr', .int .i64 co', .bool mx']), isS (.bool (!X))] (by kernel_rfl) (by kernel_rfl) (fun q hq => ?_) (fun a' w3 hc hs => ?_)
      · match q, hq with
        | 0, _ =>
          intro a W hc hd
          have z2 := hc.same 2 (by kernel_rfl)
          simp only [List.getElem?_toArray, List.getElem?_cons_succ, List.getElem?_cons_zero, Option.getD_some] at z2
          refine obl_val rfl (wanted_none rfl) ?_ rfl
          go_simp
        | 1, _ =>
          intro a W hc hd
          have s0 : a.tmps[76]?.getD undef = (.pointer (some ⟨w.heap.size, 8, none⟩)) := hd 0 (by kernel_rfl)
          obtain ⟨q0, q1, q2, q3, q4, q5, q6, q7, q8⟩ := HBW.out W ((Below.refl wr.heap.size wr).drew.trans hc.below)
          simp only at q0 q1 q2 q3 q4 q5 q6 q7 q8
          refine obl_val rfl (wanted_none rfl) ?_ rfl
          go_simp
        | 2, _ =>
          intro a W hc hd
          have z5 := hc.same 5 (by kernel_rfl)
          simp only [List.getElem?_toArray, List.getElem?_cons_succ, List.getElem?_cons_zero, Option.getD_some] at z5
          refine obl_val rfl (wanted_none rfl) ?_ rfl
          go_simp
        | 3, _ =>
          intro a W hc hd
          have s1 : a.tmps[77]?.getD undef = (.slice (some ad) ls.length ca) := hd 1 (by kernel_rfl)
          have s2 : a.tmps[78]?.getD undef = (.int .i64 (k : Int)) := hd 2 (by kernel_rfl)
          refine obl_val rfl (wanted_none rfl) ?_ rfl
          go_simp
        | 4, _ =>
          intro a W hc hd
          have s3 : a.tmps[79]?.getD undef = (.pointer (some (ad.add (k * 9)))) := hd 3 (by kernel_rfl)
          obtain ⟨q0, q1, q2, q3, q4, q5, q6, q7, q8⟩ := HAT.out W ((Below.refl wr.heap.size wr).drew.trans hc.below)
          simp only at q0 q1 q2 q3 q4 q5 q6 q7 q8
          refine obl_val rfl (wanted_none rfl) ?_ rfl
          go_simp
        | 5, _ =>
          intro a W hc hd
          have z3 := hc.same 3 (by kernel_rfl)
          simp only [List.getElem?_toArray, List.getElem?_cons_succ, List.getElem?_cons_zero, Option.getD_some] at z3
          refine obl_val rfl (wanted_none rfl) ?_ rfl
          go_simp
        | 6, _ =>
          intro a W hc hd
          have s5 : a.tmps[81]?.getD undef = (.pointer (some ⟨w.heap.size + 1, 8, none⟩)) := hd 5 (by kernel_rfl)
          obtain ⟨q0, q1, q2, q3, q4, q5, q6, q7, q8⟩ := HBW'.out W ((Below.refl wr.heap.size wr).drew.trans hc.below)
          simp only at q0 q1 q2 q3 q4 q5 q6 q7 q8
          refine obl_val rfl (wanted_none rfl) ?_ rfl
          go_simp
        | 7, _ =>
          intro a W hc hd
          have z5 := hc.same 5 (by kernel_rfl)
          simp only [List.getElem?_toArray, List.getElem?_cons_succ, List.getElem?_cons_zero, Option.getD_some] at z5
          refine obl_val rfl (wanted_none rfl) ?_ rfl
          go_simp
        | 8, _ =>
          intro a W hc hd
          have s6 : a.tmps[82]?.getD undef = (.slice (some ad') ls'.length cb) := hd 6 (by kernel_rfl)
          have s7 : a.tmps[83]?.getD undef = (.int .i64 (k : Int)) := hd 7 (by kernel_rfl)
          refine obl_val rfl (wanted_none rfl) ?_ rfl
          go_simp
        | 9, _ =>
          intro a W hc hd
          have s8 : a.tmps[84]?.getD undef = (.pointer (some (ad'.add (k * 9)))) := hd 8 (by kernel_rfl)
          obtain ⟨q0, q1, q2, q3, q4, q5, q6, q7, q8⟩ := HAT'.out W ((Below.refl wr.heap.size wr).drew.trans hc.below)
          simp only at q0 q1 q2 q3 q4 q5 q6 q7 q8
          refine obl_val rfl (wanted_none rfl) ?_ rfl
          go_simp
        | 10, _ =>
          intro a W hc hd
          have s4 : a.tmps[80]?.getD undef = (.agg #[.int .i64 sup, .int .i64 cat, .string fr, .string tw, .string pl, .int .i64 am, .bool gr, .int .i64 co, .bool mx]) := hd 4 (by kernel_rfl)
          have s9 : a.tmps[85]?.getD undef = (.agg #[.int .i64 sup', .int .i64 cat', .string fr', .string tw', .string pl', .int .i64 am', .bool gr', .int .i64 co', .bool mx']) := hd 9 (by kernel_rfl)
          refine obl_val rfl (wanted_none rfl) ?_ rfl
          exact exec_neagg rfl (eval_tmp s4) (eval_tmp s9) (by kernel_rfl) (HNQ.out W)
        | n + 11, h => exact absurd h (by simp)
      · skip
        have hfr := grow_frame hc [(76, (.pointer (some ⟨w.heap.size, 8, none⟩))), (77, (.slice (some ad) ls.length ca)), (78, (.int .i64 (k : Int))), (79, (.pointer (some (ad.add (k * 9))))), (80, (.agg #[.int .i64 sup, .int .i64 cat, .string fr, .string tw, .string pl, .int .i64 am, .bool gr, .int .i64 co, .bool mx])), (81, (.pointer (some ⟨w.heap.size + 1, 8, none⟩))), (82, (.slice (some ad') ls'.length cb)), (83, (.int .i64 (k : Int))), (84, (.pointer (some (ad'.add (k * 9))))), (85, (.agg #[.int .i64 sup', .int .i64 cat', .string fr', .string tw', .string pl', .int .i64 am', .bool gr', .int .i64 co', .bool mx'])), (86, (.bool (!X)))] (by kernel_rfl) (fun p hp => by
            simp only [List.mem_cons, List.not_mem_nil, or_false] at hp
            rcases hp with rfl | rfl | rfl | rfl | rfl | rfl | rfl | rfl | rfl | rfl | rfl
            · exact hs 0 76 (by decide) (by kernel_rfl)
            · exact hs 1 77 (by decide) (by kernel_rfl)
            · exact hs 2 78 (by decide) (by kernel_rfl)
            · exact hs 3 79 (by decide) (by kernel_rfl)
            · exact hs 4 80 (by decide) (by kernel_rfl)
            · exact hs 5 81 (by decide) (by kernel_rfl)
            · exact hs 6 82 (by decide) (by kernel_rfl)
            · exact hs 7 83 (by decide) (by kernel_rfl)
            · exact hs 8 84 (by decide) (by kernel_rfl)
            · exact hs 9 85 (by decide) (by kernel_rfl)
            · exact hs 10 86 (by decide) (by kernel_rfl)
            )
        simp only [List.range, List.range.loop, List.size_toArray, List.length_cons, List.length_nil, List.map_cons, List.map_nil, List.lookup_cons, List.lookup_nil, Nat.reduceAdd, Nat.reduceBEq, Option.getD_some, Option.getD_none, List.getElem?_toArray, List.getElem?_cons_succ, List.getElem?_cons_zero] at hfr
        subst hfr
        have HB3 := Lib.hid (HB.out.trans (((Below.refl wr.heap.size wr).drew.trans hc.below).mono HB.out.size))
        have hR := HX2.out
        have hx := HX.out
        clear hc hs
        cases X
        · rw [decide_eq_false (fun h => by rw [decide_eq_true h.1] at hx; cases hx)] at hR
          subst hR
          clear hx
          go_wp2
          go_ret
          exact ⟨rfl, HAL.out.trans (HB3.out.mono HAL.out.size)⟩
        · have hR2 : decide (ls.drop (k + 1) = ls'.drop (k + 1)) = R := by
            rw [← hR]
            congr 1
            exact propext ⟨fun h => ⟨of_decide_eq_true hx, h⟩, fun h => h.2⟩
          have HAL4 := Lib.hid hR2
          clear hR hx hR2
          go_wp2
          go_roundg (ls.length - (k + 1))
          case measure => have := HG.out; omega
          case rel => exact ⟨k + 1, rfl, by omega, by simp, HAL4.out, HB3.out⟩
    · obtain rfl : k = ls.length := by omega
      have hR := HA.out
      rw [List.drop_length, hlen, List.drop_length, decide_eq_true rfl] at hR
      subst hR
      go_wp2
      go_ret
      exact ⟨rfl, HAL.out.trans (HB.out.mono HAL.out.size)⟩
end Go.Proofs.Ytnfpmobmfcgfnaa
