/- THE WALK OF slices.Equal OF LINES (printed by gen/geneql.py). -/
import Derived.Test.YtnfpmobmfcgfnaaPl
import Derived.Test.YtnfpmobmfcgfnaaPm
namespace Go.Proofs.Ytnfpmobmfcgfnaa
open Go.RowKit
set_option maxRecDepth 100000 in
set_option maxHeartbeats 8000000 in
theorem eqlines_any {w : World} {Ba Bb : Nat} {va vb : Value} {ls ls' : List Ln} (ha : Lns w Ba va ls) (hBa : Ba ≤ w.heap.size) (hb : Lns w Bb vb ls') (hBb : Bb ≤ w.heap.size) :
  Calls Try.prog 78 #[va, vb] w fun e w' => e = .returned (.bool (decide (ls = ls'))) ∧ Below w.heap.size w w' := by
 obtain ⟨ca, na, rfl, hcla, hcma⟩ := ha.form
 obtain ⟨cb, nb, rfl, hclb, hcmb⟩ := hb.form
 generalize hR : decide (ls = ls') = R
 have hla2 := fun W (hW : Below w.heap.size w W) => ha.below (hW.mono hBa)
 have hlb2 := fun W (hW : Below w.heap.size w W) => hb.below (hW.mono hBb)
 have HR := Lib.hid hR
 have HLA := Lib.hid hla2
 have HLB := Lib.hid hlb2
 clear hR ha hb hla2 hlb2
 by_cases hlen : ls.length = ls'.length
 case neg =>
  have hR := HR.out
  rw [decide_eq_false (fun e => hlen (by rw [e]))] at hR
  subst hR
  have e1 : ((ls.length : Int) != (ls'.length : Int)) = true := by simp; omega
  go_enter Try.func78, Try.ntmps78
  go_wp2
  go_ret
  exact ⟨rfl, Below.refl _ _⟩
 have e1 : ((ls.length : Int) != (ls'.length : Int)) = false := by simp; omega
 go_enter Try.func78, Try.ntmps78
 go_wp2
 clear e1
 go_loopg [5, 13] ls.length (fun gk x5 x13 wr => ∃ k : Nat, gk = ls.length - k ∧ k ≤ ls.length ∧ x13 = .int .i64 (k : Int) ∧ decide (ls.drop k = ls'.drop k) = R ∧ Below w.heap.size w wr)
 case atStart => exact ⟨0, rfl, Nat.zero_le _, rfl, HR.out, Below.refl _ _⟩
 case round =>
  obtain ⟨k, hgk, hk, rfl, hal, hbel⟩ := hrel
  have HG := Lib.hid hgk
  have HA := Lib.hid hal
  have HB := Lib.hid hbel
  clear hgk hal hbel
  by_cases h : k < ls.length
  ·have h' : k < ls'.length := by omega
   have hwr := HB.out
   obtain ⟨ad, c', hv, hadB, hok, hat⟩ := (HLA.out wr hwr).at_ k h
   cases hv
   obtain ⟨ad', c', hv, hadB', hok', hat'⟩ := (HLB.out wr hwr).at_ k h'
   cases hv
   have hal := HA.out
   rw [List.drop_eq_getElem_cons h, List.drop_eq_getElem_cons h'] at hal
   have hX : decide (ls[k] = ls'[k] ∧ ls.drop (k + 1) = ls'.drop (k + 1)) = R := by
    rw [← hal]; congr 1; rw [List.cons.injEq]
   have hnq := fun W => ln_neq hok hok' W
   have HAT := Lib.hid (fun W (hW : Below wr.heap.size wr W) => hat.keep (B := wr.heap.size) (w' := W) (Nat.lt_of_lt_of_le (by rw [addr_add_block]; exact hadB) (Nat.le_trans hBa hwr.size)) (fun p hp => hW.cell hp))
   have HAT' := Lib.hid (fun W (hW : Below wr.heap.size wr W) => hat'.keep (B := wr.heap.size) (w' := W) (Nat.lt_of_lt_of_le (by rw [addr_add_block]; exact hadB') (Nat.le_trans hBb hwr.size)) (fun p hp => hW.cell hp))
   have HAL3 := Lib.hid hX
   have i1 : (0 : Int) ≤ (k : Int) := by omega
   have i2 : (k : Int) < (ls.length : Int) := by omega
   have i2' : (k : Int) < (ls'.length : Int) := by omega
   have i3 : IntKind.i64.wrap ((k : Int) + 1) = (k : Int) + 1 := by rw [IntKind.wrap_i64]; omega
   clear hok hok' hal hX hat hat' hwr
   generalize ls[k] = o at *
   generalize ls'[k] = o' at *
   obtain ⟨sup, cat, fr, tw, pl, am, gr, co, mx⟩ := o
   obtain ⟨sup', cat', fr', tw', pl', am', gr', co', mx'⟩ := o'
   simp only [Ln.vs] at hnq
   have hX := HAL3.out
   clear HAL3
   generalize hx : decide (Ln.mk sup cat fr tw pl am gr co mx = Ln.mk sup' cat' fr' tw' pl' am' gr' co' mx') = X at *
   have HX := Lib.hid hx
   have HNQ := Lib.hid hnq
   have HX2 := Lib.hid hX
   clear hnq hx hX
   go_upto_region 6 with fail
   refine wp_region_sp (by kernel_rfl) [isS (.slice (some ad) ls.length na), isS (.int .i64 (k : Int)), isS (.pointer (some (ad.add (k * 9)))), isS (.agg #[.int .i64 sup, .int .i64 cat, .string fr, .string tw, .string pl, .int .i64 am, .bool gr, .int .i64 co, .bool mx]), isS (.slice (some ad') ls'.length nb), isS (.int .i64 (k : Int)), isS (.pointer (some (ad'.add (k * 9)))), isS (.agg #[.int .i64 sup', .int .i64 cat', .string fr', .string tw', .string pl', .int .i64 am', .bool gr', .int .i64 co', .bool mx']), isS (.bool (!X))] (by kernel_rfl) (by kernel_rfl) (fun q hq => ?_) (fun a' w3 hc hs => ?_)
   ·match q, hq with
    | 0, _ =>
     intro a W hc hd
     have z0 := hc.same 0 (by kernel_rfl)
     simp only [List.getElem?_toArray, List.getElem?_cons_zero, Option.getD_some] at z0
     refine obl_val rfl (wanted_none rfl) ?_ rfl
     go_simp
    | 1, _ =>
     intro a W hc hd
     have z5 := hc.same 5 (by kernel_rfl)
     simp only [List.getElem?_toArray, List.getElem?_cons_succ, List.getElem?_cons_zero, Option.getD_some] at z5
     refine obl_val rfl (wanted_none rfl) ?_ rfl
     go_simp
    | 2, _ =>
     intro a W hc hd
     have s0 : a.tmps[16]?.getD undef = (.slice (some ad) ls.length na) := hd 0 (by kernel_rfl)
     have s1 : a.tmps[17]?.getD undef = (.int .i64 (k : Int)) := hd 1 (by kernel_rfl)
     refine obl_val rfl (wanted_none rfl) ?_ rfl
     go_simp
    | 3, _ =>
     intro a W hc hd
     have s2 : a.tmps[18]?.getD undef = (.pointer (some (ad.add (k * 9)))) := hd 2 (by kernel_rfl)
     obtain ⟨q0, q1, q2, q3, q4, q5, q6, q7, q8⟩ := HAT.out W ((Below.refl wr.heap.size wr).drew.trans hc.below)
     simp only at q0 q1 q2 q3 q4 q5 q6 q7 q8
     refine obl_val rfl (wanted_none rfl) ?_ rfl
     go_simp
    | 4, _ =>
     intro a W hc hd
     have z1 := hc.same 1 (by kernel_rfl)
     simp only [List.getElem?_toArray, List.getElem?_cons_succ, List.getElem?_cons_zero, Option.getD_some] at z1
     refine obl_val rfl (wanted_none rfl) ?_ rfl
     go_simp
    | 5, _ =>
     intro a W hc hd
     have z5 := hc.same 5 (by kernel_rfl)
     simp only [List.getElem?_toArray, List.getElem?_cons_succ, List.getElem?_cons_zero, Option.getD_some] at z5
     refine obl_val rfl (wanted_none rfl) ?_ rfl
     go_simp
    | 6, _ =>
     intro a W hc hd
     have s4 : a.tmps[20]?.getD undef = (.slice (some ad') ls'.length nb) := hd 4 (by kernel_rfl)
     have s5 : a.tmps[21]?.getD undef = (.int .i64 (k : Int)) := hd 5 (by kernel_rfl)
     refine obl_val rfl (wanted_none rfl) ?_ rfl
     go_simp
    | 7, _ =>
     intro a W hc hd
     have s6 : a.tmps[22]?.getD undef = (.pointer (some (ad'.add (k * 9)))) := hd 6 (by kernel_rfl)
     obtain ⟨q0, q1, q2, q3, q4, q5, q6, q7, q8⟩ := HAT'.out W ((Below.refl wr.heap.size wr).drew.trans hc.below)
     simp only at q0 q1 q2 q3 q4 q5 q6 q7 q8
     refine obl_val rfl (wanted_none rfl) ?_ rfl
     go_simp
    | 8, _ =>
     intro a W hc hd
     have s3 : a.tmps[19]?.getD undef = (.agg #[.int .i64 sup, .int .i64 cat, .string fr, .string tw, .string pl, .int .i64 am, .bool gr, .int .i64 co, .bool mx]) := hd 3 (by kernel_rfl)
     have s7 : a.tmps[23]?.getD undef = (.agg #[.int .i64 sup', .int .i64 cat', .string fr', .string tw', .string pl', .int .i64 am', .bool gr', .int .i64 co', .bool mx']) := hd 7 (by kernel_rfl)
     refine obl_val rfl (wanted_none rfl) ?_ rfl
     exact exec_neagg rfl (eval_tmp s3) (eval_tmp s7) (by kernel_rfl) (HNQ.out W)
    | n + 9, h => exact absurd h (by simp)
   ·skip
    have hfr := grow_frame hc [(16, (.slice (some ad) ls.length na)), (17, (.int .i64 (k : Int))), (18, (.pointer (some (ad.add (k * 9))))), (19, (.agg #[.int .i64 sup, .int .i64 cat, .string fr, .string tw, .string pl, .int .i64 am, .bool gr, .int .i64 co, .bool mx])), (20, (.slice (some ad') ls'.length nb)), (21, (.int .i64 (k : Int))), (22, (.pointer (some (ad'.add (k * 9))))), (23, (.agg #[.int .i64 sup', .int .i64 cat', .string fr', .string tw', .string pl', .int .i64 am', .bool gr', .int .i64 co', .bool mx'])), (24, (.bool (!X)))] (by kernel_rfl) (fun p hp => by
      simp only [List.mem_cons, List.not_mem_nil, or_false] at hp
      rcases hp with rfl | rfl | rfl | rfl | rfl | rfl | rfl | rfl | rfl
      ·exact hs 0 16 (by decide) (by kernel_rfl)
      ·exact hs 1 17 (by decide) (by kernel_rfl)
      ·exact hs 2 18 (by decide) (by kernel_rfl)
      ·exact hs 3 19 (by decide) (by kernel_rfl)
      ·exact hs 4 20 (by decide) (by kernel_rfl)
      ·exact hs 5 21 (by decide) (by kernel_rfl)
      ·exact hs 6 22 (by decide) (by kernel_rfl)
      ·exact hs 7 23 (by decide) (by kernel_rfl)
      ·exact hs 8 24 (by decide) (by kernel_rfl)
      )
    simp only [List.range, List.range.loop, List.size_toArray, List.length_cons, List.length_nil, List.map_cons, List.map_nil, List.lookup_cons, List.lookup_nil, Nat.reduceAdd, Nat.reduceBEq, Option.getD_some, Option.getD_none, List.getElem?_toArray, List.getElem?_cons_succ, List.getElem?_cons_zero] at hfr
    subst hfr
    have HB3 := Lib.hid (HB.out.trans (((Below.refl wr.heap.size wr).drew.trans hc.below).mono HB.out.size))
    have hR := HX2.out
    have hx := HX.out
    clear hc hs
    cases X
    ·rw [decide_eq_false (fun h => by rw [decide_eq_true h.1] at hx; cases hx)] at hR
     subst hR
     clear hx
     go_wp2
     go_ret
     exact ⟨rfl, HB3.out⟩
    ·have hR2 : decide (ls.drop (k + 1) = ls'.drop (k + 1)) = R := by
      rw [← hR]
      congr 1
      exact propext ⟨fun h => ⟨of_decide_eq_true hx, h⟩, fun h => h.2⟩
     have HAL4 := Lib.hid hR2
     clear hR hx hR2
     go_wp2
     go_roundg (ls.length - (k + 1))
     case measure => have := HG.out; omega
     case rel => exact ⟨k + 1, rfl, by omega, by simp, HAL4.out, HB3.out⟩
  ·obtain rfl : k = ls.length := by omega
   have hR := HA.out
   rw [List.drop_length, hlen, List.drop_length, decide_eq_true rfl] at hR
   subst hR
   go_wp2
   go_ret
   exact ⟨rfl, HB.out⟩
end Go.Proofs.Ytnfpmobmfcgfnaa

/- THE WALK OF record.SameDoc's CLOSURE; arrays of five texts are compared. -/
namespace Go.Proofs.Ytnfpmobmfcgfnaa
open Go.RowKit
def Dm.tx (o : Dm) : Array Value := #[.string o.id, .string o.ref, .string o.cty, .string o.num, .string o.cur]
def Dm.txlits (o : Dm) : List Lit := [.string o.id.data.toList, .string o.ref.data.toList, .string o.cty.data.toList, .string o.num.data.toList, .string o.cur.data.toList]
def txEq (a b : Dm) : Prop := a.id = b.id ∧ a.ref = b.ref ∧ a.cty = b.cty ∧ a.num = b.num ∧ a.cur = b.cur
instance (a b : Dm) : Decidable (txEq a b) := by unfold txEq; exact inferInstance
theorem Dm.txlits_iff (a b : Dm) : a.txlits = b.txlits ↔ txEq a b := by
 simp only [Dm.txlits, txEq, List.cons.injEq, Lit.string.injEq, toList_data, and_true]
theorem tx_keyLits {o : Dm} (h : o.ok) : Try.prog.keyLits 2 100 o.tx.toList = some o.txlits := by
 unfold Program.keyLits
 rw [Try.underlying100]
 have hc : Try.prog.cellsOf 100 = 5 := by kernel_rfl
 simp [Dm.tx, hc, cells_str, lits_str h.id 0, lits_str h.ref 0, lits_str h.cty 0, lits_str h.num 0, lits_str h.cur 0, Dm.txlits, List.range, List.range.loop, List.mapM_cons]
theorem tx_formed (o : Dm) : (Value.agg o.tx).formed Try.prog 100 = true := by
 have hc : Try.prog.cellsOf 100 = 5 := by kernel_rfl
 simp [Value.formed, hc, Dm.tx]
theorem tx_eql {a b : Dm} (ha : a.ok) (hb : b.ok) (w : World) : (binOp .eql 100 (.agg a.tx) (.agg b.tx)).run Try.prog w = .ok (.bool (decide (txEq a b))) w :=
 eql_deep (m := 2) (by decide) (by kernel_rfl) (tx_formed a) (tx_formed b) (tx_keyLits ha) (tx_keyLits hb) (Dm.txlits_iff a b) w
set_option maxRecDepth 100000 in
theorem texts_any (o : Dm) (lv : Value) (w : World) : Calls Try.prog 77 #[.agg (o.vs lv)] w fun e w' => e = .returned (.agg o.tx) ∧ Below w.heap.size w w' := by
 have hbel : ∀ o o', Below w.heap.size w ((w.alloc o).alloc o') := fun o o' => ((Below.refl _ _).alloc (Nat.le_refl _) o).alloc (by simp) o'
 have HB := Lib.hid hbel
 clear hbel
 obtain ⟨id, sale, cred, ref, day, cty, num, cur, ls⟩ := o
 simp only [Dm.vs, Dm.tx]
 go_enter Try.func77, Try.ntmps77
 go_wp2
 exact bodyPost_ret (v := .agg #[.string id, .string ref, .string cty, .string num, .string cur]) (by simp [results, Try.results77, go_sem]) rfl ⟨rfl, HB.out _ _⟩
end Go.Proofs.Ytnfpmobmfcgfnaa

/- THE WALK OF record.SameDoc (printed by gen/genres.py). -/
namespace Go.Proofs.Ytnfpmobmfcgfnaa
open Go.RowKit
theorem same_parts (a b : Dm) : (((((decide (a.ls = b.ls) && decide (txEq a b)) && (a.sale == b.sale)) && (a.cred == b.cred)) && (a.day == b.day))) = decide (a = b) := by
 rw [Bool.eq_iff_iff]
 simp only [Bool.and_eq_true, decide_eq_true_eq, beq_iff_eq]
 unfold txEq
 rw [← Dm.eq_iff]
 constructor
 ·rintro ⟨⟨⟨⟨h1, h2, h3, h4, h5, h6⟩, h7⟩, h8⟩, h9⟩
  exact ⟨h2, h7, h8, h3, h9, h4, h5, h6, h1⟩
 ·rintro ⟨h2, h7, h8, h3, h9, h4, h5, h6, h1⟩
  exact ⟨⟨⟨⟨h1, h2, h3, h4, h5, h6⟩, h7⟩, h8⟩, h9⟩
set_option maxRecDepth 100000 in
set_option maxHeartbeats 8000000 in
theorem samedoc_any {w : World} {Ba Bb : Nat} {va vb : Value} {a b : Dm} (ha : DmV w Ba va a) (hBa : Ba ≤ w.heap.size) (hb : DmV w Bb vb b) (hBb : Bb ≤ w.heap.size) :
  Calls Try.prog 37 #[va, vb] w fun e w' => e = .returned (.bool (decide (a = b))) ∧ Below w.heap.size w w' := by
 obtain ⟨lva, rfl, hla, hoka⟩ := ha
 obtain ⟨lvb, rfl, hlb, hokb⟩ := hb
 rw [← same_parts]
 have hal1 := (Below.refl w.heap.size w).alloc (Nat.le_refl _) (.cells (a.vs lva) 25)
 have hbx1 : DBlk (w.alloc (.cells (a.vs lva) 25)) w.heap.size a lva := heap_alloc_new w (.cells (a.vs lva) 25 (0, 0))
 have hal2 := (Below.refl (w.alloc (.cells (a.vs lva) 25)).heap.size (w.alloc (.cells (a.vs lva) 25))).alloc (Nat.le_refl _) (.cells (b.vs lvb) 25)
 have hbx1 := hbx1.below hal2
 have hbx2 : DBlk ((w.alloc (.cells (a.vs lva) 25)).alloc (.cells (b.vs lvb) 25)) (w.alloc (.cells (a.vs lva) 25)).heap.size b lvb := heap_alloc_new (w.alloc (.cells (a.vs lva) 25)) (.cells (b.vs lvb) 25 (0, 0))
 have hal := hal1.trans (hal2.mono hal1.size)
 rw [World.size_alloc] at hbx2
 obtain ⟨Aa, ca, rfl, hcla, hcma⟩ := hla.form
 obtain ⟨Ab, cb, rfl, hclb, hcmb⟩ := hlb.form
 have heq := fun W (hW : Below w.heap.size w W) => eqlines_any (hla.below (hW.mono hBa)) (Nat.le_trans hBa hW.size) (hlb.below (hW.mono hBb)) (Nat.le_trans hBb hW.size)
 have htx := fun W => tx_eql hoka hokb W
 have hta := fun W => texts_any a (.slice Aa a.ls.length ca) W
 have htb := fun W => texts_any b (.slice Ab b.ls.length cb) W
 generalize hL : decide (a.ls = b.ls) = L at heq ⊢
 generalize hT : decide (txEq a b) = T at htx ⊢
 clear hL hT hoka hokb hla hlb
 have HTX := Lib.hid htx
 have HTA := Lib.hid hta
 have HTB := Lib.hid htb
 have HEQ := Lib.hid heq
 have HAL := Lib.hid hal
 have HB1 := Lib.hid hbx1
 have HB2 := Lib.hid hbx2
 clear htx hta htb heq hal hbx1 hbx2 hal1 hal2
 obtain ⟨id, sale, cred, ref, day, cty, num, cur, ls⟩ := a
 obtain ⟨id', sale', cred', ref', day', cty', num', cur', ls'⟩ := b
 simp only [Dm.vs, Dm.tx] at *
 obtain ⟨G1, hG1⟩ : ∃ G, (L && T) = G := ⟨_, rfl⟩
 obtain ⟨S, hS⟩ : ∃ G, (sale == sale') = G := ⟨_, rfl⟩
 obtain ⟨C, hC⟩ : ∃ G, (cred == cred') = G := ⟨_, rfl⟩
 obtain ⟨D, hD⟩ : ∃ G, (day == day') = G := ⟨_, rfl⟩
 obtain ⟨G2, hG2⟩ : ∃ G, (G1 && S) = G := ⟨_, rfl⟩
 obtain ⟨G3, hG3⟩ : ∃ G, (G2 && C) = G := ⟨_, rfl⟩
 obtain ⟨G4, hG4⟩ : ∃ G, (G3 && D) = G := ⟨_, rfl⟩
 rw [hS, hC, hD, hG1, hG2, hG3, hG4]
 have HS := Lib.hid hS
 have HC := Lib.hid hC
 have HD := Lib.hid hD
 have HG1 := Lib.hid hG1
 have HG2 := Lib.hid hG2
 have HG3 := Lib.hid hG3
 have HG4 := Lib.hid hG4
 clear hS hC hD hG1 hG2 hG3 hG4
 go_enter Try.func37, Try.ntmps37
 go_upto_region 2 with fail
 generalize World.alloc (World.alloc w _) _ = w1 at *
 have HX1 := Lib.hid (fun W (hW : Below w1.heap.size w1 W) => HB1.out.below hW)
 have HX2 := Lib.hid (fun W (hW : Below w1.heap.size w1 W) => HB2.out.below hW)
 clear HB1 HB2
 refine wp_region_sp (by kernel_rfl) [isS (.pointer (some ⟨w.heap.size, 8, none⟩)), isS (.slice Aa ls.length ca), isS (.pointer (some ⟨w.heap.size + 1, 8, none⟩)), isS (.slice Ab ls'.length cb), isS (.bool L), isS (.bool L), isS (bif L then Value.func (Fn.func 77) #[] #[] else undef), isS (bif L then .agg #[.string id, .bool sale, .bool cred, .string ref, .int .i64 day, .string cty, .string num, .string cur, .slice Aa ls.length ca] else undef), isS (bif L then .agg #[.string id, .string ref, .string cty, .string num, .string cur] else undef), isS (bif L then Value.func (Fn.func 77) #[] #[] else undef), isS (bif L then .agg #[.string id', .bool sale', .bool cred', .string ref', .int .i64 day', .string cty', .string num', .string cur', .slice Ab ls'.length cb] else undef), isS (bif L then .agg #[.string id', .string ref', .string cty', .string num', .string cur'] else undef), isS (bif L then .bool T else undef), isS (.bool G1), isS (.bool G1), isS (bif G1 then .pointer (some ⟨w.heap.size, 1, none⟩) else undef), isS (bif G1 then .bool sale else undef), isS (bif G1 then .pointer (some ⟨w.heap.size + 1, 1, none⟩) else undef), isS (bif G1 then .bool sale' else undef), isS (bif G1 then .bool S else undef), isS (.bool G2), isS (.bool G2), isS (bif G2 then .pointer (some ⟨w.heap.size, 2, none⟩) else undef), isS (bif G2 then .bool cred else undef), isS (bif G2 then .pointer (some ⟨w.heap.size + 1, 2, none⟩) else undef), isS (bif G2 then .bool cred' else undef), isS (bif G2 then .bool C else undef), isS (.bool G3), isS (.bool G3), isS (bif G3 then .pointer (some ⟨w.heap.size, 4, none⟩) else undef), isS (bif G3 then .int .i64 day else undef), isS (bif G3 then .pointer (some ⟨w.heap.size + 1, 4, none⟩) else undef), isS (bif G3 then .int .i64 day' else undef), isS (bif G3 then .bool D else undef), isS (.bool G4), isS (.bool G4)] (by kernel_rfl) (by kernel_rfl) (fun q hq => ?_) (fun a' w3 hc hs => ?_)
 ·match q, hq with
  | 0, _ =>
   intro a W hc hd
   have z2 := hc.same 2 (by kernel_rfl)
   simp only [List.getElem?_toArray, List.getElem?_cons_succ, List.getElem?_cons_zero, Option.getD_some] at z2
   refine obl_val rfl (wanted_none rfl) ?_ rfl
   go_simp
  | 1, _ =>
   intro a W hc hd
   have s0 : a.tmps[6]?.getD undef = (.pointer (some ⟨w.heap.size, 8, none⟩)) := hd 0 (by kernel_rfl)
   obtain ⟨q0, q1, q2, q3, q4, q5, q6, q7, q8⟩ := (HX1.out W ((Below.refl w1.heap.size w1).drew.trans hc.below)).box
   simp only at q0 q1 q2 q3 q4 q5 q6 q7 q8
   refine obl_val rfl (wanted_none rfl) ?_ rfl
   go_simp
  | 2, _ =>
   intro a W hc hd
   have z3 := hc.same 3 (by kernel_rfl)
   simp only [List.getElem?_toArray, List.getElem?_cons_succ, List.getElem?_cons_zero, Option.getD_some] at z3
   refine obl_val rfl (wanted_none rfl) ?_ rfl
   go_simp
  | 3, _ =>
   intro a W hc hd
   have s2 : a.tmps[8]?.getD undef = (.pointer (some ⟨w.heap.size + 1, 8, none⟩)) := hd 2 (by kernel_rfl)
   obtain ⟨q0, q1, q2, q3, q4, q5, q6, q7, q8⟩ := (HX2.out W ((Below.refl w1.heap.size w1).drew.trans hc.below)).box
   simp only at q0 q1 q2 q3 q4 q5 q6 q7 q8
   refine obl_val rfl (wanted_none rfl) ?_ rfl
   go_simp
  | 4, _ =>
   intro a W hc hd
   have s1 : a.tmps[7]?.getD undef = (.slice Aa ls.length ca) := hd 1 (by kernel_rfl)
   have s3 : a.tmps[9]?.getD undef = (.slice Ab ls'.length cb) := hd 3 (by kernel_rfl)
   refine obl_call rfl (wanted_none rfl) (by go_simp) (HEQ.out W (HAL.out.trans (((Below.refl w1.heap.size w1).drew.trans hc.below).mono HAL.out.size))) ?_
   rintro e w8 ⟨rfl, hb8⟩
   exact ⟨_, rfl, rfl, hb8⟩
  | 5, _ =>
   intro a W hc hd
   have s4 : a.tmps[10]?.getD undef = (.bool L) := hd 4 (by kernel_rfl)
   refine obl_val rfl (wanted_none rfl) ?_ rfl
   go_simp
  | 6, _ =>
   intro a W hc hd
   have z5 := hc.same 5 (by kernel_rfl)
   have s5 : a.tmps[11]?.getD undef = (.bool L) := hd 5 (by kernel_rfl)
   simp only [List.getElem?_toArray, List.getElem?_cons_succ, List.getElem?_cons_zero, Option.getD_some] at z5
   cases L
   ·exact obl_skip rfl (wanted_not rfl rfl s5) rfl
   ·skip
    refine obl_val rfl (wanted_some rfl rfl s5) ?_ rfl
    go_simp
  | 7, _ =>
   intro a W hc hd
   have z2 := hc.same 2 (by kernel_rfl)
   have s5 : a.tmps[11]?.getD undef = (.bool L) := hd 5 (by kernel_rfl)
   simp only [List.getElem?_toArray, List.getElem?_cons_succ, List.getElem?_cons_zero, Option.getD_some] at z2
   cases L
   ·exact obl_skip rfl (wanted_not rfl rfl s5) rfl
   ·skip
    obtain ⟨q0, q1, q2, q3, q4, q5, q6, q7, q8⟩ := (HX1.out W ((Below.refl w1.heap.size w1).drew.trans hc.below)).box
    simp only at q0 q1 q2 q3 q4 q5 q6 q7 q8
    refine obl_val rfl (wanted_some rfl rfl s5) ?_ rfl
    go_simp
  | 8, _ =>
   intro a W hc hd
   have s6 : a.tmps[12]?.getD undef = (bif L then Value.func (Fn.func 77) #[] #[] else undef) := hd 6 (by kernel_rfl)
   have s7 : a.tmps[13]?.getD undef = (bif L then .agg #[.string id, .bool sale, .bool cred, .string ref, .int .i64 day, .string cty, .string num, .string cur, .slice Aa ls.length ca] else undef) := hd 7 (by kernel_rfl)
   have s5 : a.tmps[11]?.getD undef = (.bool L) := hd 5 (by kernel_rfl)
   cases L
   ·exact obl_skip rfl (wanted_not rfl rfl s5) rfl
   ·skip
    simp only [cond_true] at s6 s7
    refine obl_call rfl (wanted_some rfl rfl s5) (by go_simp) (HTA.out W) ?_
    rintro e w8 ⟨rfl, hb8⟩
    exact ⟨_, rfl, rfl, hb8⟩
  | 9, _ =>
   intro a W hc hd
   have z5 := hc.same 5 (by kernel_rfl)
   have s5 : a.tmps[11]?.getD undef = (.bool L) := hd 5 (by kernel_rfl)
   simp only [List.getElem?_toArray, List.getElem?_cons_succ, List.getElem?_cons_zero, Option.getD_some] at z5
   cases L
   ·exact obl_skip rfl (wanted_not rfl rfl s5) rfl
   ·skip
    refine obl_val rfl (wanted_some rfl rfl s5) ?_ rfl
    go_simp
  | 10, _ =>
   intro a W hc hd
   have z3 := hc.same 3 (by kernel_rfl)
   have s5 : a.tmps[11]?.getD undef = (.bool L) := hd 5 (by kernel_rfl)
   simp only [List.getElem?_toArray, List.getElem?_cons_succ, List.getElem?_cons_zero, Option.getD_some] at z3
   cases L
   ·exact obl_skip rfl (wanted_not rfl rfl s5) rfl
   ·skip
    obtain ⟨q0, q1, q2, q3, q4, q5, q6, q7, q8⟩ := (HX2.out W ((Below.refl w1.heap.size w1).drew.trans hc.below)).box
    simp only at q0 q1 q2 q3 q4 q5 q6 q7 q8
    refine obl_val rfl (wanted_some rfl rfl s5) ?_ rfl
    go_simp
  | 11, _ =>
   intro a W hc hd
   have s9 : a.tmps[15]?.getD undef = (bif L then Value.func (Fn.func 77) #[] #[] else undef) := hd 9 (by kernel_rfl)
   have s10 : a.tmps[16]?.getD undef = (bif L then .agg #[.string id', .bool sale', .bool cred', .string ref', .int .i64 day', .string cty', .string num', .string cur', .slice Ab ls'.length cb] else undef) := hd 10 (by kernel_rfl)
   have s5 : a.tmps[11]?.getD undef = (.bool L) := hd 5 (by kernel_rfl)
   cases L
   ·exact obl_skip rfl (wanted_not rfl rfl s5) rfl
   ·skip
    simp only [cond_true] at s9 s10
    refine obl_call rfl (wanted_some rfl rfl s5) (by go_simp) (HTB.out W) ?_
    rintro e w8 ⟨rfl, hb8⟩
    exact ⟨_, rfl, rfl, hb8⟩
  | 12, _ =>
   intro a W hc hd
   have s8 : a.tmps[14]?.getD undef = (bif L then .agg #[.string id, .string ref, .string cty, .string num, .string cur] else undef) := hd 8 (by kernel_rfl)
   have s11 : a.tmps[17]?.getD undef = (bif L then .agg #[.string id', .string ref', .string cty', .string num', .string cur'] else undef) := hd 11 (by kernel_rfl)
   have s5 : a.tmps[11]?.getD undef = (.bool L) := hd 5 (by kernel_rfl)
   cases L
   ·exact obl_skip rfl (wanted_not rfl rfl s5) rfl
   ·skip
    simp only [cond_true] at s8 s11
    refine obl_val rfl (wanted_some rfl rfl s5) ?_ rfl
    exact exec_eqagg rfl (eval_tmp s8) (eval_tmp s11) (by kernel_rfl) (HTX.out W)
  | 13, _ =>
   intro a W hc hd
   have s5 : a.tmps[11]?.getD undef = (.bool L) := hd 5 (by kernel_rfl)
   have s12 : a.tmps[18]?.getD undef = (bif L then .bool T else undef) := hd 12 (by kernel_rfl)
   have e := HG1.out
   cases L
   ·rw [Bool.false_and] at e
    subst e
    refine obl_val rfl (wanted_none rfl) ?_ rfl
    go_simp
   ·rw [Bool.true_and] at e
    subst e
    simp only [cond_true] at s12
    refine obl_val rfl (wanted_none rfl) ?_ rfl
    go_simp
  | 14, _ =>
   intro a W hc hd
   have s13 : a.tmps[19]?.getD undef = (.bool G1) := hd 13 (by kernel_rfl)
   refine obl_val rfl (wanted_none rfl) ?_ rfl
   go_simp
  | 15, _ =>
   intro a W hc hd
   have z2 := hc.same 2 (by kernel_rfl)
   have s14 : a.tmps[20]?.getD undef = (.bool G1) := hd 14 (by kernel_rfl)
   simp only [List.getElem?_toArray, List.getElem?_cons_succ, List.getElem?_cons_zero, Option.getD_some] at z2
   cases G1
   ·exact obl_skip rfl (wanted_not rfl rfl s14) rfl
   ·skip
    refine obl_val rfl (wanted_some rfl rfl s14) ?_ rfl
    go_simp
  | 16, _ =>
   intro a W hc hd
   have s15 : a.tmps[21]?.getD undef = (bif G1 then .pointer (some ⟨w.heap.size, 1, none⟩) else undef) := hd 15 (by kernel_rfl)
   have s14 : a.tmps[20]?.getD undef = (.bool G1) := hd 14 (by kernel_rfl)
   cases G1
   ·exact obl_skip rfl (wanted_not rfl rfl s14) rfl
   ·skip
    simp only [cond_true] at s15
    obtain ⟨q0, q1, q2, q3, q4, q5, q6, q7, q8⟩ := (HX1.out W ((Below.refl w1.heap.size w1).drew.trans hc.below)).box
    simp only at q0 q1 q2 q3 q4 q5 q6 q7 q8
    refine obl_val rfl (wanted_some rfl rfl s14) ?_ rfl
    go_simp
  | 17, _ =>
   intro a W hc hd
   have z3 := hc.same 3 (by kernel_rfl)
   have s14 : a.tmps[20]?.getD undef = (.bool G1) := hd 14 (by kernel_rfl)
   simp only [List.getElem?_toArray, List.getElem?_cons_succ, List.getElem?_cons_zero, Option.getD_some] at z3
   cases G1
   ·exact obl_skip rfl (wanted_not rfl rfl s14) rfl
   ·skip
    refine obl_val rfl (wanted_some rfl rfl s14) ?_ rfl
    go_simp
  | 18, _ =>
   intro a W hc hd
   have s17 : a.tmps[23]?.getD undef = (bif G1 then .pointer (some ⟨w.heap.size + 1, 1, none⟩) else undef) := hd 17 (by kernel_rfl)
   have s14 : a.tmps[20]?.getD undef = (.bool G1) := hd 14 (by kernel_rfl)
   cases G1
   ·exact obl_skip rfl (wanted_not rfl rfl s14) rfl
   ·skip
    simp only [cond_true] at s17
    obtain ⟨q0, q1, q2, q3, q4, q5, q6, q7, q8⟩ := (HX2.out W ((Below.refl w1.heap.size w1).drew.trans hc.below)).box
    simp only at q0 q1 q2 q3 q4 q5 q6 q7 q8
    refine obl_val rfl (wanted_some rfl rfl s14) ?_ rfl
    go_simp
  | 19, _ =>
   intro a W hc hd
   have s16 : a.tmps[22]?.getD undef = (bif G1 then .bool sale else undef) := hd 16 (by kernel_rfl)
   have s18 : a.tmps[24]?.getD undef = (bif G1 then .bool sale' else undef) := hd 18 (by kernel_rfl)
   have s14 : a.tmps[20]?.getD undef = (.bool G1) := hd 14 (by kernel_rfl)
   cases G1
   ·exact obl_skip rfl (wanted_not rfl rfl s14) rfl
   ·skip
    simp only [cond_true] at s16 s18
    refine obl_val rfl (wanted_some rfl rfl s14) ?_ rfl
    go_simp
    exact HS.out
  | 20, _ =>
   intro a W hc hd
   have s14 : a.tmps[20]?.getD undef = (.bool G1) := hd 14 (by kernel_rfl)
   have s19 : a.tmps[25]?.getD undef = (bif G1 then .bool S else undef) := hd 19 (by kernel_rfl)
   have e := HG2.out
   cases G1
   ·rw [Bool.false_and] at e
    subst e
    refine obl_val rfl (wanted_none rfl) ?_ rfl
    go_simp
   ·rw [Bool.true_and] at e
    subst e
    simp only [cond_true] at s19
    refine obl_val rfl (wanted_none rfl) ?_ rfl
    go_simp
  | 21, _ =>
   intro a W hc hd
   have s20 : a.tmps[26]?.getD undef = (.bool G2) := hd 20 (by kernel_rfl)
   refine obl_val rfl (wanted_none rfl) ?_ rfl
   go_simp
  | 22, _ =>
   intro a W hc hd
   have z2 := hc.same 2 (by kernel_rfl)
   have s21 : a.tmps[27]?.getD undef = (.bool G2) := hd 21 (by kernel_rfl)
   simp only [List.getElem?_toArray, List.getElem?_cons_succ, List.getElem?_cons_zero, Option.getD_some] at z2
   cases G2
   ·exact obl_skip rfl (wanted_not rfl rfl s21) rfl
   ·skip
    refine obl_val rfl (wanted_some rfl rfl s21) ?_ rfl
    go_simp
  | 23, _ =>
   intro a W hc hd
   have s22 : a.tmps[28]?.getD undef = (bif G2 then .pointer (some ⟨w.heap.size, 2, none⟩) else undef) := hd 22 (by kernel_rfl)
   have s21 : a.tmps[27]?.getD undef = (.bool G2) := hd 21 (by kernel_rfl)
   cases G2
   ·exact obl_skip rfl (wanted_not rfl rfl s21) rfl
   ·skip
    simp only [cond_true] at s22
    obtain ⟨q0, q1, q2, q3, q4, q5, q6, q7, q8⟩ := (HX1.out W ((Below.refl w1.heap.size w1).drew.trans hc.below)).box
    simp only at q0 q1 q2 q3 q4 q5 q6 q7 q8
    refine obl_val rfl (wanted_some rfl rfl s21) ?_ rfl
    go_simp
  | 24, _ =>
   intro a W hc hd
   have z3 := hc.same 3 (by kernel_rfl)
   have s21 : a.tmps[27]?.getD undef = (.bool G2) := hd 21 (by kernel_rfl)
   simp only [List.getElem?_toArray, List.getElem?_cons_succ, List.getElem?_cons_zero, Option.getD_some] at z3
   cases G2
   ·exact obl_skip rfl (wanted_not rfl rfl s21) rfl
   ·skip
    refine obl_val rfl (wanted_some rfl rfl s21) ?_ rfl
    go_simp
  | 25, _ =>
   intro a W hc hd
   have s24 : a.tmps[30]?.getD undef = (bif G2 then .pointer (some ⟨w.heap.size + 1, 2, none⟩) else undef) := hd 24 (by kernel_rfl)
   have s21 : a.tmps[27]?.getD undef = (.bool G2) := hd 21 (by kernel_rfl)
   cases G2
   ·exact obl_skip rfl (wanted_not rfl rfl s21) rfl
   ·skip
    simp only [cond_true] at s24
    obtain ⟨q0, q1, q2, q3, q4, q5, q6, q7, q8⟩ := (HX2.out W ((Below.refl w1.heap.size w1).drew.trans hc.below)).box
    simp only at q0 q1 q2 q3 q4 q5 q6 q7 q8
    refine obl_val rfl (wanted_some rfl rfl s21) ?_ rfl
    go_simp
  | 26, _ =>
   intro a W hc hd
   have s23 : a.tmps[29]?.getD undef = (bif G2 then .bool cred else undef) := hd 23 (by kernel_rfl)
   have s25 : a.tmps[31]?.getD undef = (bif G2 then .bool cred' else undef) := hd 25 (by kernel_rfl)
   have s21 : a.tmps[27]?.getD undef = (.bool G2) := hd 21 (by kernel_rfl)
   cases G2
   ·exact obl_skip rfl (wanted_not rfl rfl s21) rfl
   ·skip
    simp only [cond_true] at s23 s25
    refine obl_val rfl (wanted_some rfl rfl s21) ?_ rfl
    go_simp
    exact HC.out
  | 27, _ =>
   intro a W hc hd
   have s21 : a.tmps[27]?.getD undef = (.bool G2) := hd 21 (by kernel_rfl)
   have s26 : a.tmps[32]?.getD undef = (bif G2 then .bool C else undef) := hd 26 (by kernel_rfl)
   have e := HG3.out
   cases G2
   ·rw [Bool.false_and] at e
    subst e
    refine obl_val rfl (wanted_none rfl) ?_ rfl
    go_simp
   ·rw [Bool.true_and] at e
    subst e
    simp only [cond_true] at s26
    refine obl_val rfl (wanted_none rfl) ?_ rfl
    go_simp
  | 28, _ =>
   intro a W hc hd
   have s27 : a.tmps[33]?.getD undef = (.bool G3) := hd 27 (by kernel_rfl)
   refine obl_val rfl (wanted_none rfl) ?_ rfl
   go_simp
  | 29, _ =>
   intro a W hc hd
   have z2 := hc.same 2 (by kernel_rfl)
   have s28 : a.tmps[34]?.getD undef = (.bool G3) := hd 28 (by kernel_rfl)
   simp only [List.getElem?_toArray, List.getElem?_cons_succ, List.getElem?_cons_zero, Option.getD_some] at z2
   cases G3
   ·exact obl_skip rfl (wanted_not rfl rfl s28) rfl
   ·skip
    refine obl_val rfl (wanted_some rfl rfl s28) ?_ rfl
    go_simp
  | 30, _ =>
   intro a W hc hd
   have s29 : a.tmps[35]?.getD undef = (bif G3 then .pointer (some ⟨w.heap.size, 4, none⟩) else undef) := hd 29 (by kernel_rfl)
   have s28 : a.tmps[34]?.getD undef = (.bool G3) := hd 28 (by kernel_rfl)
   cases G3
   ·exact obl_skip rfl (wanted_not rfl rfl s28) rfl
   ·skip
    simp only [cond_true] at s29
    obtain ⟨q0, q1, q2, q3, q4, q5, q6, q7, q8⟩ := (HX1.out W ((Below.refl w1.heap.size w1).drew.trans hc.below)).box
    simp only at q0 q1 q2 q3 q4 q5 q6 q7 q8
    refine obl_val rfl (wanted_some rfl rfl s28) ?_ rfl
    go_simp
  | 31, _ =>
   intro a W hc hd
   have z3 := hc.same 3 (by kernel_rfl)
   have s28 : a.tmps[34]?.getD undef = (.bool G3) := hd 28 (by kernel_rfl)
   simp only [List.getElem?_toArray, List.getElem?_cons_succ, List.getElem?_cons_zero, Option.getD_some] at z3
   cases G3
   ·exact obl_skip rfl (wanted_not rfl rfl s28) rfl
   ·skip
    refine obl_val rfl (wanted_some rfl rfl s28) ?_ rfl
    go_simp
  | 32, _ =>
   intro a W hc hd
   have s31 : a.tmps[37]?.getD undef = (bif G3 then .pointer (some ⟨w.heap.size + 1, 4, none⟩) else undef) := hd 31 (by kernel_rfl)
   have s28 : a.tmps[34]?.getD undef = (.bool G3) := hd 28 (by kernel_rfl)
   cases G3
   ·exact obl_skip rfl (wanted_not rfl rfl s28) rfl
   ·skip
    simp only [cond_true] at s31
    obtain ⟨q0, q1, q2, q3, q4, q5, q6, q7, q8⟩ := (HX2.out W ((Below.refl w1.heap.size w1).drew.trans hc.below)).box
    simp only at q0 q1 q2 q3 q4 q5 q6 q7 q8
    refine obl_val rfl (wanted_some rfl rfl s28) ?_ rfl
    go_simp
  | 33, _ =>
   intro a W hc hd
   have s30 : a.tmps[36]?.getD undef = (bif G3 then .int .i64 day else undef) := hd 30 (by kernel_rfl)
   have s32 : a.tmps[38]?.getD undef = (bif G3 then .int .i64 day' else undef) := hd 32 (by kernel_rfl)
   have s28 : a.tmps[34]?.getD undef = (.bool G3) := hd 28 (by kernel_rfl)
   cases G3
   ·exact obl_skip rfl (wanted_not rfl rfl s28) rfl
   ·skip
    simp only [cond_true] at s30 s32
    refine obl_val rfl (wanted_some rfl rfl s28) ?_ rfl
    go_simp
    exact HD.out
  | 34, _ =>
   intro a W hc hd
   have s28 : a.tmps[34]?.getD undef = (.bool G3) := hd 28 (by kernel_rfl)
   have s33 : a.tmps[39]?.getD undef = (bif G3 then .bool D else undef) := hd 33 (by kernel_rfl)
   have e := HG4.out
   cases G3
   ·rw [Bool.false_and] at e
    subst e
    refine obl_val rfl (wanted_none rfl) ?_ rfl
    go_simp
   ·rw [Bool.true_and] at e
    subst e
    simp only [cond_true] at s33
    refine obl_val rfl (wanted_none rfl) ?_ rfl
    go_simp
  | 35, _ =>
   intro a W hc hd
   have s34 : a.tmps[40]?.getD undef = (.bool G4) := hd 34 (by kernel_rfl)
   refine obl_val rfl (wanted_none rfl) ?_ rfl
   go_simp
  | n + 36, h => exact absurd h (by simp)
 ·skip
  have hfr := grow_frame hc [(6, (.pointer (some ⟨w.heap.size, 8, none⟩))), (7, (.slice Aa ls.length ca)), (8, (.pointer (some ⟨w.heap.size + 1, 8, none⟩))), (9, (.slice Ab ls'.length cb)), (10, (.bool L)), (11, (.bool L)), (12, (bif L then Value.func (Fn.func 77) #[] #[] else undef)), (13, (bif L then .agg #[.string id, .bool sale, .bool cred, .string ref, .int .i64 day, .string cty, .string num, .string cur, .slice Aa ls.length ca] else undef)), (14, (bif L then .agg #[.string id, .string ref, .string cty, .string num, .string cur] else undef)), (15, (bif L then Value.func (Fn.func 77) #[] #[] else undef)), (16, (bif L then .agg #[.string id', .bool sale', .bool cred', .string ref', .int .i64 day', .string cty', .string num', .string cur', .slice Ab ls'.length cb] else undef)), (17, (bif L then .agg #[.string id', .string ref', .string cty', .string num', .string cur'] else undef)), (18, (bif L then .bool T else undef)), (19, (.bool G1)), (20, (.bool G1)), (21, (bif G1 then .pointer (some ⟨w.heap.size, 1, none⟩) else undef)), (22, (bif G1 then .bool sale else undef)), (23, (bif G1 then .pointer (some ⟨w.heap.size + 1, 1, none⟩) else undef)), (24, (bif G1 then .bool sale' else undef)), (25, (bif G1 then .bool S else undef)), (26, (.bool G2)), (27, (.bool G2)), (28, (bif G2 then .pointer (some ⟨w.heap.size, 2, none⟩) else undef)), (29, (bif G2 then .bool cred else undef)), (30, (bif G2 then .pointer (some ⟨w.heap.size + 1, 2, none⟩) else undef)), (31, (bif G2 then .bool cred' else undef)), (32, (bif G2 then .bool C else undef)), (33, (.bool G3)), (34, (.bool G3)), (35, (bif G3 then .pointer (some ⟨w.heap.size, 4, none⟩) else undef)), (36, (bif G3 then .int .i64 day else undef)), (37, (bif G3 then .pointer (some ⟨w.heap.size + 1, 4, none⟩) else undef)), (38, (bif G3 then .int .i64 day' else undef)), (39, (bif G3 then .bool D else undef)), (40, (.bool G4)), (4, (.bool G4))] (by kernel_rfl) (fun p hp => by
    simp only [List.mem_cons, List.not_mem_nil, or_false] at hp
    rcases hp with rfl | rfl | rfl | rfl | rfl | rfl | rfl | rfl | rfl | rfl | rfl | rfl | rfl | rfl | rfl | rfl | rfl | rfl | rfl | rfl | rfl | rfl | rfl | rfl | rfl | rfl | rfl | rfl | rfl | rfl | rfl | rfl | rfl | rfl | rfl | rfl
    ·exact hs 0 6 (by decide) (by kernel_rfl)
    ·exact hs 1 7 (by decide) (by kernel_rfl)
    ·exact hs 2 8 (by decide) (by kernel_rfl)
    ·exact hs 3 9 (by decide) (by kernel_rfl)
    ·exact hs 4 10 (by decide) (by kernel_rfl)
    ·exact hs 5 11 (by decide) (by kernel_rfl)
    ·exact hs 6 12 (by decide) (by kernel_rfl)
    ·exact hs 7 13 (by decide) (by kernel_rfl)
    ·exact hs 8 14 (by decide) (by kernel_rfl)
    ·exact hs 9 15 (by decide) (by kernel_rfl)
    ·exact hs 10 16 (by decide) (by kernel_rfl)
    ·exact hs 11 17 (by decide) (by kernel_rfl)
    ·exact hs 12 18 (by decide) (by kernel_rfl)
    ·exact hs 13 19 (by decide) (by kernel_rfl)
    ·exact hs 14 20 (by decide) (by kernel_rfl)
    ·exact hs 15 21 (by decide) (by kernel_rfl)
    ·exact hs 16 22 (by decide) (by kernel_rfl)
    ·exact hs 17 23 (by decide) (by kernel_rfl)
    ·exact hs 18 24 (by decide) (by kernel_rfl)
    ·exact hs 19 25 (by decide) (by kernel_rfl)
    ·exact hs 20 26 (by decide) (by kernel_rfl)
    ·exact hs 21 27 (by decide) (by kernel_rfl)
    ·exact hs 22 28 (by decide) (by kernel_rfl)
    ·exact hs 23 29 (by decide) (by kernel_rfl)
    ·exact hs 24 30 (by decide) (by kernel_rfl)
    ·exact hs 25 31 (by decide) (by kernel_rfl)
    ·exact hs 26 32 (by decide) (by kernel_rfl)
    ·exact hs 27 33 (by decide) (by kernel_rfl)
    ·exact hs 28 34 (by decide) (by kernel_rfl)
    ·exact hs 29 35 (by decide) (by kernel_rfl)
    ·exact hs 30 36 (by decide) (by kernel_rfl)
    ·exact hs 31 37 (by decide) (by kernel_rfl)
    ·exact hs 32 38 (by decide) (by kernel_rfl)
    ·exact hs 33 39 (by decide) (by kernel_rfl)
    ·exact hs 34 40 (by decide) (by kernel_rfl)
    ·exact hs 35 4 (by decide) (by kernel_rfl)
    )
  simp only [List.range, List.range.loop, List.size_toArray, List.length_cons, List.length_nil, List.map_cons, List.map_nil, List.lookup_cons, List.lookup_nil, Nat.reduceAdd, Nat.reduceBEq, Option.getD_some, Option.getD_none, List.getElem?_toArray, List.getElem?_cons_succ, List.getElem?_cons_zero] at hfr
  subst hfr
  have hb3 := HAL.out.trans (((Below.refl w1.heap.size w1).drew.trans hc.below).mono HAL.out.size)
  clear hc hs
  go_wp2
  go_ret
  exact ⟨rfl, hb3⟩
end Go.Proofs.Ytnfpmobmfcgfnaa

