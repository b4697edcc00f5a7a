/- THE WALK OF TapeReads. -/
import Derived.Test.YtmcjefdnkcpghaaTbD
namespace Go.Proofs.Ytmcjefdnkcpghaa
open Go.RowKit
theorem exec_neagg {P : Program} {o : Oper} {ρ : Operand → Value} {w : World} {t t' : TypeId} {x y : Operand} {X Y : Array Value} {u : Value} (ho : o.op = .binOp .neq t x y t') (hx : ρ x = .agg X) (hy : ρ y = .agg Y) (hm : P.eqGuardType P.depth t = false) (h : (binOp .neq t (.agg X) (.agg Y)).run P w = .ok u w) : (execOp ρ o).run P w = .ok (.value u) w := by
  have hg := run_eqGuard_agg (P := P) w .neq t x y X Y hm
  unfold execOp; simp only [ho, hx, hy, Sem.run_bind, hg, h, Result.andThen_ok, Sem.run_pure]
theorem head_fields : (Try.prog.fieldsOf 81).toList.map (fun f => (f.type, f.offset, f.name == "_")) = [(3, 0, false), (3, 1, false), (22, 2, false)] := by kernel_rfl
theorem head_under : Try.prog.underlying 81 = some (.struct (Try.prog.fieldsOf 81)) := by kernel_rfl
theorem head_neq (w : World) (a b c : Int) : (binOp .neq 81 (.agg #[.int .i64 a, .int .i64 b, .int .u32 c]) (.agg #[.int .i64 a, .int .i64 b, .int .u32 c])).run Try.prog w = .ok (.bool false) w := by
  rw [run_neq_struct, run_equalIn_struct (P := Try.prog) w 9999 _ _ _ head_under (by kernel_rfl)]
  have h := head_fields
  generalize (Try.prog.fieldsOf 81).toList = fs at *
  obtain ⟨f0, f1, f2, rfl⟩ : ∃ f0 f1 f2, fs = [f0, f1, f2] := by
    have hl := congrArg List.length h
    rw [List.length_map] at hl
    rcases fs with _ | ⟨f0, _ | ⟨f1, _ | ⟨f2, _ | ⟨f3, r⟩⟩⟩⟩ <;> simp at hl
    exact ⟨_, _, _, rfl⟩
  · skip
    simp only [List.map_cons, List.map_nil, List.cons.injEq, Prod.mk.injEq, beq_eq_false_iff_ne, and_true] at h
    obtain ⟨⟨t0, o0, n0⟩, ⟨t1, o1, n1⟩, t2, o2, n2⟩ := h
    have p0 : ∀ (v : Value) (cs : Array Value) (i : Nat) (W : World), cs[i]? = some v → (part 3 cs i).run Try.prog W = .ok v W := by
      intro v cs i W hv
      simp [part, isAgg, run_underlying Try.underlying3, hv]
    have p2 : ∀ (v : Value) (cs : Array Value) (i : Nat) (W : World), cs[i]? = some v → (part 22 cs i).run Try.prog W = .ok v W := by
      intro v cs i W hv
      simp [part, isAgg, run_underlying Try.underlying22, hv]
    have q0 : ∀ (x : Int) (W : World), (Op.equalIn 9999 3 (.int .i64 x) (.int .i64 x)).run Try.prog W = .ok (x == x) W := fun x W => run_equalIn_int (P := Try.prog) W 9998 3 .i64 _ x x Try.underlying3
    have q2 : ∀ (x : Int) (W : World), (Op.equalIn 9999 22 (.int .u32 x) (.int .u32 x)).run Try.prog W = .ok (x == x) W := fun x W => run_equalIn_int (P := Try.prog) W 9998 22 .u32 _ x x Try.underlying22
    have r0 := fun W => p0 (.int .i64 a) #[.int .i64 a, .int .i64 b, .int .u32 c] 0 W rfl
    have r1 := fun W => p0 (.int .i64 b) #[.int .i64 a, .int .i64 b, .int .u32 c] 1 W rfl
    have r2 := fun W => p2 (.int .u32 c) #[.int .i64 a, .int .i64 b, .int .u32 c] 2 W rfl
    simp only [Op.eqFields, t0, o0, n0, t1, o1, n1, t2, o2, n2, ne_eq, not_false_eq_true, if_true, Sem.run_bind, r0, r1, r2, q0, q2, Result.andThen_ok, beq_self_eq_true, Bool.not_true, Bool.false_eq_true, if_false, Sem.run_pure]
theorem beginV_form (l : List UInt8) : ∃ a b c : Int, beginV l = .agg #[.int .i64 a, .int .i64 b, .int .u32 c] := by
  unfold beginV headV
  split <;> exact ⟨_, _, _, rfl⟩
set_option maxRecDepth 100000 in
set_option maxHeartbeats 8000000 in
theorem treads_any {w : World} (v : Value) (l : List UInt8) (hv : Byt w w.heap.size v l) (hd : Value) (q : Int × Int × Nat) (hq : hd = headV q.1 q.2.1 q.2.2 ∧ q.2.2 < 4294967296) (vs : Value) (ls : List (List UInt8)) (hvs : Byts w w.heap.size vs ls) :
    Calls Try.prog 12 #[v, hd, vs] w fun e w' => e = .returned (.bool true) ∧ Below w.heap.size w w' := by
  obtain ⟨seq, len, sum⟩ := q
  obtain ⟨rfl, hsum⟩ := hq
  simp only at hsum ⊢
  obtain ⟨A, c, rfl, hc, hm, hr0⟩ := id hv
  clear hr0
  unfold maxLen at hm
  obtain ⟨A2, c2, rfl, hc2, hm2⟩ := hvs.form
  unfold maxLen at hm2
  unfold headV
  have hb0 : Below w.heap.size w (w.alloc (.cells #[.int .i64 seq, .int .i64 len, .int .u32 (sum : Int)] 77)) := (Below.refl _ _).alloc (Nat.le_refl _) _
  by_cases h5 : 1000 < l.length ∨ 40 < ls.length
  · clear hv hvs
    by_cases b1 : 1000 < l.length
    · have e1 : decide ((1000 : Int) < (l.length : Int)) = true := decide_eq_true (by omega)
      clear h5 b1
      go_enter Try.func12, Try.ntmps12
      go_wp2_with (first
        | (go_at_call 49; refine (lives10_any _).mono ?_; rintro e w9 ⟨rfl, hb9⟩))
      go_ret
      exact ⟨rfl, hb0.trans (hb9.mono hb0.size)⟩
    have e1 : decide ((1000 : Int) < (l.length : Int)) = false := decide_eq_false (by omega)
    have e2 : decide ((40 : Int) < (ls.length : Int)) = true := decide_eq_true (by omega)
    clear h5 b1
    go_enter Try.func12, Try.ntmps12
    go_wp2_with (first
      | (go_at_call 49; refine (lives10_any _).mono ?_; rintro e w9 ⟨rfl, hb9⟩))
    go_ret
    exact ⟨rfl, hb0.trans (hb9.mono hb0.size)⟩
  have hln : ls.length ≤ 40 := by omega
  have e1 : decide ((1000 : Int) < (l.length : Int)) = false := decide_eq_false (by omega)
  have e2 : decide ((40 : Int) < (ls.length : Int)) = false := decide_eq_false (by omega)
  have hbox := heap_alloc_new w (.cells #[.int .i64 seq, .int .i64 len, .int .u32 (sum : Int)] 77 (0, 0))
  have HV := Lib.hid hv
  have HVS := Lib.hid hvs
  have HB0 := Lib.hid hb0
  have HBOX := Lib.hid hbox
  clear h5 hv hvs hb0 hbox
  go_enter Try.func12, Try.ntmps12
  go_wp2
  go_loopg [8, 28] ls.length (fun gk x8 x28 wr => ∃ k : Nat, gk = ls.length - k ∧ k ≤ ls.length ∧ x28 = .int .i64 (k : Int) ∧ wr = w.alloc (.cells #[.int .i64 seq, .int .i64 len, .int .u32 (sum : Int)] 77))
  case atStart => exact ⟨0, rfl, Nat.zero_le _, rfl, rfl⟩
  case round =>
    obtain ⟨k, hgk, hk, rfl, rfl⟩ := hrel
    have HG := Lib.hid hgk
    clear hgk
    by_cases h : k < ls.length
    · obtain ⟨ad, u, rfl, hadb, hcu, hbu⟩ := HVS.out.atv k h
      obtain ⟨Au, cu, rfl, hcu1, hcu2, _⟩ := hbu
      have hcu' := (HB0.out.cell (p := ad.add k) (by rw [addr_add_block]; exact hadb)).trans hcu
      have i1 : (0 : Int) ≤ (k : Int) := by omega
      have i2 : (k : Int) < (ls.length : Int) := by omega
      clear hcu
      unfold maxLen at hcu2
      by_cases hbig : 1000 < ls[k].length
      · have e3 : decide ((1000 : Int) < (ls[k].length : Int)) = true := decide_eq_true (by omega)
        generalize ls[k].length = m at *
        go_wp2_with (first
          | (go_at_call 49; refine (lives10_any _).mono ?_; rintro e w9 ⟨rfl, hb9⟩))
        go_ret
        exact ⟨rfl, HB0.out.trans (hb9.mono HB0.out.size)⟩
      · have e3 : decide ((1000 : Int) < (ls[k].length : Int)) = false := decide_eq_false (by omega)
        generalize ls[k].length = m at *
        go_wp2
        go_roundg (ls.length - (k + 1))
        case measure => have := HG.out; omega
        case rel => exact ⟨k + 1, rfl, by omega, by go_num, rfl⟩
    · obtain rfl : k = ls.length := by omega
      clear HG h hk
      have hbg := begin_any (HV.out.below HB0.out)
      have hrb := fun (W : World) (h : Byt W w.heap.size (.slice A l.length c) l) => rbegin_any h
      unfold BeginPost at hbg hrb
      obtain ⟨a, b, d, habc⟩ := beginV_form l
      rw [habc] at hbg hrb
      have hen := fun (W : World) (h : Byt W w.heap.size (.slice A l.length c) l) => end_any h seq len sum hsum
      have hre := fun (W : World) (h : Byt W w.heap.size (.slice A l.length c) l) => rend_any h seq len sum hsum
      have hbl := fun (W : World) (h : Byt W w.heap.size (.slice A l.length c) l) => blank_any h
      have hrl := fun (W : World) (h : Byt W w.heap.size (.slice A l.length c) l) => rblank_any h
      have hjo := fun (W : World) (h : Byts W w.heap.size (.slice A2 ls.length c2) ls) => join_any h seq len sum hsum
      have hrj := fun (W : World) (h : Byts W w.heap.size (.slice A2 ls.length c2) ls) => rjoin_any h seq len sum hsum
      unfold JoinPost at hjo hrj
      unfold headV at hen hre hjo hrj
      generalize beginB l = bb at *
      generalize endB l seq sum = eb at *
      generalize blankB l = ab at *
      generalize joinB ls seq len sum = jb at *
      generalize joinL ls seq len sum = J at *
      have HRB := Lib.hid hrb
      have HEN := Lib.hid hen
      have HRE := Lib.hid hre
      have HBL := Lib.hid hbl
      have HRL := Lib.hid hrl
      have HJO := Lib.hid hjo
      have HRJ := Lib.hid hrj
      clear habc hrb hen hre hbl hrl hjo hrj
      go_wp2_with fail
      refine hbg.mono ?_
      rintro e w1 ⟨rfl, hb1⟩
      have hb01 : Below w.heap.size w (w1.alloc (.cells #[.int .i64 a, .int .i64 b, .int .u32 d] 77)) := (HB0.out.trans (hb1.mono HB0.out.size)).alloc (HB0.out.trans (hb1.mono HB0.out.size)).size _
      have hrb := HRB.out (w1.alloc (.cells #[.int .i64 a, .int .i64 b, .int .u32 d] 77)) (HV.out.below hb01)
      clear hbg
      go_wp2_with fail
      refine hrb.mono ?_
      rintro e w2 ⟨rfl, hb2⟩
      clear hrb
      go_wp2_with fail
      have hbx := fun (W : World) (hW : Below (w2.alloc (.cells #[.int .i64 a, .int .i64 b, .int .u32 d] 81)).drew.heap.size (w2.alloc (.cells #[.int .i64 a, .int .i64 b, .int .u32 d] 81)).drew W) => (show (W.cell? ⟨w1.heap.size, 0, none⟩ = some (.int .i64 a) ∧ W.cell? ⟨w1.heap.size, 1, none⟩ = some (.int .i64 b) ∧ W.cell? ⟨w1.heap.size, 2, none⟩ = some (.int .u32 d)) ∧ (W.cell? ⟨w2.heap.size, 0, none⟩ = some (.int .i64 a) ∧ W.cell? ⟨w2.heap.size, 1, none⟩ = some (.int .i64 b) ∧ W.cell? ⟨w2.heap.size, 2, none⟩ = some (.int .u32 d)) ∧ (W.cell? ⟨w.heap.size, 0, none⟩ = some (.int .i64 seq) ∧ W.cell? ⟨w.heap.size, 1, none⟩ = some (.int .i64 len) ∧ W.cell? ⟨w.heap.size, 2, none⟩ = some (.int .u32 (sum : Int))) ∧ Byt W w.heap.size (.slice A l.length c) l ∧ Byts W w.heap.size (.slice A2 ls.length c2) ls ∧ Below (w.heap.size + 1) (w.alloc (.cells #[.int .i64 seq, .int .i64 len, .int .u32 (sum : Int)] 77)) W from by
        have hs1 := hb1.size
        have hs2 := hb2.size
        simp only [World.size_alloc] at hs1 hs2
        have hb2W := (hb2.alloc (by simpa using hs2) (.cells #[.int .i64 a, .int .i64 b, .int .u32 d] 81)).drew.trans (hW.mono (by simp; omega))
        have hb1W := (hb1.alloc (by simpa using hs1) (.cells #[.int .i64 a, .int .i64 b, .int .u32 d] 77)).trans (hb2W.mono (by simp; omega))
        simp only [World.size_alloc] at hb1W hb2W
        have hW0 := HB0.out.trans (hb1W.mono (Nat.le_succ _))
        have h9 := (hb2W.block w1.heap.size (Nat.lt_succ_self _)).trans (heap_alloc_new w1 _)
        have h11 := (hW.block w2.heap.size (lt_of_block (heap_alloc_new w2 _))).trans (heap_alloc_new w2 _)
        have h4 := (hb1W.block w.heap.size (Nat.lt_succ_self _)).trans HBOX.out
        exact ⟨⟨cells_of h9 0 _ rfl, cells_of h9 1 _ rfl, cells_of h9 2 _ rfl⟩, ⟨cells_of h11 0 _ rfl, cells_of h11 1 _ rfl, cells_of h11 2 _ rfl⟩, ⟨cells_of h4 0 _ rfl, cells_of h4 1 _ rfl, cells_of h4 2 _ rfl⟩, HV.out.below hW0, HVS.out.below hW0, hb1W⟩)
      have HX := Lib.hid hbx
      have HB2 := Lib.hid hb2
      clear hbx hb1 hb2 hb01
      generalize w1.heap.size = b1 at *
      -- region 11
      refine Q.wp_region_sp (by kernel_rfl) [isS (.agg #[.int .i64 a, .int .i64 b, .int .u32 d]), isS (.agg #[.int .i64 a, .int .i64 b, .int .u32 d]), isS (.bool false), isS (.bool false), isS (.bool bb), isS (.bool bb), isS (.bool false), isS (.bool false), isS (.bool false), isS (.slice A l.length c), isS (.agg #[.int .i64 seq, .int .i64 len, .int .u32 (sum : Int)]), isS (.bool eb), isS (.slice A l.length c), isS (.agg #[.int .i64 seq, .int .i64 len, .int .u32 (sum : Int)]), isS (.bool eb), isS (.bool false), isS (.bool false), isS (.bool false), isS (.slice A l.length c), isS (.bool ab), isS (.slice A l.length c), isS (.bool ab), isS (.bool false), isS (.bool false)] (by kernel_rfl) (by kernel_rfl) (fun i hi => ?_) (fun aa w5 hc hs => ?_)
      · match i, hi with
        | 0, _ =>
          intro aa W hc hd
          have z9 := hc.same 9 (by kernel_rfl)
          simp only [List.getElem?_toArray, List.getElem?_cons_succ, List.getElem?_cons_zero, Option.getD_some] at z9
          obtain ⟨⟨x0, x1, x2⟩, ⟨y0, y1, y2⟩, ⟨z0, z1, z2⟩, qv, qs, qb⟩ := HX.out W hc.below
          refine obl_val rfl (wanted_none rfl) ?_ rfl
          go_simp
        | 1, _ =>
          intro aa W hc hd
          have z11 := hc.same 11 (by kernel_rfl)
          simp only [List.getElem?_toArray, List.getElem?_cons_succ, List.getElem?_cons_zero, Option.getD_some] at z11
          obtain ⟨⟨x0, x1, x2⟩, ⟨y0, y1, y2⟩, ⟨z0, z1, z2⟩, qv, qs, qb⟩ := HX.out W hc.below
          refine obl_val rfl (wanted_none rfl) ?_ rfl
          go_simp
        | 2, _ =>
          intro aa W hc hd
          have s0 : aa.tmps[47]?.getD undef = (.agg #[.int .i64 a, .int .i64 b, .int .u32 d]) := hd 0 (by kernel_rfl)
          have s1 : aa.tmps[48]?.getD undef = (.agg #[.int .i64 a, .int .i64 b, .int .u32 d]) := hd 1 (by kernel_rfl)
          refine obl_val rfl (wanted_none rfl) ?_ rfl
          exact exec_neagg rfl (eval_tmp s0) (eval_tmp s1) (by kernel_rfl) (head_neq W a b d)
        | 3, _ =>
          intro aa W hc hd
          have s2 : aa.tmps[49]?.getD undef = (.bool false) := hd 2 (by kernel_rfl)
          refine obl_val rfl (wanted_none rfl) ?_ rfl
          go_simp
        | 4, _ =>
          intro aa W hc hd
          have z10 := hc.same 10 (by kernel_rfl)
          have s3 : aa.tmps[50]?.getD undef = (.bool false) := hd 3 (by kernel_rfl)
          simp only [List.getElem?_toArray, List.getElem?_cons_succ, List.getElem?_cons_zero, Option.getD_some] at z10
          refine obl_val rfl (wanted_some rfl rfl s3) ?_ rfl
          go_simp
        | 5, _ =>
          intro aa W hc hd
          have z12 := hc.same 12 (by kernel_rfl)
          have s3 : aa.tmps[50]?.getD undef = (.bool false) := hd 3 (by kernel_rfl)
          simp only [List.getElem?_toArray, List.getElem?_cons_succ, List.getElem?_cons_zero, Option.getD_some] at z12
          refine obl_val rfl (wanted_some rfl rfl s3) ?_ rfl
          go_simp
        | 6, _ =>
          intro aa W hc hd
          have s4 : aa.tmps[51]?.getD undef = (.bool bb) := hd 4 (by kernel_rfl)
          have s5 : aa.tmps[52]?.getD undef = (.bool bb) := hd 5 (by kernel_rfl)
          have s3 : aa.tmps[50]?.getD undef = (.bool false) := hd 3 (by kernel_rfl)
          refine obl_val rfl (wanted_some rfl rfl s3) ?_ rfl
          go_simp
        | 7, _ =>
          intro aa W hc hd
          have s3 : aa.tmps[50]?.getD undef = (.bool false) := hd 3 (by kernel_rfl)
          have s6 : aa.tmps[53]?.getD undef = (.bool false) := hd 6 (by kernel_rfl)
          refine obl_val rfl (wanted_none rfl) ?_ rfl
          go_simp
        | 8, _ =>
          intro aa W hc hd
          have s7 : aa.tmps[54]?.getD undef = (.bool false) := hd 7 (by kernel_rfl)
          refine obl_val rfl (wanted_none rfl) ?_ rfl
          go_simp
        | 9, _ =>
          intro aa W hc hd
          have z0 := hc.same 0 (by kernel_rfl)
          have s8 : aa.tmps[55]?.getD undef = (.bool false) := hd 8 (by kernel_rfl)
          simp only [List.getElem?_toArray, List.getElem?_cons_zero, Option.getD_some] at z0
          refine obl_val rfl (wanted_some rfl rfl s8) ?_ rfl
          go_simp
        | 10, _ =>
          intro aa W hc hd
          have z4 := hc.same 4 (by kernel_rfl)
          have s8 : aa.tmps[55]?.getD undef = (.bool false) := hd 8 (by kernel_rfl)
          simp only [List.getElem?_toArray, List.getElem?_cons_succ, List.getElem?_cons_zero, Option.getD_some] at z4
          obtain ⟨⟨x0, x1, x2⟩, ⟨y0, y1, y2⟩, ⟨z0, z1, z2⟩, qv, qs, qb⟩ := HX.out W hc.below
          refine obl_val rfl (wanted_some rfl rfl s8) ?_ rfl
          go_simp
        | 11, _ =>
          intro aa W hc hd
          have s9 : aa.tmps[56]?.getD undef = (.slice A l.length c) := hd 9 (by kernel_rfl)
          have s10 : aa.tmps[57]?.getD undef = (.agg #[.int .i64 seq, .int .i64 len, .int .u32 (sum : Int)]) := hd 10 (by kernel_rfl)
          have s8 : aa.tmps[55]?.getD undef = (.bool false) := hd 8 (by kernel_rfl)
          obtain ⟨⟨x0, x1, x2⟩, ⟨y0, y1, y2⟩, ⟨z0, z1, z2⟩, qv, qs, qb⟩ := HX.out W hc.below
          refine obl_call rfl (wanted_some rfl rfl s8) (by go_simp) (HEN.out W qv) ?_
          rintro e w8 ⟨rfl, hb8⟩
          exact ⟨_, rfl, rfl, hb8⟩
        | 12, _ =>
          intro aa W hc hd
          have z0 := hc.same 0 (by kernel_rfl)
          have s8 : aa.tmps[55]?.getD undef = (.bool false) := hd 8 (by kernel_rfl)
          simp only [List.getElem?_toArray, List.getElem?_cons_zero, Option.getD_some] at z0
          refine obl_val rfl (wanted_some rfl rfl s8) ?_ rfl
          go_simp
        | 13, _ =>
          intro aa W hc hd
          have z4 := hc.same 4 (by kernel_rfl)
          have s8 : aa.tmps[55]?.getD undef = (.bool false) := hd 8 (by kernel_rfl)
          simp only [List.getElem?_toArray, List.getElem?_cons_succ, List.getElem?_cons_zero, Option.getD_some] at z4
          obtain ⟨⟨x0, x1, x2⟩, ⟨y0, y1, y2⟩, ⟨z0, z1, z2⟩, qv, qs, qb⟩ := HX.out W hc.below
          refine obl_val rfl (wanted_some rfl rfl s8) ?_ rfl
          go_simp
        | 14, _ =>
          intro aa W hc hd
          have s12 : aa.tmps[59]?.getD undef = (.slice A l.length c) := hd 12 (by kernel_rfl)
          have s13 : aa.tmps[60]?.getD undef = (.agg #[.int .i64 seq, .int .i64 len, .int .u32 (sum : Int)]) := hd 13 (by kernel_rfl)
          have s8 : aa.tmps[55]?.getD undef = (.bool false) := hd 8 (by kernel_rfl)
          obtain ⟨⟨x0, x1, x2⟩, ⟨y0, y1, y2⟩, ⟨z0, z1, z2⟩, qv, qs, qb⟩ := HX.out W hc.below
          refine obl_call rfl (wanted_some rfl rfl s8) (by go_simp) (HRE.out W qv) ?_
          rintro e w8 ⟨rfl, hb8⟩
          exact ⟨_, rfl, rfl, hb8⟩
        | 15, _ =>
          intro aa W hc hd
          have s11 : aa.tmps[58]?.getD undef = (.bool eb) := hd 11 (by kernel_rfl)
          have s14 : aa.tmps[61]?.getD undef = (.bool eb) := hd 14 (by kernel_rfl)
          have s8 : aa.tmps[55]?.getD undef = (.bool false) := hd 8 (by kernel_rfl)
          refine obl_val rfl (wanted_some rfl rfl s8) ?_ rfl
          go_simp
        | 16, _ =>
          intro aa W hc hd
          have s8 : aa.tmps[55]?.getD undef = (.bool false) := hd 8 (by kernel_rfl)
          have s15 : aa.tmps[62]?.getD undef = (.bool false) := hd 15 (by kernel_rfl)
          refine obl_val rfl (wanted_none rfl) ?_ rfl
          go_simp
        | 17, _ =>
          intro aa W hc hd
          have s16 : aa.tmps[63]?.getD undef = (.bool false) := hd 16 (by kernel_rfl)
          refine obl_val rfl (wanted_none rfl) ?_ rfl
          go_simp
        | 18, _ =>
          intro aa W hc hd
          have z0 := hc.same 0 (by kernel_rfl)
          have s17 : aa.tmps[64]?.getD undef = (.bool false) := hd 17 (by kernel_rfl)
          simp only [List.getElem?_toArray, List.getElem?_cons_zero, Option.getD_some] at z0
          refine obl_val rfl (wanted_some rfl rfl s17) ?_ rfl
          go_simp
        | 19, _ =>
          intro aa W hc hd
          have s18 : aa.tmps[65]?.getD undef = (.slice A l.length c) := hd 18 (by kernel_rfl)
          have s17 : aa.tmps[64]?.getD undef = (.bool false) := hd 17 (by kernel_rfl)
          obtain ⟨⟨x0, x1, x2⟩, ⟨y0, y1, y2⟩, ⟨z0, z1, z2⟩, qv, qs, qb⟩ := HX.out W hc.below
          refine obl_call rfl (wanted_some rfl rfl s17) (by go_simp) (HBL.out W qv) ?_
          rintro e w8 ⟨rfl, hb8⟩
          exact ⟨_, rfl, rfl, hb8⟩
        | 20, _ =>
          intro aa W hc hd
          have z0 := hc.same 0 (by kernel_rfl)
          have s17 : aa.tmps[64]?.getD undef = (.bool false) := hd 17 (by kernel_rfl)
          simp only [List.getElem?_toArray, List.getElem?_cons_zero, Option.getD_some] at z0
          refine obl_val rfl (wanted_some rfl rfl s17) ?_ rfl
          go_simp
        | 21, _ =>
          intro aa W hc hd
          have s20 : aa.tmps[67]?.getD undef = (.slice A l.length c) := hd 20 (by kernel_rfl)
          have s17 : aa.tmps[64]?.getD undef = (.bool false) := hd 17 (by kernel_rfl)
          obtain ⟨⟨x0, x1, x2⟩, ⟨y0, y1, y2⟩, ⟨z0, z1, z2⟩, qv, qs, qb⟩ := HX.out W hc.below
          refine obl_call rfl (wanted_some rfl rfl s17) (by go_simp) (HRL.out W qv) ?_
          rintro e w8 ⟨rfl, hb8⟩
          exact ⟨_, rfl, rfl, hb8⟩
        | 22, _ =>
          intro aa W hc hd
          have s19 : aa.tmps[66]?.getD undef = (.bool ab) := hd 19 (by kernel_rfl)
          have s21 : aa.tmps[68]?.getD undef = (.bool ab) := hd 21 (by kernel_rfl)
          have s17 : aa.tmps[64]?.getD undef = (.bool false) := hd 17 (by kernel_rfl)
          refine obl_val rfl (wanted_some rfl rfl s17) ?_ rfl
          go_simp
        | 23, _ =>
          intro aa W hc hd
          have s17 : aa.tmps[64]?.getD undef = (.bool false) := hd 17 (by kernel_rfl)
          have s22 : aa.tmps[69]?.getD undef = (.bool false) := hd 22 (by kernel_rfl)
          refine obl_val rfl (wanted_none rfl) ?_ rfl
          go_simp
        | n + 24, h => exact absurd h (by simp)
      · skip
        have hfr := grow_frame hc [(47, (.agg #[.int .i64 a, .int .i64 b, .int .u32 d])), (48, (.agg #[.int .i64 a, .int .i64 b, .int .u32 d])), (49, (.bool false)), (50, (.bool false)), (51, (.bool bb)), (52, (.bool bb)), (53, (.bool false)), (54, (.bool false)), (55, (.bool false)), (56, (.slice A l.length c)), (57, (.agg #[.int .i64 seq, .int .i64 len, .int .u32 (sum : Int)])), (58, (.bool eb)), (59, (.slice A l.length c)), (60, (.agg #[.int .i64 seq, .int .i64 len, .int .u32 (sum : Int)])), (61, (.bool eb)), (62, (.bool false)), (63, (.bool false)), (64, (.bool false)), (65, (.slice A l.length c)), (66, (.bool ab)), (67, (.slice A l.length c)), (68, (.bool ab)), (69, (.bool false)), (70, (.bool false))] (by kernel_rfl) (fun p hp => by
            simp only [List.mem_cons, List.not_mem_nil, or_false] at hp
            rcases hp with rfl | rfl | rfl | rfl | rfl | rfl | rfl | rfl | rfl | rfl | rfl | rfl | rfl | rfl | rfl | rfl | rfl | rfl | rfl | rfl | rfl | rfl | rfl | rfl
            · exact hs 0 47 (by decide) (by kernel_rfl)
            · exact hs 1 48 (by decide) (by kernel_rfl)
            · exact hs 2 49 (by decide) (by kernel_rfl)
            · exact hs 3 50 (by decide) (by kernel_rfl)
            · exact hs 4 51 (by decide) (by kernel_rfl)
            · exact hs 5 52 (by decide) (by kernel_rfl)
            · exact hs 6 53 (by decide) (by kernel_rfl)
            · exact hs 7 54 (by decide) (by kernel_rfl)
            · exact hs 8 55 (by decide) (by kernel_rfl)
            · exact hs 9 56 (by decide) (by kernel_rfl)
            · exact hs 10 57 (by decide) (by kernel_rfl)
            · exact hs 11 58 (by decide) (by kernel_rfl)
            · exact hs 12 59 (by decide) (by kernel_rfl)
            · exact hs 13 60 (by decide) (by kernel_rfl)
            · exact hs 14 61 (by decide) (by kernel_rfl)
            · exact hs 15 62 (by decide) (by kernel_rfl)
            · exact hs 16 63 (by decide) (by kernel_rfl)
            · exact hs 17 64 (by decide) (by kernel_rfl)
            · exact hs 18 65 (by decide) (by kernel_rfl)
            · exact hs 19 66 (by decide) (by kernel_rfl)
            · exact hs 20 67 (by decide) (by kernel_rfl)
            · exact hs 21 68 (by decide) (by kernel_rfl)
            · exact hs 22 69 (by decide) (by kernel_rfl)
            · exact hs 23 70 (by decide) (by kernel_rfl)
            )
        simp only [List.range, List.range.loop, List.size_toArray, List.length_cons, List.length_nil, List.map_cons, List.map_nil, List.lookup_cons, List.lookup_nil, Nat.reduceAdd, Nat.reduceBEq, Option.getD_some, Option.getD_none, List.getElem?_toArray, List.getElem?_cons_succ, List.getElem?_cons_zero] at hfr
        subst hfr
      -- end 11
        obtain ⟨_, _, ⟨z0, z1, z2⟩, _, qs, qb⟩ := HX.out w5 hc.below
        have hs5 := qb.size
        simp only [World.size_alloc] at hs5
        have hj := HJO.out w5 qs
        have HQS := Lib.hid qs
        have HQB := Lib.hid qb
        have HZ := Lib.hid (And.intro z0 (And.intro z1 z2))
        clear hs hc qs qb
        go_wp2_with fail
        refine hj.mono ?_
        rintro e w6 ⟨v6, rfl, hv6, hb6⟩
        have y0 := (hb6.cell (p := ⟨w.heap.size, 0, none⟩) (by show w.heap.size < _; omega)).trans HZ.out.1
        have y1 := (hb6.cell (p := ⟨w.heap.size, 1, none⟩) (by show w.heap.size < _; omega)).trans HZ.out.2.1
        have y2 := (hb6.cell (p := ⟨w.heap.size, 2, none⟩) (by show w.heap.size < _; omega)).trans HZ.out.2.2
        have hj2 := HRJ.out w6 (HQS.out.below (hb6.mono (by omega)))
        clear z0 z1 z2 hj
        go_wp2_with fail
        refine hj2.mono ?_
        rintro e w7 ⟨v7, rfl, hv7, hb7⟩
        have q1 : (convert 23 9 v6).run Try.prog w7 = .ok (.string (bsA J)) w7 := (hv6.below hb7).strA
        have q2 : (convert 23 9 v7).run Try.prog w7 = .ok (.string (bsA J)) w7 := hv7.strA
        have HB7 := Lib.hid (HB0.out.trans ((HQB.out.trans ((hb6.trans (hb7.mono hb6.size)).mono (by omega))).mono (Nat.le_succ _)))
        clear hj2 hb6 hb7 hv6 hv7 y0 y1 y2
        generalize bsA J = sj at *
        go_wp2_with (first
          | (go_at_call 49; refine (lives10_any _).mono ?_; rintro e w9 ⟨rfl, hb9⟩))
        go_ret
        exact ⟨rfl, HB7.out.trans (hb9.mono HB7.out.size)⟩
end Go.Proofs.Ytmcjefdnkcpghaa
