/- THE WALK OF octroiref10.Pages. -/
import Derived.Test.YtmcjefdnkcpghaaTaF
import Derived.ChangeKeysEq
import Derived.Deep.MidRow
import Derived.Test.YtmcjefdnkcpghaaGrowB
import Derived.Test.YtmcjefdnkcpghaaSeR
namespace Go.Proofs.Ytmcjefdnkcpghaa
open Go.RowKit
theorem cutsL_take (k : Nat) (l : List UInt8) (h : 64 * k < l.length) : (cutsL l).take (k + 1) = (cutsL l).take k ++ [fillL ((l.drop (64 * k)).take 64)] := by
  rw [List.take_add_one, cutsL_get k l h]; rfl
/-- bytes i to j -/
theorem byt_mid {w : World} {B : Nat} {ad : Addr} {c : Nat} {l : List UInt8} (i j : Nat) (h : Byt w B (.slice (some ad) l.length c) l) (hij : i ≤ j) (hj : j ≤ l.length) : Byt w B (.slice (some (ad.add i)) (j - i) (c - i)) ((l.drop i).take (j - i)) := by
  obtain ⟨A', c', hv, hc, hm, hr⟩ := h
  simp only [Value.slice.injEq, true_and] at hv
  obtain ⟨hA, rfl⟩ := hv
  refine ⟨some (ad.add i), c - i, by rw [List.length_take, List.length_drop, Nat.min_eq_left (by omega)], by rw [List.length_take, List.length_drop]; omega, by omega, fun h0 => ?_⟩
  rw [List.length_take, List.length_drop] at h0
  obtain ⟨ad', e, hb, hx⟩ := hr (by omega)
  rw [← hA] at e
  cases e
  refine ⟨ad.add i, rfl, by rw [addr_add_block]; exact hb, fun k x hk => ?_⟩
  rw [addr_add_add]
  rw [List.getElem?_take] at hk
  split at hk
  · rw [List.getElem?_drop] at hk; exact hx _ x hk
  · cases hk
set_option maxRecDepth 100000 in
set_option maxHeartbeats 4000000 in
theorem rpages_any {w : World} (seq : Int) (v : Value) (l : List UInt8) (B : Nat) (hv : Byt w B v l) (hl : l.length ≤ 131072) : Calls Try.prog 51 #[.int .i64 seq, v] w (PagesPost w seq l) := by
  have hsum := rsum_any v l w B hv
  have hs0 := on0_lt l
  obtain ⟨A, c, rfl, hc, hm, hr⟩ := id hv
  unfold maxLen at hm
  have HV := Lib.hid hv
  clear hv
  unfold PagesPost pagesR
  cases hb : rightB seq l.length with
  | false =>
    have hri := rright_any seq l.length (sumL l)
    rw [hb] at hri
    unfold headV at hri
    clear hb hr
    go_enter Try.func51, Try.ntmps51
    go_wp2_with (first
      | (go_at_call 26; (with_reducible refine hsum.mono ?_); rintro e w1 ⟨rfl, rfl⟩)
      | (go_at_call 99; refine (hri _).mono ?_; rintro e w2 ⟨rfl, hb2⟩))
    go_ret2
    refine ⟨_, rfl, OwB.nil_ _ _ _, ((Below.refl _ w).alloc (Nat.le_refl _) _).trans (hb2.mono (by simp))⟩
  | true =>
    obtain ⟨q1, q2, q3, q4⟩ := rightB_yes hb
    obtain ⟨sq, rfl⟩ : ∃ k : Nat, seq = (k : Int) := ⟨seq.toNat, by omega⟩
    obtain ⟨ad, rfl, hadB, _⟩ := hr (by omega)
    have hri := rright_any sq l.length (sumL l)
    rw [hb] at hri
    have hfi := rfirst_any sq l.length (sumL l) (by omega) (by omega) hs0
    have hla := fun w => rlast_any sq (sumL l) (by omega) hs0 (l.length : Int) w
    unfold headV at hri hfi hla
    change Calls _ _ _ _ (fun e w' => e = .returned (.int .u32 (sumL l : Int)) ∧ _) at hsum
    simp only [if_true]
    rw [Int.toNat_natCast]
    generalize hsm : sumL l = sm at *
    have HLA := Lib.hid hla
    have HSM := Lib.hid hsm
    clear hb hla hs0 hsm hr
    go_enter Try.func51, Try.ntmps51
    go_wp2_with (first
      | (go_at_call 26; (with_reducible refine hsum.mono ?_); rintro e w1 ⟨rfl, rfl⟩
         have hx1 := heap_alloc_new w (.cells #[.int .i64 (sq : Int), .int .i64 (l.length : Int), .int .u32 (sm : Int)] 81 (0, 0)))
      | (go_at_call 99; refine (hri _).mono ?_; rintro e w2 ⟨rfl, hb2⟩
         have hx2 := (hb2.block _ (by simp)).trans hx1
         have z0 := cells_of hx2 0 _ rfl
         have z1 := cells_of hx2 1 _ rfl
         have z2 := cells_of hx2 2 _ rfl)
      | (go_at_call 100; refine (hfi _).mono ?_; rintro e w3 ⟨v3, rfl, ho3, hb3⟩
         have hx3 := (hb3.block _ (lt_of_block hx2)).trans hx2
         obtain ⟨g3, c3, rfl, _, _, _⟩ := (show ∃ g c, v3 = .slice (some ⟨g, 0, none⟩) 64 c ∧ True ∧ True ∧ True from by
           rcases ho3.2 with ⟨_, hn⟩ | ⟨g, cap, cur, e, _⟩
           · rw [firstL_len] at hn; omega
           · rw [firstL_len] at e; exact ⟨g, cap, e, trivial, trivial, trivial⟩)))
    have hs2 := hb2.size
    have hs3 := hb3.size
    simp only [World.size_alloc] at hs2
    have hb03 : Below w.heap.size w w3 := ((Below.refl w.heap.size w).alloc (Nat.le_refl _) _).trans ((hb2.mono (by simp)).trans (hb3.mono (by omega)))
    have hO3 := (owB_one (D := fun _ => True) (ho3.bytn (fun _ _ => trivial)) trivial).more hb03.size
    have hB4 : Below w.heap.size w (w3.alloc (.cells #[.slice (some ⟨g3, 0, none⟩) 64 c3] 23)) := hb03.alloc hb03.size _
    have hx4 := (Below.heap_alloc w3 (.cells #[.slice (some ⟨g3, 0, none⟩) 64 c3] 23) _ (lt_of_block hx3)).trans hx3
    have HX4 := Lib.hid hx4
    have HO3 := Lib.hid hO3
    clear hx1 hx2 hx3 hx4 z0 z1 z2 hri hfi hsum ho3 hO3
    go_loopg [7, 8] l.length (fun gk x7 x8 wr => ∃ k : Nat, gk = l.length - 64 * k ∧ 64 * k < l.length + 64 ∧ x8 = .int .i64 ((64 * k : Nat) : Int) ∧ OwB (fun _ => True) wr w.heap.size x7 (firstL sq l.length (sumL l) :: (cutsL l).take k) ∧
      wr.heap[w.heap.size]? = some (.cells #[.int .i64 (sq : Int), .int .i64 (l.length : Int), .int .u32 (sm : Int)] 81 (0, 0)) ∧ Below w.heap.size w wr)
    case atStart => exact ⟨0, rfl, by omega, rfl, by rw [HSM.out]; exact HO3.out, HX4.out, hB4⟩
    case round =>
      clear HO3 hB4 HX4 hb03 hb2 hb3 hs2 hs3
      obtain ⟨k, hgk, hk64, rfl, ho, hx, hbel⟩ := hrel
      have HG := Lib.hid hgk
      have HO := Lib.hid ho
      have HX := Lib.hid hx
      have hwr := hbel.size
      have hlt6 := lt_of_block hx
      clear hgk ho hx
      by_cases h : 64 * k < l.length
      · have hct := cutsL_take k l h
        have hvr := HV.out.heap.below hbel
        have hkl : (cutsL l).length ≤ 2048 := by rw [cutsL_len _ l (Nat.le_refl _)]; omega
        have hln : (firstL sq l.length (sumL l) :: (cutsL l).take k).length + 1 ≤ 1000000 := by
          rw [List.length_cons, List.length_take]; omega
        have HCT := Lib.hid hct
        have HLN := Lib.hid hln
        clear hct hkl hln
        have HTL := Lib.hid (show ((l.drop (64 * k)).take 64).length ≤ 64 from List.length_take_le _ _)
        by_cases h2 : 64 * k + 64 ≤ l.length
        · have hmid := byt_mid (64 * k) (64 * k + 64) hvr (by omega) h2
          rw [show 64 * k + 64 - 64 * k = 64 by omega] at hmid
          have HMID := Lib.hid hmid
          clear hmid hvr
          go_wp2_with fail
          refine (rfill_any _ _ _ HTL.out _ HMID.out).mono ?_
          rintro e w4 ⟨v4, rfl, ho4, hb4⟩
          obtain ⟨g4, c4, rfl, _, _, _⟩ := (show ∃ g c, v4 = .slice (some ⟨g, 0, none⟩) 64 c ∧ True ∧ True ∧ True from by
            have hfl := fillL_len _ HTL.out
            rcases ho4.2 with ⟨_, hn⟩ | ⟨g, cap, cur, e, _⟩
            · rw [hfl] at hn; omega
            · rw [hfl] at e; exact ⟨g, cap, e, trivial, trivial, trivial⟩)
          have HO4 := Lib.hid (HO.out.below hb4)
          have HN4 := Lib.hid (ho4.bytn (D := fun _ => True) (fun _ _ => trivial))
          have HB4 := Lib.hid (hbel.trans (hb4.mono hwr))
          have HX4 := Lib.hid ((hb4.block _ hlt6).trans HX.out)
          have hw4 := HB4.out.size
          clear ho4
          go_wp2_with ((with_reducible show wpList _ _ _ (⟨some 38, _, _, _, _, _⟩ :: _) _ _); go_must (refine wpList_append_one rfl (.tmp 27) (.tmp 37) rfl rfl HO4.out (some ⟨g4, 0, none⟩) 64 c4 HN4.out rfl HLN.out hw4 (fun _ _ => trivial) ?_); intro v' w' ho' hg' _; have HO' := Lib.hid ho'; clear ho')
          go_roundg (l.length - 64 * (k + 1))
          case measure => have := HG.out; omega
          case rel =>
            refine ⟨k + 1, rfl, by omega, by rw [show 64 * (k + 1) = 64 * k + 64 by omega]; go_num, ?_, keepK (by decide) HX4.out HO4.out hg', ?_⟩
            · rw [HCT.out, ← List.cons_append]; exact HO'.out
            · obtain ⟨ts, o1, _, _⟩ := HO4.out
              exact HB4.out.grown hg' hw4 (fun k hk => (o1.lt k hk).1)
        · have hmid := byt_mid (64 * k) l.length hvr (by omega) (Nat.le_refl _)
          have eT : (l.drop (64 * k)).take (l.length - 64 * k) = (l.drop (64 * k)).take 64 := by
            rw [List.take_of_length_le (by rw [List.length_drop]; exact Nat.le_refl _), List.take_of_length_le (by rw [List.length_drop]; omega)]
          rw [eT] at hmid
          have HMID := Lib.hid hmid
          clear hmid hvr eT
          go_wp2_with fail
          refine (rfill_any _ _ _ HTL.out _ HMID.out).mono ?_
          rintro e w4 ⟨v4, rfl, ho4, hb4⟩
          obtain ⟨g4, c4, rfl, _, _, _⟩ := (show ∃ g c, v4 = .slice (some ⟨g, 0, none⟩) 64 c ∧ True ∧ True ∧ True from by
            have hfl := fillL_len _ HTL.out
            rcases ho4.2 with ⟨_, hn⟩ | ⟨g, cap, cur, e, _⟩
            · rw [hfl] at hn; omega
            · rw [hfl] at e; exact ⟨g, cap, e, trivial, trivial, trivial⟩)
          have HO4 := Lib.hid (HO.out.below hb4)
          have HN4 := Lib.hid (ho4.bytn (D := fun _ => True) (fun _ _ => trivial))
          have HB4 := Lib.hid (hbel.trans (hb4.mono hwr))
          have HX4 := Lib.hid ((hb4.block _ hlt6).trans HX.out)
          have hw4 := HB4.out.size
          clear ho4
          go_wp2_with ((with_reducible show wpList _ _ _ (⟨some 38, _, _, _, _, _⟩ :: _) _ _); go_must (refine wpList_append_one rfl (.tmp 27) (.tmp 37) rfl rfl HO4.out (some ⟨g4, 0, none⟩) 64 c4 HN4.out rfl HLN.out hw4 (fun _ _ => trivial) ?_); intro v' w' ho' hg' _; have HO' := Lib.hid ho'; clear ho')
          go_roundg (l.length - 64 * (k + 1))
          case measure => have := HG.out; omega
          case rel =>
            refine ⟨k + 1, rfl, by omega, by rw [show 64 * (k + 1) = 64 * k + 64 by omega]; go_num, ?_, keepK (by decide) HX4.out HO4.out hg', ?_⟩
            · rw [HCT.out, ← List.cons_append]; exact HO'.out
            · obtain ⟨ts, o1, _, _⟩ := HO4.out
              exact HB4.out.grown hg' hw4 (fun k hk => (o1.lt k hk).1)
      · have hkn : (cutsL l).take k = cutsL l := List.take_of_length_le (by rw [cutsL_len _ l (Nat.le_refl _)]; omega)
        have hln : (firstL sq l.length (sumL l) :: cutsL l).length + 1 ≤ 1000000 := by
          rw [List.length_cons, cutsL_len _ l (Nat.le_refl _)]; omega
        have HO2 := HO.out
        rw [hkn] at HO2
        have HO3 := Lib.hid HO2
        have HLN := Lib.hid hln
        have z0 := cells_of HX.out 0 _ rfl
        have z1 := cells_of HX.out 1 _ rfl
        have z2 := cells_of HX.out 2 _ rfl
        clear HO2 hkn hln
        go_wp2_with fail
        refine (HLA.out _).mono ?_
        rintro e w4 ⟨v4, rfl, ho4, hb4⟩
        obtain ⟨g4, c4, rfl, _, _, _⟩ := (show ∃ g c, v4 = .slice (some ⟨g, 0, none⟩) 64 c ∧ True ∧ True ∧ True from by
          rcases ho4.2 with ⟨_, hn⟩ | ⟨g, cap, cur, e, _⟩
          · rw [lastL_len] at hn; omega
          · rw [lastL_len] at e; exact ⟨g, cap, e, trivial, trivial, trivial⟩)
        have HO4 := Lib.hid (HO3.out.below hb4)
        have HN4 := Lib.hid (ho4.bytn (D := fun _ => True) (fun _ _ => trivial))
        have HB4 := Lib.hid (hbel.trans (hb4.mono hwr))
        have hw4 := HB4.out.size
        clear ho4
        go_wp2_with ((with_reducible show wpList _ _ _ (⟨some 43, _, _, _, _, _⟩ :: _) _ _); go_must (refine wpList_append_one rfl (.tmp 39) (.tmp 42) rfl rfl HO4.out (some ⟨g4, 0, none⟩) 64 c4 HN4.out rfl HLN.out hw4 (fun _ _ => trivial) ?_); intro v' w' ho' hg' _; have HO' := Lib.hid ho'; clear ho')
        go_ret2
        refine ⟨_, rfl, ?_, ?_⟩
        · unfold pagesL
          have := HO'.out
          rw [HSM.out] at this ⊢
          exact this
        · obtain ⟨ts, o1, _, _⟩ := HO4.out
          exact HB4.out.grown hg' hw4 (fun k hk => (o1.lt k hk).1)
end Go.Proofs.Ytmcjefdnkcpghaa
/- THE WALKS OF tape.same, Blank, End AND THE DOCUMENT'S. -/
namespace Go.Proofs.Ytmcjefdnkcpghaa
open Go.RowKit
theorem Byt.loadArr {w : World} {B : Nat} {ad : Addr} {c : Nat} {l : List UInt8} (h : Byt w B (.slice (some ad) 64 c) l) (hl : l.length = 64) : (Instr.loadAt 140 (.pointer (some ad))).run Try.prog w = .ok (.agg (l.map bV).toArray) w := by
  obtain ⟨A', c', hv, hc, hm, hr⟩ := h
  obtain ⟨ad', hA, hb, hx⟩ := hr (by omega)
  rw [hl] at hv
  simp only [Value.slice.injEq, true_and] at hv
  obtain ⟨e, _⟩ := hv
  rw [hA] at e
  cases e
  have hlc : (loadCells ad (l.map bV).length).run Try.prog w = .ok (l.map bV).toArray w :=
    run_loadCells_list (P := Try.prog) w ad (l.map bV) (fun j v hj => by
      rw [List.getElem?_map] at hj
      cases hq : l[j]? with
      | none => rw [hq] at hj; cases hj
      | some x => rw [hq] at hj; cases hj; exact hx j x hq)
  rw [List.length_map, hl] at hlc
  have hi : (Try.prog.info? 140).map (·.size) = some 64 := by kernel_rfl
  cases hq : Try.prog.info? 140 with
  | none => simp [hq] at hi
  | some i =>
    have hs : i.size = 64 := by simpa [hq] using hi
    have hagg : (isAgg 140).run Try.prog w = .ok true w := by
      unfold isAgg
      rw [Sem.run_bind, run_underlying Try.underlying140 w]
      simp
    simp [Instr.loadAt, Instr.sureAddr, loadVar, Sem.run_bind, hagg, sizeOf, typeInfo, hq, hs, hlc]
theorem exec_load {P : Program} {o : Oper} {ρ : Operand → Value} {w : World} {ty : TypeId} {x : Operand} {u : Value} (ho : o.op = .load ty x) (h : (Instr.loadAt ty (ρ x)).run P w = .ok u w) : (execOp ρ o).run P w = .ok (.value u) w := by
  unfold execOp; simp only [ho]; simp [h]
theorem exec_arr {P : Program} {o : Oper} {ρ : Operand → Value} {w : World} {ty : TypeId} {x : Operand} {u : Value} (ho : o.op = .sliceToArrayPointer ty x) (h : (Instr.arrayAt ty (ρ x)).run P w = .ok u w) : (execOp ρ o).run P w = .ok (.value u) w := by
  unfold execOp; simp only [ho]; simp [h]
theorem exec_eqagg {P : Program} {o : Oper} {ρ : Operand → Value} {w : World} {t t' : TypeId} {x y : Operand} {X Y : Array Value} {u : Value} (ho : o.op = .binOp .eql t x y t') (hx : ρ x = .agg X) (hy : ρ y = .agg Y) (hm : P.eqGuardType P.depth t = false) (h : (binOp .eql t (.agg X) (.agg Y)).run P w = .ok u w) : (execOp ρ o).run P w = .ok (.value u) w := by
  have hg := run_eqGuard_agg (P := P) w .eql t x y X Y hm
  unfold execOp; simp only [ho, hx, hy, Sem.run_bind, hg, h, Result.andThen_ok, Sem.run_pure]
theorem eval_tmp {a : Act} {t : Nat} {v : Value} (h : a.tmps[t]?.getD undef = v) : a.eval (.tmp t) = v := by
  rw [← h]; simp [Act.eval]
theorem run_arrayAt (w : World) (A : Option Addr) (c : Nat) : (Instr.arrayAt 140 (.slice A 64 c)).run Try.prog w = .ok (.pointer A) w := by
  simp [Instr.arrayAt, Sem.run_bind, run_underlying Try.underlying140]
theorem run_part_byte (w : World) (l : List UInt8) (i : Nat) (x : UInt8) (h : l[i]? = some x) : (part 5 (l.map bV).toArray (i * 1)).run Try.prog w = .ok (bV x) w := by
  have hagg : (isAgg 5).run Try.prog w = .ok false w := by
    unfold isAgg
    rw [Sem.run_bind, run_underlying Try.underlying5 w]
    simp
  simp [part, Sem.run_bind, hagg, h]
theorem run_eqItems_bytes (w : World) (d : Nat) (l m : List UInt8) : ∀ is : List Nat, (∀ i ∈ is, i < l.length ∧ i < m.length) →
    (Op.eqItems (d + 1) 5 1 (l.map bV).toArray (m.map bV).toArray is).run Try.prog w = .ok (is.all fun i => decide (l[i]? = m[i]?)) w := by
  intro is
  induction is with
  | nil => intro _; simp [Op.eqItems]
  | cons i is ih =>
    intro h
    obtain ⟨h1, h2⟩ := h i (by simp)
    have e1 := run_part_byte w l i _ (List.getElem?_eq_getElem h1)
    have e2 := run_part_byte w m i _ (List.getElem?_eq_getElem h2)
    have hi := ih (fun j hj => h j (by simp [hj]))
    have he : (Op.equalIn (d + 1) 5 (bV l[i]) (bV m[i])).run Try.prog w = .ok (((l[i].toNat : Nat) : Int) == (m[i].toNat : Int)) w := by
      simp [Op.equalIn, run_underlying Try.underlying5, bV]
    simp only [Op.eqItems, Sem.run_bind, e1, e2, he, Result.andThen_ok, List.all_cons]
    by_cases hx : l[i] = m[i]
    · have : (((l[i].toNat : Nat) : Int) == (m[i].toNat : Int)) = true := by rw [hx]; simp
      rw [this]
      simp [hi, h1, h2, hx]
    · have : (((l[i].toNat : Nat) : Int) == (m[i].toNat : Int)) = false := by
        rw [beq_eq_false_iff_ne]
        intro e
        exact hx (UInt8.toNat_inj.1 (by omega))
      rw [this]
      simp [h1, h2, hx]
/-- two texts of a sector, the same -/
def sameB (a b : List UInt8) : Bool := decide (a.length = 64 ∧ a = b)
theorem run_eql_sec (w : World) (l m : List UInt8) (hl : l.length = 64) (hm : m.length = 64) : (binOp .eql 140 (.agg (l.map bV).toArray) (.agg (m.map bV).toArray)).run Try.prog w = .ok (.bool (sameB l m)) w := by
  obtain ⟨i, hi, _, hs, _⟩ := info_parts Try.byteInfo
  have h1 := run_equalIn_array (P := Try.prog) w 9999 (l.map bV).toArray (m.map bV).toArray Try.underlying140 hi
  have hc : Try.prog.cellsOf 5 = 1 := by kernel_rfl
  rw [hc, run_eqItems_bytes w 9998 l m _ (fun i hi => by have := List.mem_range.1 hi; omega)] at h1
  have hb : ((List.range 64).all fun i => decide (l[i]? = m[i]?)) = sameB l m := by
    unfold sameB
    rw [Bool.eq_iff_iff, List.all_eq_true]
    simp only [List.mem_range, decide_eq_true_eq]
    constructor
    · intro h
      refine ⟨hl, List.ext_getElem? fun j => ?_⟩
      by_cases hj : j < 64
      · exact h j hj
      · rw [List.getElem?_eq_none (by omega), List.getElem?_eq_none (by omega)]
    · rintro ⟨_, e⟩ j _
      rw [e]
  rw [hb] at h1
  simp only [binOp]
  simp [Op.equal, Op.maxDepth, h1]
set_option maxRecDepth 100000 in
set_option maxHeartbeats 2000000 in
theorem tsame_any {w : World} {B1 B2 : Nat} {a b : Value} {l m : List UInt8} (ha : Byt w B1 a l) (hb : Byt w B2 b m) : Calls Try.prog 104 #[a, b] w fun e w' => e = .returned (.bool (sameB l m)) ∧ Below w.heap.size w w' := by
  obtain ⟨A1, c1, rfl, hc1, hm1, hr1⟩ := id ha
  obtain ⟨A2, c2, rfl, hc2, hm2, hr2⟩ := id hb
  unfold maxLen at hm1 hm2
  by_cases h1 : l.length = 64
  · by_cases h2 : m.length = 64
    · obtain ⟨ad1, rfl, _, _⟩ := hr1 (by omega)
      obtain ⟨ad2, rfl, _, _⟩ := hr2 (by omega)
      rw [h1] at ha ⊢
      rw [h2] at hb ⊢
      have H1 := Lib.hid (fun (W : World) (hW : Below w.heap.size w.drew W) => Byt.loadArr (ha.heap.drew.below hW) h1)
      have H2 := Lib.hid (fun (W : World) (hW : Below w.heap.size w.drew W) => Byt.loadArr (hb.heap.drew.below hW) h2)
      have HE := Lib.hid (fun W => run_eql_sec W l m h1 h2)
      generalize (l.map bV).toArray = X1 at *
      generalize (m.map bV).toArray = X2 at *
      generalize sameB l m = sb at *
      clear hr1 hr2 ha hb h1 h2 hc1 hc2
      go_enter Try.func104, Try.ntmps104
      go_wp2
      -- region 1
      refine wp_region_sp (by kernel_rfl) [isS (.slice (some ad1) 64 c1), isS (.int .i64 64), isS (.bool true), isS (.bool true), isS (.slice (some ad2) 64 c2), isS (.int .i64 64), isS (.bool true), isS (.bool true), isS (.bool true), isS (.slice (some ad1) 64 c1), isS (.pointer (some ad1)), isS (.agg X1), isS (.slice (some ad2) 64 c2), isS (.pointer (some ad2)), isS (.agg X2), isS (.bool sb), isS (.bool sb), isS (.bool sb)] (by kernel_rfl) (by kernel_rfl) (fun i hi => ?_) (fun a w5 hc hs => ?_)
      · match i, hi with
        | 0, _ =>
          intro a W hc hd
          have z0 := hc.same 0 (by kernel_rfl)
          simp only [List.getElem?_toArray, List.getElem?_cons_zero, Option.getD_some] at z0
          refine obl_val rfl (wanted_none rfl) ?_ rfl
          go_simp
        | 1, _ =>
          intro a W hc hd
          have s0 : a.tmps[5]?.getD undef = (.slice (some ad1) 64 c1) := hd 0 (by kernel_rfl)
          refine obl_val rfl (wanted_none rfl) ?_ rfl
          go_simp
        | 2, _ =>
          intro a W hc hd
          have s1 : a.tmps[6]?.getD undef = (.int .i64 64) := hd 1 (by kernel_rfl)
          refine obl_val rfl (wanted_none rfl) ?_ rfl
          go_simp
        | 3, _ =>
          intro a W hc hd
          have s2 : a.tmps[7]?.getD undef = (.bool true) := hd 2 (by kernel_rfl)
          refine obl_val rfl (wanted_none rfl) ?_ rfl
          go_simp
        | 4, _ =>
          intro a W hc hd
          have z1 := hc.same 1 (by kernel_rfl)
          have s3 : a.tmps[8]?.getD undef = (.bool true) := hd 3 (by kernel_rfl)
          simp only [List.getElem?_toArray, List.getElem?_cons_succ, List.getElem?_cons_zero, Option.getD_some] at z1
          refine obl_val rfl (wanted_some rfl rfl s3) ?_ rfl
          go_simp
        | 5, _ =>
          intro a W hc hd
          have s4 : a.tmps[9]?.getD undef = (.slice (some ad2) 64 c2) := hd 4 (by kernel_rfl)
          have s3 : a.tmps[8]?.getD undef = (.bool true) := hd 3 (by kernel_rfl)
          refine obl_val rfl (wanted_some rfl rfl s3) ?_ rfl
          go_simp
        | 6, _ =>
          intro a W hc hd
          have s5 : a.tmps[10]?.getD undef = (.int .i64 64) := hd 5 (by kernel_rfl)
          have s3 : a.tmps[8]?.getD undef = (.bool true) := hd 3 (by kernel_rfl)
          refine obl_val rfl (wanted_some rfl rfl s3) ?_ rfl
          go_simp
        | 7, _ =>
          intro a W hc hd
          have s3 : a.tmps[8]?.getD undef = (.bool true) := hd 3 (by kernel_rfl)
          have s6 : a.tmps[11]?.getD undef = (.bool true) := hd 6 (by kernel_rfl)
          refine obl_val rfl (wanted_none rfl) ?_ rfl
          go_simp
        | 8, _ =>
          intro a W hc hd
          have s7 : a.tmps[12]?.getD undef = (.bool true) := hd 7 (by kernel_rfl)
          refine obl_val rfl (wanted_none rfl) ?_ rfl
          go_simp
        | 9, _ =>
          intro a W hc hd
          have z0 := hc.same 0 (by kernel_rfl)
          have s8 : a.tmps[13]?.getD undef = (.bool true) := hd 8 (by kernel_rfl)
          simp only [List.getElem?_toArray, List.getElem?_cons_zero, Option.getD_some] at z0
          refine obl_val rfl (wanted_some rfl rfl s8) ?_ rfl
          go_simp
        | 10, _ =>
          intro a W hc hd
          have s9 : a.tmps[14]?.getD undef = (.slice (some ad1) 64 c1) := hd 9 (by kernel_rfl)
          have s8 : a.tmps[13]?.getD undef = (.bool true) := hd 8 (by kernel_rfl)
          refine obl_val rfl (wanted_some rfl rfl s8) ?_ rfl
          exact exec_arr rfl (by rw [eval_tmp s9]; exact run_arrayAt _ _ _)
        | 11, _ =>
          intro a W hc hd
          have s10 : a.tmps[15]?.getD undef = (.pointer (some ad1)) := hd 10 (by kernel_rfl)
          have s8 : a.tmps[13]?.getD undef = (.bool true) := hd 8 (by kernel_rfl)
          have e := H1.out W (by exact hc.below)
          refine obl_val rfl (wanted_some rfl rfl s8) ?_ rfl
          exact exec_load rfl (by rw [eval_tmp s10]; exact e)
        | 12, _ =>
          intro a W hc hd
          have z1 := hc.same 1 (by kernel_rfl)
          have s8 : a.tmps[13]?.getD undef = (.bool true) := hd 8 (by kernel_rfl)
          simp only [List.getElem?_toArray, List.getElem?_cons_succ, List.getElem?_cons_zero, Option.getD_some] at z1
          refine obl_val rfl (wanted_some rfl rfl s8) ?_ rfl
          go_simp
        | 13, _ =>
          intro a W hc hd
          have s12 : a.tmps[17]?.getD undef = (.slice (some ad2) 64 c2) := hd 12 (by kernel_rfl)
          have s8 : a.tmps[13]?.getD undef = (.bool true) := hd 8 (by kernel_rfl)
          refine obl_val rfl (wanted_some rfl rfl s8) ?_ rfl
          exact exec_arr rfl (by rw [eval_tmp s12]; exact run_arrayAt _ _ _)
        | 14, _ =>
          intro a W hc hd
          have s13 : a.tmps[18]?.getD undef = (.pointer (some ad2)) := hd 13 (by kernel_rfl)
          have s8 : a.tmps[13]?.getD undef = (.bool true) := hd 8 (by kernel_rfl)
          have e := H2.out W (by exact hc.below)
          refine obl_val rfl (wanted_some rfl rfl s8) ?_ rfl
          exact exec_load rfl (by rw [eval_tmp s13]; exact e)
        | 15, _ =>
          intro a W hc hd
          have s11 : a.tmps[16]?.getD undef = (.agg X1) := hd 11 (by kernel_rfl)
          have s14 : a.tmps[19]?.getD undef = (.agg X2) := hd 14 (by kernel_rfl)
          have s8 : a.tmps[13]?.getD undef = (.bool true) := hd 8 (by kernel_rfl)
          refine obl_val rfl (wanted_some rfl rfl s8) ?_ rfl
          exact exec_eqagg rfl (eval_tmp s11) (eval_tmp s14) (by kernel_rfl) (HE.out W)
        | 16, _ =>
          intro a W hc hd
          have s8 : a.tmps[13]?.getD undef = (.bool true) := hd 8 (by kernel_rfl)
          have s15 : a.tmps[20]?.getD undef = (.bool sb) := hd 15 (by kernel_rfl)
          refine obl_val rfl (wanted_none rfl) ?_ rfl
          go_simp
        | 17, _ =>
          intro a W hc hd
          have s16 : a.tmps[21]?.getD undef = (.bool sb) := hd 16 (by kernel_rfl)
          refine obl_val rfl (wanted_none rfl) ?_ rfl
          go_simp
        | n + 18, h => exact absurd h (by simp)
      -- end 1
      · have h0 : a.tmps[4]?.getD undef = .bool sb := hs 17 4 (by decide) (by kernel_rfl)
        have hdf : a.defers = [] := hc.defers
        have hB : Below w.heap.size w w5 := (Below.refl w.heap.size w).drew.trans hc.below
        clear hs hc
        go_wp2
        refine bodyPost_ret (results_tmp rfl _ _ _) hdf ⟨?_, hB⟩
        rw [Array.getD_eq_getD_getElem?, h0]
    · have e1 : ((m.length : Int) == 64) = false := by rw [beq_eq_false_iff_ne]; omega
      have hs : sameB l m = false := by
        unfold sameB
        rw [decide_eq_false_iff_not]
        rintro ⟨_, e⟩
        rw [e] at h1; exact h2 h1
      rw [hs]
      clear hr1 hr2 ha hb h2 hs
      rw [h1]
      go_enter Try.func104, Try.ntmps104
      go_wp2
      go_quiet (fail)
      go_wp2
      go_ret
      exact ⟨rfl, rfl, rfl, rfl, Nat.le_refl _, fun _ _ => rfl⟩
  · have e1 : ((l.length : Int) == 64) = false := by rw [beq_eq_false_iff_ne]; omega
    have hs : sameB l m = false := by
      unfold sameB
      rw [decide_eq_false_iff_not]
      rintro ⟨e, _⟩
      exact h1 e
    rw [hs]
    clear hr1 hr2 ha hb h1 hs
    go_enter Try.func104, Try.ntmps104
    go_wp2
    go_quiet (fail)
    go_wp2
    go_ret
    exact ⟨rfl, rfl, rfl, rfl, Nat.le_refl _, fun _ _ => rfl⟩
end Go.Proofs.Ytmcjefdnkcpghaa
/- THE WALKS OF tape.Blank, End AND THE DOCUMENT'S. -/
namespace Go.Proofs.Ytmcjefdnkcpghaa
open Go.RowKit
theorem bsA_beq (l m : List UInt8) : (bsA l == bsA m) = decide (l = m) := by
  rw [beq_toListBytes, ByteArray.toList_eq, ByteArray.toList_eq, bsA_list, bsA_list]
  by_cases h : l = m <;> simp [h]
theorem exec_eqstr {P : Program} {o : Oper} {ρ : Operand → Value} {w : World} {t t' : TypeId} {x y : Operand} {s u : ByteArray} (ho : o.op = .binOp .eql t x y t') (hx : ρ x = .string s) (hy : ρ y = .string u) : (execOp ρ o).run P w = .ok (.value (.bool (s == u))) w := by
  have hg : (eqGuard .eql t x y (.string s) (.string u)).run P w = .ok () w := by simp [eqGuard]
  have he : (binOp .eql t (.string s) (.string u)).run P w = .ok (.bool (s == u)) w := by
    simp [binOp, Op.stringOp]
    exact (beq_toListBytes s u).symm
  unfold execOp; simp only [ho, hx, hy, Sem.run_bind, hg, he, Result.andThen_ok, Sem.run_pure]
def blankB (l : List UInt8) : Bool := decide (l = fillL [])
theorem same_blank (l : List UInt8) : sameB l (fillL []) = blankB l := by
  unfold sameB blankB
  rw [Bool.eq_iff_iff, decide_eq_true_eq, decide_eq_true_eq]
  constructor
  · exact fun h => h.2
  · intro h; exact ⟨by rw [h]; exact fillL_len [] (by simp), h⟩
set_option maxRecDepth 100000 in
theorem blank_any {w : World} {B : Nat} {v : Value} {l : List UInt8} (hv : Byt w B v l) : Calls Try.prog 59 #[v] w fun e w' => e = .returned (.bool (blankB l)) ∧ Below w.heap.size w w' := by
  have hfi := tfill_any 0 _ [] (by simp) w (Byt.nil_ w 0)
  have HV := Lib.hid hv.heap
  clear hv
  go_enter Try.func59, Try.ntmps59
  go_wp2_with (first
    | (go_at_call 106; (with_reducible refine hfi.mono ?_); rintro e w1 ⟨v1, rfl, ho1, hb1⟩
       have hsa := tsame_any (HV.out.below hb1) ho1.byt)
    | (go_at_call 104; (with_reducible refine hsa.mono ?_); rintro e w2 ⟨rfl, hb2⟩))
  go_ret
  exact ⟨ret_bool (same_blank l), hb1.trans (hb2.mono hb1.size)⟩
set_option maxRecDepth 100000 in
theorem rblank_any {w : World} {B : Nat} {v : Value} {l : List UInt8} (hv : Byt w B v l) : Calls Try.prog 60 #[v] w fun e w' => e = .returned (.bool (blankB l)) ∧ Below w.heap.size w w' := by
  have hfi := fun w => rfill_any 0 _ [] (by simp) w (Byt.nil_ w 0)
  have HV := Lib.hid hv.heap
  have HF := Lib.hid hfi
  clear hv hfi
  go_enter Try.func60, Try.ntmps60
  go_wp2
  -- region 1
  refine wp_region_sp (by kernel_rfl) [isS v, isS (.string (bsA l)), bytS (fillL []), isS (.string (bsA (fillL []))), isS (.bool (bsA l == bsA (fillL []))), isS (.bool (bsA l == bsA (fillL [])))] (by kernel_rfl) (by kernel_rfl) (fun i hi => ?_) (fun a w5 hc hs => ?_)
  · match i, hi with
    | 0, _ =>
      intro a W hc hd
      have z0 := hc.same 0 (by kernel_rfl)
      simp only [List.getElem?_toArray, List.getElem?_cons_zero, Option.getD_some] at z0
      refine obl_val rfl (wanted_none rfl) ?_ rfl
      go_simp
    | 1, _ =>
      intro a W hc hd
      have s0 : a.tmps[3]?.getD undef = v := hd 0 (by kernel_rfl)
      have e := (HV.out.drew.below hc.below).strA
      refine obl_val rfl (wanted_none rfl) ?_ rfl
      go_simp
    | 2, _ =>
      intro a W hc hd
      refine obl_call rfl (wanted_none rfl) (by go_simp) (HF.out W) ?_
      rintro e w8 ⟨v8, rfl, ho8, hb8⟩
      exact ⟨_, rfl, ho8.byt, hb8⟩
    | 3, _ =>
      intro a W hc hd
      have s2 : (bytS (fillL [])).f (a.tmps[5]?.getD undef) W := hd 2 (by kernel_rfl)
      have e := (show Byt W W.heap.size _ _ from s2).strA
      refine obl_val rfl (wanted_none rfl) ?_ rfl
      go_simp
    | 4, _ =>
      intro a W hc hd
      have s1 : a.tmps[4]?.getD undef = (.string (bsA l)) := hd 1 (by kernel_rfl)
      have s3 : a.tmps[6]?.getD undef = (.string (bsA (fillL []))) := hd 3 (by kernel_rfl)
      refine obl_val rfl (wanted_none rfl) ?_ rfl
      exact exec_eqstr rfl (eval_tmp s1) (eval_tmp s3)
    | 5, _ =>
      intro a W hc hd
      have s4 : a.tmps[7]?.getD undef = (.bool (bsA l == bsA (fillL []))) := hd 4 (by kernel_rfl)
      refine obl_val rfl (wanted_none rfl) ?_ rfl
      go_simp
    | n + 6, h => exact absurd h (by simp)
  -- end 1
  · have h0 : a.tmps[2]?.getD undef = .bool (bsA l == bsA (fillL [])) := hs 5 2 (by decide) (by kernel_rfl)
    have hdf : a.defers = [] := hc.defers
    have hB : Below w.heap.size w w5 := (Below.refl w.heap.size w).drew.trans hc.below
    clear hs hc
    go_wp2
    refine bodyPost_ret (results_tmp rfl _ _ _) hdf ⟨?_, hB⟩
    rw [Array.getD_eq_getD_getElem?, h0, bsA_beq]; rfl
def endB (l : List UInt8) (seq : Int) (sum : Nat) : Bool := decide (1 ≤ seq ∧ seq ≤ 4611686018427387904 ∧ l = lastL seq.toNat sum)
theorem endB_no {l : List UInt8} {seq : Int} {sum : Nat} (h : seq < 1 ∨ 4611686018427387904 < seq) : endB l seq sum = false := by
  unfold endB; rw [decide_eq_false_iff_not]; rintro ⟨h1, h2, _⟩; omega
theorem endB_yes {l : List UInt8} {sq sum : Nat} (h1 : 1 ≤ sq) (h2 : sq ≤ 4611686018427387904) : endB l (sq : Int) sum = decide (l = lastL sq sum) := by
  unfold endB
  rw [Bool.eq_iff_iff, decide_eq_true_eq, decide_eq_true_eq, Int.toNat_natCast]
  constructor
  · exact fun h => h.2.2
  · exact fun h => ⟨by omega, by omega, h⟩
theorem same_last (l : List UInt8) (sq sum : Nat) : sameB l (lastL sq sum) = decide (l = lastL sq sum) := by
  unfold sameB
  rw [Bool.eq_iff_iff, decide_eq_true_eq, decide_eq_true_eq]
  constructor
  · exact fun h => h.2
  · intro h; exact ⟨by rw [h]; exact lastL_len _ _, h⟩
set_option maxRecDepth 100000 in
theorem end_any {w : World} {B : Nat} {v : Value} {l : List UInt8} (hv : Byt w B v l) (seq len : Int) (sum : Nat) (hsum : sum < 4294967296) : Calls Try.prog 56 #[v, headV seq len sum] w fun e w' => e = .returned (.bool (endB l seq sum)) ∧ Below w.heap.size w w' := by
  have hb0 := fun o => (Below.refl w.heap.size w).alloc (Nat.le_refl _) o
  have HB := Lib.hid hb0
  have HV := Lib.hid hv.heap
  clear hb0 hv
  unfold headV
  by_cases h1 : seq < 1
  · rw [endB_no (.inl h1)]
    go_enter Try.func56, Try.ntmps56
    go_wp2
    go_ret
    exact ⟨rfl, HB.out _⟩
  by_cases h2 : 4611686018427387904 < seq
  · rw [endB_no (.inr h2)]
    have e1 : decide (1 ≤ seq) = true := decide_eq_true (by omega)
    go_enter Try.func56, Try.ntmps56
    go_wp2
    go_ret
    exact ⟨rfl, HB.out _⟩
  obtain ⟨sq, rfl⟩ : ∃ k : Nat, seq = (k : Int) := ⟨seq.toNat, by omega⟩
  rw [endB_yes (by omega) (by omega)]
  have hla := fun w => last_any sq sum (by omega) hsum len w
  unfold headV at hla
  have HLA := Lib.hid hla
  clear hla
  go_enter Try.func56, Try.ntmps56
  go_wp2_with (first
    | (go_at_call 98; (with_reducible refine (HLA.out _).mono ?_); rintro e w1 ⟨v1, rfl, ho1, hb1⟩
       have hbb := (HB.out _).trans (hb1.mono (by simp))
       have hsa := tsame_any (HV.out.below hbb) ho1.byt)
    | (go_at_call 104; (with_reducible refine hsa.mono ?_); rintro e w2 ⟨rfl, hb2⟩))
  go_ret
  exact ⟨ret_bool (same_last l sq sum), hbb.trans (hb2.mono hbb.size)⟩
set_option maxRecDepth 100000 in
set_option maxHeartbeats 2000000 in
theorem rend_any {w : World} {B : Nat} {v : Value} {l : List UInt8} (hv : Byt w B v l) (seq len : Int) (sum : Nat) (hsum : sum < 4294967296) : Calls Try.prog 58 #[v, headV seq len sum] w fun e w' => e = .returned (.bool (endB l seq sum)) ∧ Below w.heap.size w w' := by
  have hb0 := fun o => (Below.refl w.heap.size w).alloc (Nat.le_refl _) o
  have HB := Lib.hid hb0
  have HV := Lib.hid hv.heap
  clear hb0 hv
  unfold headV
  by_cases h1 : seq < 1
  · rw [endB_no (.inl h1)]
    have e1 : decide (1 ≤ seq) = false := decide_eq_false (by omega)
    go_enter Try.func58, Try.ntmps58
    go_wp2
    go_quiet (fail)
    go_wp2
    go_ret
    exact ⟨rfl, (HB.out _).trans ⟨rfl, rfl, rfl, Nat.le_refl _, fun _ _ => rfl⟩⟩
  have e1 : decide (1 ≤ seq) = true := decide_eq_true (by omega)
  by_cases h2 : 4611686018427387904 < seq
  · rw [endB_no (.inr h2)]
    have e2 : decide (seq ≤ 4611686018427387904) = false := decide_eq_false (by omega)
    go_enter Try.func58, Try.ntmps58
    go_wp2
    go_quiet (fail)
    go_wp2
    go_ret
    exact ⟨rfl, (HB.out _).trans ⟨rfl, rfl, rfl, Nat.le_refl _, fun _ _ => rfl⟩⟩
  · obtain ⟨sq, rfl⟩ : ∃ k : Nat, seq = (k : Int) := ⟨seq.toNat, by omega⟩
    rw [endB_yes (by omega) (by omega)]
    clear e1
    have k1 : decide ((1 : Int) ≤ (sq : Int)) = true := decide_eq_true (by omega)
    have k2 : decide ((sq : Int) ≤ 4611686018427387904) = true := decide_eq_true (by omega)
    have hla := fun w => rlast_any sq sum (by omega) hsum len w
    unfold headV at hla
    have HLA := Lib.hid hla
    have HB0 := Lib.hid (HB.out (.cells #[.int .i64 (sq : Int), .int .i64 len, .int .u32 (sum : Int)] 81))
    have hbx := fun (W : World) (hW : Below (w.alloc (.cells #[.int .i64 (sq : Int), .int .i64 len, .int .u32 (sum : Int)] 81)).drew.heap.size (w.alloc (.cells #[.int .i64 (sq : Int), .int .i64 len, .int .u32 (sum : Int)] 81)).drew W) => (show W.cell? ⟨w.heap.size, 0, none⟩ = some (.int .i64 (sq : Int)) ∧ W.cell? ⟨w.heap.size, 1, none⟩ = some (.int .i64 len) ∧ W.cell? ⟨w.heap.size, 2, none⟩ = some (.int .u32 (sum : Int)) from by
      have hh := (hW.block w.heap.size (by show w.heap.size < (w.alloc _).heap.size; simp)).trans (heap_alloc_new w _)
      exact ⟨cells_of hh 0 _ rfl, cells_of hh 1 _ rfl, cells_of hh 2 _ rfl⟩)
    have HBX := Lib.hid hbx
    clear hla hbx h1 h2
    go_enter Try.func58, Try.ntmps58
    go_wp2
    -- region 2
    refine wp_region_sp (by kernel_rfl) [isS (.pointer (some ⟨w.heap.size, 0, none⟩)), isS (.int .i64 (sq : Int)), isS (.bool true), isS (.bool true), isS (.pointer (some ⟨w.heap.size, 0, none⟩)), isS (.int .i64 (sq : Int)), isS (.bool true), isS (.bool true), isS (.bool true), isS v, isS (.string (bsA l)), isS (.agg #[.int .i64 (sq : Int), .int .i64 len, .int .u32 (sum : Int)]), bytS (lastL sq sum), isS (.string (bsA (lastL sq sum))), isS (.bool (bsA l == bsA (lastL sq sum))), isS (.bool (bsA l == bsA (lastL sq sum))), isS (.bool (bsA l == bsA (lastL sq sum)))] (by kernel_rfl) (by kernel_rfl) (fun i hi => ?_) (fun a w5 hc hs => ?_)
    · match i, hi with
      | 0, _ =>
        intro a W hc hd
        have z3 := hc.same 3 (by kernel_rfl)
        simp only [List.getElem?_toArray, List.getElem?_cons_succ, List.getElem?_cons_zero, Option.getD_some] at z3
        refine obl_val rfl (wanted_none rfl) ?_ rfl
        go_simp
      | 1, _ =>
        intro a W hc hd
        have s0 : a.tmps[5]?.getD undef = (.pointer (some ⟨w.heap.size, 0, none⟩)) := hd 0 (by kernel_rfl)
        obtain ⟨q0, q1, q2⟩ := HBX.out W hc.below
        refine obl_val rfl (wanted_none rfl) ?_ rfl
        go_simp
      | 2, _ =>
        intro a W hc hd
        have s1 : a.tmps[6]?.getD undef = (.int .i64 (sq : Int)) := hd 1 (by kernel_rfl)
        refine obl_val rfl (wanted_none rfl) ?_ rfl
        go_simp
      | 3, _ =>
        intro a W hc hd
        have s2 : a.tmps[7]?.getD undef = (.bool true) := hd 2 (by kernel_rfl)
        refine obl_val rfl (wanted_none rfl) ?_ rfl
        go_simp
      | 4, _ =>
        intro a W hc hd
        have z3 := hc.same 3 (by kernel_rfl)
        have s3 : a.tmps[8]?.getD undef = (.bool true) := hd 3 (by kernel_rfl)
        simp only [List.getElem?_toArray, List.getElem?_cons_succ, List.getElem?_cons_zero, Option.getD_some] at z3
        refine obl_val rfl (wanted_some rfl rfl s3) ?_ rfl
        go_simp
      | 5, _ =>
        intro a W hc hd
        have s4 : a.tmps[9]?.getD undef = (.pointer (some ⟨w.heap.size, 0, none⟩)) := hd 4 (by kernel_rfl)
        have s3 : a.tmps[8]?.getD undef = (.bool true) := hd 3 (by kernel_rfl)
        obtain ⟨q0, q1, q2⟩ := HBX.out W hc.below
        refine obl_val rfl (wanted_some rfl rfl s3) ?_ rfl
        go_simp
      | 6, _ =>
        intro a W hc hd
        have s5 : a.tmps[10]?.getD undef = (.int .i64 (sq : Int)) := hd 5 (by kernel_rfl)
        have s3 : a.tmps[8]?.getD undef = (.bool true) := hd 3 (by kernel_rfl)
        refine obl_val rfl (wanted_some rfl rfl s3) ?_ rfl
        go_simp
      | 7, _ =>
        intro a W hc hd
        have s3 : a.tmps[8]?.getD undef = (.bool true) := hd 3 (by kernel_rfl)
        have s6 : a.tmps[11]?.getD undef = (.bool true) := hd 6 (by kernel_rfl)
        refine obl_val rfl (wanted_none rfl) ?_ rfl
        go_simp
      | 8, _ =>
        intro a W hc hd
        have s7 : a.tmps[12]?.getD undef = (.bool true) := hd 7 (by kernel_rfl)
        refine obl_val rfl (wanted_none rfl) ?_ rfl
        go_simp
      | 9, _ =>
        intro a W hc hd
        have z0 := hc.same 0 (by kernel_rfl)
        have s8 : a.tmps[13]?.getD undef = (.bool true) := hd 8 (by kernel_rfl)
        simp only [List.getElem?_toArray, List.getElem?_cons_zero, Option.getD_some] at z0
        refine obl_val rfl (wanted_some rfl rfl s8) ?_ rfl
        go_simp
      | 10, _ =>
        intro a W hc hd
        have s9 : a.tmps[14]?.getD undef = v := hd 9 (by kernel_rfl)
        have s8 : a.tmps[13]?.getD undef = (.bool true) := hd 8 (by kernel_rfl)
        have e := (HV.out.below (HB0.out.drew.trans (hc.below.mono (by simp)))).strA
        refine obl_val rfl (wanted_some rfl rfl s8) ?_ rfl
        go_simp
      | 11, _ =>
        intro a W hc hd
        have z3 := hc.same 3 (by kernel_rfl)
        have s8 : a.tmps[13]?.getD undef = (.bool true) := hd 8 (by kernel_rfl)
        simp only [List.getElem?_toArray, List.getElem?_cons_succ, List.getElem?_cons_zero, Option.getD_some] at z3
        obtain ⟨q0, q1, q2⟩ := HBX.out W hc.below
        refine obl_val rfl (wanted_some rfl rfl s8) ?_ rfl
        go_simp
      | 12, _ =>
        intro a W hc hd
        have s11 : a.tmps[16]?.getD undef = (.agg #[.int .i64 (sq : Int), .int .i64 len, .int .u32 (sum : Int)]) := hd 11 (by kernel_rfl)
        have s8 : a.tmps[13]?.getD undef = (.bool true) := hd 8 (by kernel_rfl)
        refine obl_call rfl (wanted_some rfl rfl s8) (by go_simp) (HLA.out W) ?_
        rintro e w8 ⟨v8, rfl, ho8, hb8⟩
        exact ⟨_, rfl, ho8.byt, hb8⟩
      | 13, _ =>
        intro a W hc hd
        have s12 : (bytS (lastL sq sum)).f (a.tmps[17]?.getD undef) W := hd 12 (by kernel_rfl)
        have s8 : a.tmps[13]?.getD undef = (.bool true) := hd 8 (by kernel_rfl)
        have e := (show Byt W W.heap.size _ _ from s12).strA
        refine obl_val rfl (wanted_some rfl rfl s8) ?_ rfl
        go_simp
      | 14, _ =>
        intro a W hc hd
        have s10 : a.tmps[15]?.getD undef = (.string (bsA l)) := hd 10 (by kernel_rfl)
        have s13 : a.tmps[18]?.getD undef = (.string (bsA (lastL sq sum))) := hd 13 (by kernel_rfl)
        have s8 : a.tmps[13]?.getD undef = (.bool true) := hd 8 (by kernel_rfl)
        refine obl_val rfl (wanted_some rfl rfl s8) ?_ rfl
        exact exec_eqstr rfl (eval_tmp s10) (eval_tmp s13)
      | 15, _ =>
        intro a W hc hd
        have s8 : a.tmps[13]?.getD undef = (.bool true) := hd 8 (by kernel_rfl)
        have s14 : a.tmps[19]?.getD undef = (.bool (bsA l == bsA (lastL sq sum))) := hd 14 (by kernel_rfl)
        refine obl_val rfl (wanted_none rfl) ?_ rfl
        go_simp
      | 16, _ =>
        intro a W hc hd
        have s15 : a.tmps[20]?.getD undef = (.bool (bsA l == bsA (lastL sq sum))) := hd 15 (by kernel_rfl)
        refine obl_val rfl (wanted_none rfl) ?_ rfl
        go_simp
      | n + 17, h => exact absurd h (by simp)
    -- end 2
    · have h0 : a.tmps[4]?.getD undef = .bool (bsA l == bsA (lastL sq sum)) := hs 16 4 (by decide) (by kernel_rfl)
      have hdf : a.defers = [] := hc.defers
      have hB : Below w.heap.size w w5 := HB0.out.drew.trans (hc.below.mono HB0.out.size)
      clear hs hc
      go_wp2
      refine bodyPost_ret (results_tmp rfl _ _ _) hdf ⟨?_, hB⟩
      rw [Array.getD_eq_getD_getElem?, h0, bsA_beq]
end Go.Proofs.Ytmcjefdnkcpghaa
