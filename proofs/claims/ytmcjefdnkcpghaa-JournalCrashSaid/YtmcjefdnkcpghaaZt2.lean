/- THE WALK OF octroiref10.Pages. -/
import Derived.Test.YtmcjefdnkcpghaaZt1
import Derived.ChangeKeysEq
import Derived.Deep.MidRow
import Derived.Test.YtmcjefdnkcpghaaZg
import Derived.Test.YtmcjefdnkcpghaaZs3
namespace Go.Proofs.Ytmcjefdnkcpghaa
open Go.RowKit
theorem cutsL_take (k : Nat) (l : List UInt8) (h : 64 * k < l.length) : (cutsL l).take (k + 1) = (cutsL l).take k ++ [fillL ((l.drop (64 * k)).take 64)] := by
  rw [List.take_add_one, cutsL_get k l h]; rfl
/-- bytes i to j -/
theorem byt_mid {w : World} {B : Nat} {ad : Addr} {c : Nat} {l : List UInt8} (i j : Nat) (h : Byt w B (.slice (some ad) l.length c) l) (hij : i ≤ j) (hj : j ≤ l.length) : Byt w B (.slice (some (ad.add i)) (j - i) (c - i)) ((l.drop i).take (j - i)) := by
  obtain ⟨A', c', hv, hc, hm, hr⟩ := h
  simp only [Value.slice.injEq, true_and] at hv
  obtain ⟨hA, rfl⟩ := hv
  refine ⟨some (ad.add i), c - i, by rw [List.length_take, List.length_drop, Nat.min_eq_left (by omega)], by rw [List.length_take, List.length_drop]; omega, by omega, fun h0 => ?_⟩
  rw [List.length_take, List.length_drop] at h0
  obtain ⟨ad', e, hb, hx⟩ := hr (by omega)
  rw [← hA] at e
  cases e
  refine ⟨ad.add i, rfl, by rw [addr_add_block]; exact hb, fun k x hk => ?_⟩
  rw [addr_add_add]
  rw [List.getElem?_take] at hk
  split at hk
  · rw [List.getElem?_drop] at hk; exact hx _ x hk
  · cases hk
set_option maxRecDepth 100000 in
set_option maxHeartbeats 4000000 in
theorem rpages_any {w : World} (seq : Int) (v : Value) (l : List UInt8) (B : Nat) (hv : Byt w B v l) (hl : l.length ≤ 131072) : Calls Try.prog 51 #[.int .i64 seq, v] w (PagesPost w seq l) := by
  have hsum := rsum_any v l w B hv
  have hs0 := on0_lt l
  obtain ⟨A, c, rfl, hc, hm, hr⟩ := id hv
  unfold maxLen at hm
  have HV := Lib.hid hv
  clear hv
  unfold PagesPost pagesR
  cases hb : rightB seq l.length with
  | false =>
    have hri := rright_any seq l.length (sumL l)
    rw [hb] at hri
    unfold headV at hri
    clear hb hr
    go_enter Try.func51, Try.ntmps51
    go_wp2_with (first
      | (go_at_call 26; (with_reducible refine hsum.mono ?_); rintro e w1 ⟨rfl, rfl⟩)
      | (go_at_call 99; refine (hri _).mono ?_; rintro e w2 ⟨rfl, hb2⟩))
    go_ret2
    refine ⟨_, rfl, OwB.nil_ _ _ _, ((Below.refl _ w).alloc (Nat.le_refl _) _).trans (hb2.mono (by simp))⟩
  | true =>
    obtain ⟨q1, q2, q3, q4⟩ := rightB_yes hb
    obtain ⟨sq, rfl⟩ : ∃ k : Nat, seq = (k : Int) := ⟨seq.toNat, by omega⟩
    obtain ⟨ad, rfl, hadB, _⟩ := hr (by omega)
    have hri := rright_any sq l.length (sumL l)
    rw [hb] at hri
    have hfi := rfirst_any sq l.length (sumL l) (by omega) (by omega) hs0
    have hla := fun w => rlast_any sq (sumL l) (by omega) hs0 (l.length : Int) w
    unfold headV at hri hfi hla
    change Calls _ _ _ _ (fun e w' => e = .returned (.int .u32 (sumL l : Int)) ∧ _) at hsum
    simp only [if_true]
    rw [Int.toNat_natCast]
    generalize hsm : sumL l = sm at *
    have HLA := Lib.hid hla
    have HSM := Lib.hid hsm
    clear hb hla hs0 hsm hr
    go_enter Try.func51, Try.ntmps51
    go_wp2_with (first
      | (go_at_call 26; (with_reducible refine hsum.mono ?_); rintro e w1 ⟨rfl, rfl⟩
         have hx1 := heap_alloc_new w (.cells #[.int .i64 (sq : Int), .int .i64 (l.length : Int), .int .u32 (sm : Int)] 81 (0, 0)))
      | (go_at_call 99; refine (hri _).mono ?_; rintro e w2 ⟨rfl, hb2⟩
         have hx2 := (hb2.block _ (by simp)).trans hx1
         have z0 := cells_of hx2 0 _ rfl
         have z1 := cells_of hx2 1 _ rfl
         have z2 := cells_of hx2 2 _ rfl)
      | (go_at_call 100; refine (hfi _).mono ?_; rintro e w3 ⟨v3, rfl, ho3, hb3⟩
         have hx3 := (hb3.block _ (lt_of_block hx2)).trans hx2
         obtain ⟨g3, c3, rfl, _, _, _⟩ := (show ∃ g c, v3 = .slice (some ⟨g, 0, none⟩) 64 c ∧ True ∧ True ∧ True from by
           rcases ho3.2 with ⟨_, hn⟩ | ⟨g, cap, cur, e, _⟩
           · rw [firstL_len] at hn; omega
           · rw [firstL_len] at e; exact ⟨g, cap, e, trivial, trivial, trivial⟩)))
    have hs2 := hb2.size
    have hs3 := hb3.size
    simp only [World.size_alloc] at hs2
    have hb03 : Below w.heap.size w w3 := ((Below.refl w.heap.size w).alloc (Nat.le_refl _) _).trans ((hb2.mono (by simp)).trans (hb3.mono (by omega)))
    have hO3 := (owB_one (D := fun b => w.heap.size ≤ b) (ho3.bytn (fun _ h => Nat.le_trans (by have := hb2.size; simp only [World.size_alloc] at this; omega) h)) hb03.size).more hb03.size
    have hB4 : Below w.heap.size w (w3.alloc (.cells #[.slice (some ⟨g3, 0, none⟩) 64 c3] 23)) := hb03.alloc hb03.size _
    have hx4 := (Below.heap_alloc w3 (.cells #[.slice (some ⟨g3, 0, none⟩) 64 c3] 23) _ (lt_of_block hx3)).trans hx3
    have HX4 := Lib.hid hx4
    have HO3 := Lib.hid hO3
    clear hx1 hx2 hx3 hx4 z0 z1 z2 hri hfi hsum ho3 hO3
    go_loopg [7, 8] l.length (fun gk x7 x8 wr => ∃ k : Nat, gk = l.length - 64 * k ∧ 64 * k < l.length + 64 ∧ x8 = .int .i64 ((64 * k : Nat) : Int) ∧ OwB (fun b => w.heap.size ≤ b) wr w.heap.size x7 (firstL sq l.length (sumL l) :: (cutsL l).take k) ∧
      wr.heap[w.heap.size]? = some (.cells #[.int .i64 (sq : Int), .int .i64 (l.length : Int), .int .u32 (sm : Int)] 81 (0, 0)) ∧ Below w.heap.size w wr)
    case atStart => exact ⟨0, rfl, by omega, rfl, by rw [HSM.out]; exact HO3.out, HX4.out, hB4⟩
    case round =>
      clear HO3 hB4 HX4 hb03 hb2 hb3 hs2 hs3
      obtain ⟨k, hgk, hk64, rfl, ho, hx, hbel⟩ := hrel
      have HG := Lib.hid hgk
      have HO := Lib.hid ho
      have HX := Lib.hid hx
      have hwr := hbel.size
      have hlt6 := lt_of_block hx
      clear hgk ho hx
      by_cases h : 64 * k < l.length
      · have hct := cutsL_take k l h
        have hvr := HV.out.heap.below hbel
        have hkl : (cutsL l).length ≤ 2048 := by rw [cutsL_len _ l (Nat.le_refl _)]; omega
        have hln : (firstL sq l.length (sumL l) :: (cutsL l).take k).length + 1 ≤ 1000000 := by
          rw [List.length_cons, List.length_take]; omega
        have HCT := Lib.hid hct
        have HLN := Lib.hid hln
        clear hct hkl hln
        have HTL := Lib.hid (show ((l.drop (64 * k)).take 64).length ≤ 64 from List.length_take_le _ _)
        by_cases h2 : 64 * k + 64 ≤ l.length
        · have hmid := byt_mid (64 * k) (64 * k + 64) hvr (by omega) h2
          rw [show 64 * k + 64 - 64 * k = 64 by omega] at hmid
          have HMID := Lib.hid hmid
          clear hmid hvr
          go_wp2_with fail
          refine (rfill_any _ _ _ HTL.out _ HMID.out).mono ?_
          rintro e w4 ⟨v4, rfl, ho4, hb4⟩
          obtain ⟨g4, c4, rfl, _, _, _⟩ := (show ∃ g c, v4 = .slice (some ⟨g, 0, none⟩) 64 c ∧ True ∧ True ∧ True from by
            have hfl := fillL_len _ HTL.out
            rcases ho4.2 with ⟨_, hn⟩ | ⟨g, cap, cur, e, _⟩
            · rw [hfl] at hn; omega
            · rw [hfl] at e; exact ⟨g, cap, e, trivial, trivial, trivial⟩)
          have HO4 := Lib.hid (HO.out.below hb4)
          have HN4 := Lib.hid (ho4.bytn (D := fun b => w.heap.size ≤ b) (fun _ h => by omega))
          have HB4 := Lib.hid (hbel.trans (hb4.mono hwr))
          have HX4 := Lib.hid ((hb4.block _ hlt6).trans HX.out)
          have hw4 := HB4.out.size
          clear ho4
          go_wp2_with ((with_reducible show wpList _ _ _ (⟨some 38, _, _, _, _, _⟩ :: _) _ _); go_must (refine wpList_append_one rfl (.tmp 27) (.tmp 37) rfl rfl HO4.out (some ⟨g4, 0, none⟩) 64 c4 HN4.out rfl HLN.out hw4 (fun _ hb => Nat.le_trans hw4 hb) ?_); intro v' w' ho' hg' _; have HO' := Lib.hid ho'; clear ho')
          go_roundg (l.length - 64 * (k + 1))
          case measure => have := HG.out; omega
          case rel =>
            refine ⟨k + 1, rfl, by omega, by rw [show 64 * (k + 1) = 64 * k + 64 by omega]; go_num, ?_, keepK (by decide) HX4.out HO4.out hg', ?_⟩
            · rw [HCT.out, ← List.cons_append]; exact HO'.out
            · obtain ⟨ts, o1, _, _⟩ := HO4.out
              exact HB4.out.grown hg' hw4 (fun k hk => (o1.lt k hk).1)
        · have hmid := byt_mid (64 * k) l.length hvr (by omega) (Nat.le_refl _)
          have eT : (l.drop (64 * k)).take (l.length - 64 * k) = (l.drop (64 * k)).take 64 := by
            rw [List.take_of_length_le (by rw [List.length_drop]; exact Nat.le_refl _), List.take_of_length_le (by rw [List.length_drop]; omega)]
          rw [eT] at hmid
          have HMID := Lib.hid hmid
          clear hmid hvr eT
          go_wp2_with fail
          refine (rfill_any _ _ _ HTL.out _ HMID.out).mono ?_
          rintro e w4 ⟨v4, rfl, ho4, hb4⟩
          obtain ⟨g4, c4, rfl, _, _, _⟩ := (show ∃ g c, v4 = .slice (some ⟨g, 0, none⟩) 64 c ∧ True ∧ True ∧ True from by
            have hfl := fillL_len _ HTL.out
            rcases ho4.2 with ⟨_, hn⟩ | ⟨g, cap, cur, e, _⟩
            · rw [hfl] at hn; omega
            · rw [hfl] at e; exact ⟨g, cap, e, trivial, trivial, trivial⟩)
          have HO4 := Lib.hid (HO.out.below hb4)
          have HN4 := Lib.hid (ho4.bytn (D := fun b => w.heap.size ≤ b) (fun _ h => by omega))
          have HB4 := Lib.hid (hbel.trans (hb4.mono hwr))
          have HX4 := Lib.hid ((hb4.block _ hlt6).trans HX.out)
          have hw4 := HB4.out.size
          clear ho4
          go_wp2_with ((with_reducible show wpList _ _ _ (⟨some 38, _, _, _, _, _⟩ :: _) _ _); go_must (refine wpList_append_one rfl (.tmp 27) (.tmp 37) rfl rfl HO4.out (some ⟨g4, 0, none⟩) 64 c4 HN4.out rfl HLN.out hw4 (fun _ hb => Nat.le_trans hw4 hb) ?_); intro v' w' ho' hg' _; have HO' := Lib.hid ho'; clear ho')
          go_roundg (l.length - 64 * (k + 1))
          case measure => have := HG.out; omega
          case rel =>
            refine ⟨k + 1, rfl, by omega, by rw [show 64 * (k + 1) = 64 * k + 64 by omega]; go_num, ?_, keepK (by decide) HX4.out HO4.out hg', ?_⟩
            · rw [HCT.out, ← List.cons_append]; exact HO'.out
            · obtain ⟨ts, o1, _, _⟩ := HO4.out
              exact HB4.out.grown hg' hw4 (fun k hk => (o1.lt k hk).1)
      · have hkn : (cutsL l).take k = cutsL l := List.take_of_length_le (by rw [cutsL_len _ l (Nat.le_refl _)]; omega)
        have hln : (firstL sq l.length (sumL l) :: cutsL l).length + 1 ≤ 1000000 := by
          rw [List.length_cons, cutsL_len _ l (Nat.le_refl _)]; omega
        have HO2 := HO.out
        rw [hkn] at HO2
        have HO3 := Lib.hid HO2
        have HLN := Lib.hid hln
        have z0 := cells_of HX.out 0 _ rfl
        have z1 := cells_of HX.out 1 _ rfl
        have z2 := cells_of HX.out 2 _ rfl
        clear HO2 hkn hln
        go_wp2_with fail
        refine (HLA.out _).mono ?_
        rintro e w4 ⟨v4, rfl, ho4, hb4⟩
        obtain ⟨g4, c4, rfl, _, _, _⟩ := (show ∃ g c, v4 = .slice (some ⟨g, 0, none⟩) 64 c ∧ True ∧ True ∧ True from by
          rcases ho4.2 with ⟨_, hn⟩ | ⟨g, cap, cur, e, _⟩
          · rw [lastL_len] at hn; omega
          · rw [lastL_len] at e; exact ⟨g, cap, e, trivial, trivial, trivial⟩)
        have HO4 := Lib.hid (HO3.out.below hb4)
        have HN4 := Lib.hid (ho4.bytn (D := fun b => w.heap.size ≤ b) (fun _ h => by omega))
        have HB4 := Lib.hid (hbel.trans (hb4.mono hwr))
        have hw4 := HB4.out.size
        clear ho4
        go_wp2_with ((with_reducible show wpList _ _ _ (⟨some 43, _, _, _, _, _⟩ :: _) _ _); go_must (refine wpList_append_one rfl (.tmp 39) (.tmp 42) rfl rfl HO4.out (some ⟨g4, 0, none⟩) 64 c4 HN4.out rfl HLN.out hw4 (fun _ hb => Nat.le_trans hw4 hb) ?_); intro v' w' ho' hg' _; have HO' := Lib.hid ho'; clear ho')
        go_ret2
        refine ⟨_, rfl, ?_, ?_⟩
        · unfold pagesL
          have := HO'.out
          rw [HSM.out] at this ⊢
          exact this
        · obtain ⟨ts, o1, _, _⟩ := HO4.out
          exact HB4.out.grown hg' hw4 (fun k hk => (o1.lt k hk).1)
end Go.Proofs.Ytmcjefdnkcpghaa
/- THE WALKS OF tape.same, Blank, End AND THE DOCUMENT'S. -/
namespace Go.Proofs.Ytmcjefdnkcpghaa
open Go.RowKit
theorem Byt.loadArr {w : World} {B : Nat} {ad : Addr} {c : Nat} {l : List UInt8} (h : Byt w B (.slice (some ad) 64 c) l) (hl : l.length = 64) : (Instr.loadAt 140 (.pointer (some ad))).run Try.prog w = .ok (.agg (l.map bV).toArray) w := by
  obtain ⟨A', c', hv, hc, hm, hr⟩ := h
  obtain ⟨ad', hA, hb, hx⟩ := hr (by omega)
  rw [hl] at hv
  simp only [Value.slice.injEq, true_and] at hv
  obtain ⟨e, _⟩ := hv
  rw [hA] at e
  cases e
  have hlc : (loadCells ad (l.map bV).length).run Try.prog w = .ok (l.map bV).toArray w :=
    run_loadCells_list (P := Try.prog) w ad (l.map bV) (fun j v hj => by
      rw [List.getElem?_map] at hj
      cases hq : l[j]? with
      | none => rw [hq] at hj; cases hj
      | some x => rw [hq] at hj; cases hj; exact hx j x hq)
  rw [List.length_map, hl] at hlc
  have hi : (Try.prog.info? 140).map (·.size) = some 64 := by kernel_rfl
  cases hq : Try.prog.info? 140 with
  | none => simp [hq] at hi
  | some i =>
    have hs : i.size = 64 := by simpa [hq] using hi
    have hagg : (isAgg 140).run Try.prog w = .ok true w := by
      unfold isAgg
      rw [Sem.run_bind, run_underlying Try.underlying140 w]
      simp
    simp [Instr.loadAt, Instr.sureAddr, loadVar, Sem.run_bind, hagg, sizeOf, typeInfo, hq, hs, hlc]
theorem exec_load {P : Program} {o : Oper} {ρ : Operand → Value} {w : World} {ty : TypeId} {x : Operand} {u : Value} (ho : o.op = .load ty x) (h : (Instr.loadAt ty (ρ x)).run P w = .ok u w) : (execOp ρ o).run P w = .ok (.value u) w := by
  unfold execOp; simp only [ho]; simp [h]
theorem exec_arr {P : Program} {o : Oper} {ρ : Operand → Value} {w : World} {ty : TypeId} {x : Operand} {u : Value} (ho : o.op = .sliceToArrayPointer ty x) (h : (Instr.arrayAt ty (ρ x)).run P w = .ok u w) : (execOp ρ o).run P w = .ok (.value u) w := by
  unfold execOp; simp only [ho]; simp [h]
theorem exec_eqagg {P : Program} {o : Oper} {ρ : Operand → Value} {w : World} {t t' : TypeId} {x y : Operand} {X Y : Array Value} {u : Value} (ho : o.op = .binOp .eql t x y t') (hx : ρ x = .agg X) (hy : ρ y = .agg Y) (hm : P.eqGuardType P.depth t = false) (h : (binOp .eql t (.agg X) (.agg Y)).run P w = .ok u w) : (execOp ρ o).run P w = .ok (.value u) w := by
  have hg := run_eqGuard_agg (P := P) w .eql t x y X Y hm
  unfold execOp; simp only [ho, hx, hy, Sem.run_bind, hg, h, Result.andThen_ok, Sem.run_pure]
theorem eval_tmp {a : Act} {t : Nat} {v : Value} (h : a.tmps[t]?.getD undef = v) : a.eval (.tmp t) = v := by
  rw [← h]; simp [Act.eval]
theorem run_arrayAt (w : World) (A : Option Addr) (c : Nat) : (Instr.arrayAt 140 (.slice A 64 c)).run Try.prog w = .ok (.pointer A) w := by
  simp [Instr.arrayAt, Sem.run_bind, run_underlying Try.underlying140]
theorem run_part_byte (w : World) (l : List UInt8) (i : Nat) (x : UInt8) (h : l[i]? = some x) : (part 5 (l.map bV).toArray (i * 1)).run Try.prog w = .ok (bV x) w := by
  have hagg : (isAgg 5).run Try.prog w = .ok false w := by
    unfold isAgg
    rw [Sem.run_bind, run_underlying Try.underlying5 w]
    simp
  simp [part, Sem.run_bind, hagg, h]
theorem run_eqItems_bytes (w : World) (d : Nat) (l m : List UInt8) : ∀ is : List Nat, (∀ i ∈ is, i < l.length ∧ i < m.length) →
    (Op.eqItems (d + 1) 5 1 (l.map bV).toArray (m.map bV).toArray is).run Try.prog w = .ok (is.all fun i => decide (l[i]? = m[i]?)) w := by
  intro is
  induction is with
  | nil => intro _; simp [Op.eqItems]
  | cons i is ih =>
    intro h
    obtain ⟨h1, h2⟩ := h i (by simp)
    have e1 := run_part_byte w l i _ (List.getElem?_eq_getElem h1)
    have e2 := run_part_byte w m i _ (List.getElem?_eq_getElem h2)
    have hi := ih (fun j hj => h j (by simp [hj]))
    have he : (Op.equalIn (d + 1) 5 (bV l[i]) (bV m[i])).run Try.prog w = .ok (((l[i].toNat : Nat) : Int) == (m[i].toNat : Int)) w := by
      simp [Op.equalIn, run_underlying Try.underlying5, bV]
    simp only [Op.eqItems, Sem.run_bind, e1, e2, he, Result.andThen_ok, List.all_cons]
    by_cases hx : l[i] = m[i]
    · have : (((l[i].toNat : Nat) : Int) == (m[i].toNat : Int)) = true := by rw [hx]; simp
      rw [this]
      simp [hi, h1, h2, hx]
    · have : (((l[i].toNat : Nat) : Int) == (m[i].toNat : Int)) = false := by
        rw [beq_eq_false_iff_ne]
        intro e
        exact hx (UInt8.toNat_inj.1 (by omega))
      rw [this]
      simp [h1, h2, hx]
/-- two texts of a sector, the same -/
def sameB (a b : List UInt8) : Bool := decide (a.length = 64 ∧ a = b)
theorem run_eql_sec (w : World) (l m : List UInt8) (hl : l.length = 64) (hm : m.length = 64) : (binOp .eql 140 (.agg (l.map bV).toArray) (.agg (m.map bV).toArray)).run Try.prog w = .ok (.bool (sameB l m)) w := by
  obtain ⟨i, hi, _, hs, _⟩ := info_parts Try.byteInfo
  have h1 := run_equalIn_array (P := Try.prog) w 9999 (l.map bV).toArray (m.map bV).toArray Try.underlying140 hi
  have hc : Try.prog.cellsOf 5 = 1 := by kernel_rfl
  rw [hc, run_eqItems_bytes w 9998 l m _ (fun i hi => by have := List.mem_range.1 hi; omega)] at h1
  have hb : ((List.range 64).all fun i => decide (l[i]? = m[i]?)) = sameB l m := by
    unfold sameB
    rw [Bool.eq_iff_iff, List.all_eq_true]
    simp only [List.mem_range, decide_eq_true_eq]
    constructor
    · intro h
      refine ⟨hl, List.ext_getElem? fun j => ?_⟩
      by_cases hj : j < 64
      · exact h j hj
      · rw [List.getElem?_eq_none (by omega), List.getElem?_eq_none (by omega)]
    · rintro ⟨_, e⟩ j _
      rw [e]
  rw [hb] at h1
  simp only [binOp]
  simp [Op.equal, Op.maxDepth, h1]
set_option maxRecDepth 100000 in
set_option maxHeartbeats 2000000 in
theorem tsame_any {w : World} {B1 B2 : Nat} {a b : Value} {l m : List UInt8} (ha : Byt w B1 a l) (hb : Byt w B2 b m) : Calls Try.prog 104 #[a, b] w fun e w' => e = .returned (.bool (sameB l m)) ∧ Below w.heap.size w w' := by
  obtain ⟨A1, c1, rfl, hc1, hm1, hr1⟩ := id ha
  obtain ⟨A2, c2, rfl, hc2, hm2, hr2⟩ := id hb
  unfold maxLen at hm1 hm2
  by_cases h1 : l.length = 64
  · by_cases h2 : m.length = 64
    · obtain ⟨ad1, rfl, _, _⟩ := hr1 (by omega)
      obtain ⟨ad2, rfl, _, _⟩ := hr2 (by omega)
      rw [h1] at ha ⊢
      rw [h2] at hb ⊢
      have H1 := Lib.hid (fun (W : World) (hW : Below w.heap.size w.drew W) => Byt.loadArr (ha.heap.drew.below hW) h1)
      have H2 := Lib.hid (fun (W : World) (hW : Below w.heap.size w.drew W) => Byt.loadArr (hb.heap.drew.below hW) h2)
      have HE := Lib.hid (fun W => run_eql_sec W l m h1 h2)
      generalize (l.map bV).toArray = X1 at *
      generalize (m.map bV).toArray = X2 at *
      generalize sameB l m = sb at *
      clear hr1 hr2 ha hb h1 h2 hc1 hc2
      go_enter Try.func104, Try.ntmps104
      go_wp2
      -- region 1
      refine wp_region_sp (by kernel_rfl) [isS (.slice (some ad1) 64 c1), isS (.int .i64 64), isS (.bool true), isS (.bool true), isS (.slice (some ad2) 64 c2), isS (.int .i64 64), isS (.bool true), isS (.bool true), isS (.bool true), isS (.slice (some ad1) 64 c1), isS (.pointer (some ad1)), isS (.agg X1), isS (.slice (some ad2) 64 c2), isS (.pointer (some ad2)), isS (.agg X2), isS (.bool sb), isS (.bool sb), isS (.bool sb)] (by kernel_rfl) (by kernel_rfl) (fun i hi => ?_) (fun a w5 hc hs => ?_)
      · match i, hi with
        | 0, _ =>
          intro a W hc hd
          have z0 := hc.same 0 (by kernel_rfl)
          simp only [List.getElem?_toArray, List.getElem?_cons_zero, Option.getD_some] at z0
          refine obl_val rfl (wanted_none rfl) ?_ rfl
          go_simp
        | 1, _ =>
          intro a W hc hd
          have s0 : a.tmps[5]?.getD undef = (.slice (some ad1) 64 c1) := hd 0 (by kernel_rfl)
          refine obl_val rfl (wanted_none rfl) ?_ rfl
          go_simp
        | 2, _ =>
          intro a W hc hd
          have s1 : a.tmps[6]?.getD undef = (.int .i64 64) := hd 1 (by kernel_rfl)
          refine obl_val rfl (wanted_none rfl) ?_ rfl
          go_simp
        | 3, _ =>
          intro a W hc hd
          have s2 : a.tmps[7]?.getD undef = (.bool true) := hd 2 (by kernel_rfl)
          refine obl_val rfl (wanted_none rfl) ?_ rfl
          go_simp
        | 4, _ =>
          intro a W hc hd
          have z1 := hc.same 1 (by kernel_rfl)
          have s3 : a.tmps[8]?.getD undef = (.bool true) := hd 3 (by kernel_rfl)
          simp only [List.getElem?_toArray, List.getElem?_cons_succ, List.getElem?_cons_zero, Option.getD_some] at z1
          refine obl_val rfl (wanted_some rfl rfl s3) ?_ rfl
          go_simp
        | 5, _ =>
          intro a W hc hd
          have s4 : a.tmps[9]?.getD undef = (.slice (some ad2) 64 c2) := hd 4 (by kernel_rfl)
          have s3 : a.tmps[8]?.getD undef = (.bool true) := hd 3 (by kernel_rfl)
          refine obl_val rfl (wanted_some rfl rfl s3) ?_ rfl
          go_simp
        | 6, _ =>
          intro a W hc hd
          have s5 : a.tmps[10]?.getD undef = (.int .i64 64) := hd 5 (by kernel_rfl)
          have s3 : a.tmps[8]?.getD undef = (.bool true) := hd 3 (by kernel_rfl)
          refine obl_val rfl (wanted_some rfl rfl s3) ?_ rfl
          go_simp
        | 7, _ =>
          intro a W hc hd
          have s3 : a.tmps[8]?.getD undef = (.bool true) := hd 3 (by kernel_rfl)
          have s6 : a.tmps[11]?.getD undef = (.bool true) := hd 6 (by kernel_rfl)
          refine obl_val rfl (wanted_none rfl) ?_ rfl
          go_simp
        | 8, _ =>
          intro a W hc hd
          have s7 : a.tmps[12]?.getD undef = (.bool true) := hd 7 (by kernel_rfl)
          refine obl_val rfl (wanted_none rfl) ?_ rfl
          go_simp
        | 9, _ =>
          intro a W hc hd
          have z0 := hc.same 0 (by kernel_rfl)
          have s8 : a.tmps[13]?.getD undef = (.bool true) := hd 8 (by kernel_rfl)
          simp only [List.getElem?_toArray, List.getElem?_cons_zero, Option.getD_some] at z0
          refine obl_val rfl (wanted_some rfl rfl s8) ?_ rfl
          go_simp
        | 10, _ =>
          intro a W hc hd
          have s9 : a.tmps[14]?.getD undef = (.slice (some ad1) 64 c1) := hd 9 (by kernel_rfl)
          have s8 : a.tmps[13]?.getD undef = (.bool true) := hd 8 (by kernel_rfl)
          refine obl_val rfl (wanted_some rfl rfl s8) ?_ rfl
          exact exec_arr rfl (by rw [eval_tmp s9]; exact run_arrayAt _ _ _)
        | 11, _ =>
          intro a W hc hd
          have s10 : a.tmps[15]?.getD undef = (.pointer (some ad1)) := hd 10 (by kernel_rfl)
          have s8 : a.tmps[13]?.getD undef = (.bool true) := hd 8 (by kernel_rfl)
          have e := H1.out W (by exact hc.below)
          refine obl_val rfl (wanted_some rfl rfl s8) ?_ rfl
          exact exec_load rfl (by rw [eval_tmp s10]; exact e)
        | 12, _ =>
          intro a W hc hd
          have z1 := hc.same 1 (by kernel_rfl)
          have s8 : a.tmps[13]?.getD undef = (.bool true) := hd 8 (by kernel_rfl)
          simp only [List.getElem?_toArray, List.getElem?_cons_succ, List.getElem?_cons_zero, Option.getD_some] at z1
          refine obl_val rfl (wanted_some rfl rfl s8) ?_ rfl
          go_simp
        | 13, _ =>
          intro a W hc hd
          have s12 : a.tmps[17]?.getD undef = (.slice (some ad2) 64 c2) := hd 12 (by kernel_rfl)
          have s8 : a.tmps[13]?.getD undef = (.bool true) := hd 8 (by kernel_rfl)
          refine obl_val rfl (wanted_some rfl rfl s8) ?_ rfl
          exact exec_arr rfl (by rw [eval_tmp s12]; exact run_arrayAt _ _ _)
        | 14, _ =>
          intro a W hc hd
          have s13 : a.tmps[18]?.getD undef = (.pointer (some ad2)) := hd 13 (by kernel_rfl)
          have s8 : a.tmps[13]?.getD undef = (.bool true) := hd 8 (by kernel_rfl)
          have e := H2.out W (by exact hc.below)
          refine obl_val rfl (wanted_some rfl rfl s8) ?_ rfl
          exact exec_load rfl (by rw [eval_tmp s13]; exact e)
        | 15, _ =>
          intro a W hc hd
          have s11 : a.tmps[16]?.getD undef = (.agg X1) := hd 11 (by kernel_rfl)
          have s14 : a.tmps[19]?.getD undef = (.agg X2) := hd 14 (by kernel_rfl)
          have s8 : a.tmps[13]?.getD undef = (.bool true) := hd 8 (by kernel_rfl)
          refine obl_val rfl (wanted_some rfl rfl s8) ?_ rfl
          exact exec_eqagg rfl (eval_tmp s11) (eval_tmp s14) (by kernel_rfl) (HE.out W)
        | 16, _ =>
          intro a W hc hd
          have s8 : a.tmps[13]?.getD undef = (.bool true) := hd 8 (by kernel_rfl)
          have s15 : a.tmps[20]?.getD undef = (.bool sb) := hd 15 (by kernel_rfl)
          refine obl_val rfl (wanted_none rfl) ?_ rfl
          go_simp
        | 17, _ =>
          intro a W hc hd
          have s16 : a.tmps[21]?.getD undef = (.bool sb) := hd 16 (by kernel_rfl)
          refine obl_val rfl (wanted_none rfl) ?_ rfl
          go_simp
        | n + 18, h => exact absurd h (by simp)
      -- end 1
      · have h0 : a.tmps[4]?.getD undef = .bool sb := hs 17 4 (by decide) (by kernel_rfl)
        have hdf : a.defers = [] := hc.defers
        have hB : Below w.heap.size w w5 := (Below.refl w.heap.size w).drew.trans hc.below
        clear hs hc
        go_wp2
        refine bodyPost_ret (results_tmp rfl _ _ _) hdf ⟨?_, hB⟩
        rw [Array.getD_eq_getD_getElem?, h0]
    · have e1 : ((m.length : Int) == 64) = false := by rw [beq_eq_false_iff_ne]; omega
      have hs : sameB l m = false := by
        unfold sameB
        rw [decide_eq_false_iff_not]
        rintro ⟨_, e⟩
        rw [e] at h1; exact h2 h1
      rw [hs]
      clear hr1 hr2 ha hb h2 hs
      rw [h1]
      go_enter Try.func104, Try.ntmps104
      go_wp2
      go_quiet (fail)
      go_wp2
      go_ret
      exact ⟨rfl, rfl, rfl, rfl, Nat.le_refl _, fun _ _ => rfl⟩
  · have e1 : ((l.length : Int) == 64) = false := by rw [beq_eq_false_iff_ne]; omega
    have hs : sameB l m = false := by
      unfold sameB
      rw [decide_eq_false_iff_not]
      rintro ⟨e, _⟩
      exact h1 e
    rw [hs]
    clear hr1 hr2 ha hb h1 hs
    go_enter Try.func104, Try.ntmps104
    go_wp2
    go_quiet (fail)
    go_wp2
    go_ret
    exact ⟨rfl, rfl, rfl, rfl, Nat.le_refl _, fun _ _ => rfl⟩
end Go.Proofs.Ytmcjefdnkcpghaa
/- THE WALKS OF tape.Blank, End AND THE DOCUMENT'S. -/
namespace Go.Proofs.Ytmcjefdnkcpghaa
open Go.RowKit
theorem bsA_beq (l m : List UInt8) : (bsA l == bsA m) = decide (l = m) := by
  rw [beq_toListBytes, ByteArray.toList_eq, ByteArray.toList_eq, bsA_list, bsA_list]
  by_cases h : l = m <;> simp [h]
theorem exec_eqstr {P : Program} {o : Oper} {ρ : Operand → Value} {w : World} {t t' : TypeId} {x y : Operand} {s u : ByteArray} (ho : o.op = .binOp .eql t x y t') (hx : ρ x = .string s) (hy : ρ y = .string u) : (execOp ρ o).run P w = .ok (.value (.bool (s == u))) w := by
  have hg : (eqGuard .eql t x y (.string s) (.string u)).run P w = .ok () w := by simp [eqGuard]
  have he : (binOp .eql t (.string s) (.string u)).run P w = .ok (.bool (s == u)) w := by
    simp [binOp, Op.stringOp]
    exact (beq_toListBytes s u).symm
  unfold execOp; simp only [ho, hx, hy, Sem.run_bind, hg, he, Result.andThen_ok, Sem.run_pure]
def blankB (l : List UInt8) : Bool := decide (l = fillL [])
theorem same_blank (l : List UInt8) : sameB l (fillL []) = blankB l := by
  unfold sameB blankB
  rw [Bool.eq_iff_iff, decide_eq_true_eq, decide_eq_true_eq]
  constructor
  · exact fun h => h.2
  · intro h; exact ⟨by rw [h]; exact fillL_len [] (by simp), h⟩
set_option maxRecDepth 100000 in
theorem blank_any {w : World} {B : Nat} {v : Value} {l : List UInt8} (hv : Byt w B v l) : Calls Try.prog 59 #[v] w fun e w' => e = .returned (.bool (blankB l)) ∧ Below w.heap.size w w' := by
  have hfi := tfill_any 0 _ [] (by simp) w (Byt.nil_ w 0)
  have HV := Lib.hid hv.heap
  clear hv
  go_enter Try.func59, Try.ntmps59
  go_wp2_with (first
    | (go_at_call 106; (with_reducible refine hfi.mono ?_); rintro e w1 ⟨v1, rfl, ho1, hb1⟩
       have hsa := tsame_any (HV.out.below hb1) ho1.byt)
    | (go_at_call 104; (with_reducible refine hsa.mono ?_); rintro e w2 ⟨rfl, hb2⟩))
  go_ret
  exact ⟨ret_bool (same_blank l), hb1.trans (hb2.mono hb1.size)⟩
set_option maxRecDepth 100000 in
theorem rblank_any {w : World} {B : Nat} {v : Value} {l : List UInt8} (hv : Byt w B v l) : Calls Try.prog 60 #[v] w fun e w' => e = .returned (.bool (blankB l)) ∧ Below w.heap.size w w' := by
  have hfi := fun w => rfill_any 0 _ [] (by simp) w (Byt.nil_ w 0)
  have HV := Lib.hid hv.heap
  have HF := Lib.hid hfi
  clear hv hfi
  go_enter Try.func60, Try.ntmps60
  go_wp2
  -- region 1
  refine wp_region_sp (by kernel_rfl) [isS v, isS (.string (bsA l)), bytS (fillL []), isS (.string (bsA (fillL []))), isS (.bool (bsA l == bsA (fillL []))), isS (.bool (bsA l == bsA (fillL [])))] (by kernel_rfl) (by kernel_rfl) (fun i hi => ?_) (fun a w5 hc hs => ?_)
  · match i, hi with
    | 0, _ =>
      intro a W hc hd
      have z0 := hc.same 0 (by kernel_rfl)
      simp only [List.getElem?_toArray, List.getElem?_cons_zero, Option.getD_some] at z0
      refine obl_val rfl (wanted_none rfl) ?_ rfl
      go_simp
    | 1, _ =>
      intro a W hc hd
      have s0 : a.tmps[3]?.getD undef = v := hd 0 (by kernel_rfl)
      have e := (HV.out.drew.below hc.below).strA
      refine obl_val rfl (wanted_none rfl) ?_ rfl
      go_simp
    | 2, _ =>
      intro a W hc hd
      refine obl_call rfl (wanted_none rfl) (by go_simp) (HF.out W) ?_
      rintro e w8 ⟨v8, rfl, ho8, hb8⟩
      exact ⟨_, rfl, ho8.byt, hb8⟩
    | 3, _ =>
      intro a W hc hd
      have s2 : (bytS (fillL [])).f (a.tmps[5]?.getD undef) W := hd 2 (by kernel_rfl)
      have e := (show Byt W W.heap.size _ _ from s2).strA
      refine obl_val rfl (wanted_none rfl) ?_ rfl
      go_simp
    | 4, _ =>
      intro a W hc hd
      have s1 : a.tmps[4]?.getD undef = (.string (bsA l)) := hd 1 (by kernel_rfl)
      have s3 : a.tmps[6]?.getD undef = (.string (bsA (fillL []))) := hd 3 (by kernel_rfl)
      refine obl_val rfl (wanted_none rfl) ?_ rfl
      exact exec_eqstr rfl (eval_tmp s1) (eval_tmp s3)
    | 5, _ =>
      intro a W hc hd
      have s4 : a.tmps[7]?.getD undef = (.bool (bsA l == bsA (fillL []))) := hd 4 (by kernel_rfl)
      refine obl_val rfl (wanted_none rfl) ?_ rfl
      go_simp
    | n + 6, h => exact absurd h (by simp)
  -- end 1
  · have h0 : a.tmps[2]?.getD undef = .bool (bsA l == bsA (fillL [])) := hs 5 2 (by decide) (by kernel_rfl)
    have hdf : a.defers = [] := hc.defers
    have hB : Below w.heap.size w w5 := (Below.refl w.heap.size w).drew.trans hc.below
    clear hs hc
    go_wp2
    refine bodyPost_ret (results_tmp rfl _ _ _) hdf ⟨?_, hB⟩
    rw [Array.getD_eq_getD_getElem?, h0, bsA_beq]; rfl
def endB (l : List UInt8) (seq : Int) (sum : Nat) : Bool := decide (1 ≤ seq ∧ seq ≤ 4611686018427387904 ∧ l = lastL seq.toNat sum)
theorem endB_no {l : List UInt8} {seq : Int} {sum : Nat} (h : seq < 1 ∨ 4611686018427387904 < seq) : endB l seq sum = false := by
  unfold endB; rw [decide_eq_false_iff_not]; rintro ⟨h1, h2, _⟩; omega
theorem endB_yes {l : List UInt8} {sq sum : Nat} (h1 : 1 ≤ sq) (h2 : sq ≤ 4611686018427387904) : endB l (sq : Int) sum = decide (l = lastL sq sum) := by
  unfold endB
  rw [Bool.eq_iff_iff, decide_eq_true_eq, decide_eq_true_eq, Int.toNat_natCast]
  constructor
  · exact fun h => h.2.2
  · exact fun h => ⟨by omega, by omega, h⟩
theorem same_last (l : List UInt8) (sq sum : Nat) : sameB l (lastL sq sum) = decide (l = lastL sq sum) := by
  unfold sameB
  rw [Bool.eq_iff_iff, decide_eq_true_eq, decide_eq_true_eq]
  constructor
  · exact fun h => h.2
  · intro h; exact ⟨by rw [h]; exact lastL_len _ _, h⟩
set_option maxRecDepth 100000 in
theorem end_any {w : World} {B : Nat} {v : Value} {l : List UInt8} (hv : Byt w B v l) (seq len : Int) (sum : Nat) (hsum : sum < 4294967296) : Calls Try.prog 56 #[v, headV seq len sum] w fun e w' => e = .returned (.bool (endB l seq sum)) ∧ Below w.heap.size w w' := by
  have hb0 := fun o => (Below.refl w.heap.size w).alloc (Nat.le_refl _) o
  have HB := Lib.hid hb0
  have HV := Lib.hid hv.heap
  clear hb0 hv
  unfold headV
  by_cases h1 : seq < 1
  · rw [endB_no (.inl h1)]
    go_enter Try.func56, Try.ntmps56
    go_wp2
    go_ret
    exact ⟨rfl, HB.out _⟩
  by_cases h2 : 4611686018427387904 < seq
  · rw [endB_no (.inr h2)]
    have e1 : decide (1 ≤ seq) = true := decide_eq_true (by omega)
    go_enter Try.func56, Try.ntmps56
    go_wp2
    go_ret
    exact ⟨rfl, HB.out _⟩
  obtain ⟨sq, rfl⟩ : ∃ k : Nat, seq = (k : Int) := ⟨seq.toNat, by omega⟩
  rw [endB_yes (by omega) (by omega)]
  have hla := fun w => last_any sq sum (by omega) hsum len w
  unfold headV at hla
  have HLA := Lib.hid hla
  clear hla
  go_enter Try.func56, Try.ntmps56
  go_wp2_with (first
    | (go_at_call 98; (with_reducible refine (HLA.out _).mono ?_); rintro e w1 ⟨v1, rfl, ho1, hb1⟩
       have hbb := (HB.out _).trans (hb1.mono (by simp))
       have hsa := tsame_any (HV.out.below hbb) ho1.byt)
    | (go_at_call 104; (with_reducible refine hsa.mono ?_); rintro e w2 ⟨rfl, hb2⟩))
  go_ret
  exact ⟨ret_bool (same_last l sq sum), hbb.trans (hb2.mono hbb.size)⟩
set_option maxRecDepth 100000 in
set_option maxHeartbeats 2000000 in
theorem rend_any {w : World} {B : Nat} {v : Value} {l : List UInt8} (hv : Byt w B v l) (seq len : Int) (sum : Nat) (hsum : sum < 4294967296) : Calls Try.prog 58 #[v, headV seq len sum] w fun e w' => e = .returned (.bool (endB l seq sum)) ∧ Below w.heap.size w w' := by
  have hb0 := fun o => (Below.refl w.heap.size w).alloc (Nat.le_refl _) o
  have HB := Lib.hid hb0
  have HV := Lib.hid hv.heap
  clear hb0 hv
  unfold headV
  by_cases h1 : seq < 1
  · rw [endB_no (.inl h1)]
    have e1 : decide (1 ≤ seq) = false := decide_eq_false (by omega)
    go_enter Try.func58, Try.ntmps58
    go_wp2
    go_quiet (fail)
    go_wp2
    go_ret
    exact ⟨rfl, (HB.out _).trans ⟨rfl, rfl, rfl, Nat.le_refl _, fun _ _ => rfl⟩⟩
  have e1 : decide (1 ≤ seq) = true := decide_eq_true (by omega)
  by_cases h2 : 4611686018427387904 < seq
  · rw [endB_no (.inr h2)]
    have e2 : decide (seq ≤ 4611686018427387904) = false := decide_eq_false (by omega)
    go_enter Try.func58, Try.ntmps58
    go_wp2
    go_quiet (fail)
    go_wp2
    go_ret
    exact ⟨rfl, (HB.out _).trans ⟨rfl, rfl, rfl, Nat.le_refl _, fun _ _ => rfl⟩⟩
  · obtain ⟨sq, rfl⟩ : ∃ k : Nat, seq = (k : Int) := ⟨seq.toNat, by omega⟩
    rw [endB_yes (by omega) (by omega)]
    clear e1
    have k1 : decide ((1 : Int) ≤ (sq : Int)) = true := decide_eq_true (by omega)
    have k2 : decide ((sq : Int) ≤ 4611686018427387904) = true := decide_eq_true (by omega)
    have hla := fun w => rlast_any sq sum (by omega) hsum len w
    unfold headV at hla
    have HLA := Lib.hid hla
    have HB0 := Lib.hid (HB.out (.cells #[.int .i64 (sq : Int), .int .i64 len, .int .u32 (sum : Int)] 81))
    have hbx := fun (W : World) (hW : Below (w.alloc (.cells #[.int .i64 (sq : Int), .int .i64 len, .int .u32 (sum : Int)] 81)).drew.heap.size (w.alloc (.cells #[.int .i64 (sq : Int), .int .i64 len, .int .u32 (sum : Int)] 81)).drew W) => (show W.cell? ⟨w.heap.size, 0, none⟩ = some (.int .i64 (sq : Int)) ∧ W.cell? ⟨w.heap.size, 1, none⟩ = some (.int .i64 len) ∧ W.cell? ⟨w.heap.size, 2, none⟩ = some (.int .u32 (sum : Int)) from by
      have hh := (hW.block w.heap.size (by show w.heap.size < (w.alloc _).heap.size; simp)).trans (heap_alloc_new w _)
      exact ⟨cells_of hh 0 _ rfl, cells_of hh 1 _ rfl, cells_of hh 2 _ rfl⟩)
    have HBX := Lib.hid hbx
    clear hla hbx h1 h2
    go_enter Try.func58, Try.ntmps58
    go_wp2
    -- region 2
    refine wp_region_sp (by kernel_rfl) [isS (.pointer (some ⟨w.heap.size, 0, none⟩)), isS (.int .i64 (sq : Int)), isS (.bool true), isS (.bool true), isS (.pointer (some ⟨w.heap.size, 0, none⟩)), isS (.int .i64 (sq : Int)), isS (.bool true), isS (.bool true), isS (.bool true), isS v, isS (.string (bsA l)), isS (.agg #[.int .i64 (sq : Int), .int .i64 len, .int .u32 (sum : Int)]), bytS (lastL sq sum), isS (.string (bsA (lastL sq sum))), isS (.bool (bsA l == bsA (lastL sq sum))), isS (.bool (bsA l == bsA (lastL sq sum))), isS (.bool (bsA l == bsA (lastL sq sum)))] (by kernel_rfl) (by kernel_rfl) (fun i hi => ?_) (fun a w5 hc hs => ?_)
    · match i, hi with
      | 0, _ =>
        intro a W hc hd
        have z3 := hc.same 3 (by kernel_rfl)
        simp only [List.getElem?_toArray, List.getElem?_cons_succ, List.getElem?_cons_zero, Option.getD_some] at z3
        refine obl_val rfl (wanted_none rfl) ?_ rfl
        go_simp
      | 1, _ =>
        intro a W hc hd
        have s0 : a.tmps[5]?.getD undef = (.pointer (some ⟨w.heap.size, 0, none⟩)) := hd 0 (by kernel_rfl)
        obtain ⟨q0, q1, q2⟩ := HBX.out W hc.below
        refine obl_val rfl (wanted_none rfl) ?_ rfl
        go_simp
      | 2, _ =>
        intro a W hc hd
        have s1 : a.tmps[6]?.getD undef = (.int .i64 (sq : Int)) := hd 1 (by kernel_rfl)
        refine obl_val rfl (wanted_none rfl) ?_ rfl
        go_simp
      | 3, _ =>
        intro a W hc hd
        have s2 : a.tmps[7]?.getD undef = (.bool true) := hd 2 (by kernel_rfl)
        refine obl_val rfl (wanted_none rfl) ?_ rfl
        go_simp
      | 4, _ =>
        intro a W hc hd
        have z3 := hc.same 3 (by kernel_rfl)
        have s3 : a.tmps[8]?.getD undef = (.bool true) := hd 3 (by kernel_rfl)
        simp only [List.getElem?_toArray, List.getElem?_cons_succ, List.getElem?_cons_zero, Option.getD_some] at z3
        refine obl_val rfl (wanted_some rfl rfl s3) ?_ rfl
        go_simp
      | 5, _ =>
        intro a W hc hd
        have s4 : a.tmps[9]?.getD undef = (.pointer (some ⟨w.heap.size, 0, none⟩)) := hd 4 (by kernel_rfl)
        have s3 : a.tmps[8]?.getD undef = (.bool true) := hd 3 (by kernel_rfl)
        obtain ⟨q0, q1, q2⟩ := HBX.out W hc.below
        refine obl_val rfl (wanted_some rfl rfl s3) ?_ rfl
        go_simp
      | 6, _ =>
        intro a W hc hd
        have s5 : a.tmps[10]?.getD undef = (.int .i64 (sq : Int)) := hd 5 (by kernel_rfl)
        have s3 : a.tmps[8]?.getD undef = (.bool true) := hd 3 (by kernel_rfl)
        refine obl_val rfl (wanted_some rfl rfl s3) ?_ rfl
        go_simp
      | 7, _ =>
        intro a W hc hd
        have s3 : a.tmps[8]?.getD undef = (.bool true) := hd 3 (by kernel_rfl)
        have s6 : a.tmps[11]?.getD undef = (.bool true) := hd 6 (by kernel_rfl)
        refine obl_val rfl (wanted_none rfl) ?_ rfl
        go_simp
      | 8, _ =>
        intro a W hc hd
        have s7 : a.tmps[12]?.getD undef = (.bool true) := hd 7 (by kernel_rfl)
        refine obl_val rfl (wanted_none rfl) ?_ rfl
        go_simp
      | 9, _ =>
        intro a W hc hd
        have z0 := hc.same 0 (by kernel_rfl)
        have s8 : a.tmps[13]?.getD undef = (.bool true) := hd 8 (by kernel_rfl)
        simp only [List.getElem?_toArray, List.getElem?_cons_zero, Option.getD_some] at z0
        refine obl_val rfl (wanted_some rfl rfl s8) ?_ rfl
        go_simp
      | 10, _ =>
        intro a W hc hd
        have s9 : a.tmps[14]?.getD undef = v := hd 9 (by kernel_rfl)
        have s8 : a.tmps[13]?.getD undef = (.bool true) := hd 8 (by kernel_rfl)
        have e := (HV.out.below (HB0.out.drew.trans (hc.below.mono (by simp)))).strA
        refine obl_val rfl (wanted_some rfl rfl s8) ?_ rfl
        go_simp
      | 11, _ =>
        intro a W hc hd
        have z3 := hc.same 3 (by kernel_rfl)
        have s8 : a.tmps[13]?.getD undef = (.bool true) := hd 8 (by kernel_rfl)
        simp only [List.getElem?_toArray, List.getElem?_cons_succ, List.getElem?_cons_zero, Option.getD_some] at z3
        obtain ⟨q0, q1, q2⟩ := HBX.out W hc.below
        refine obl_val rfl (wanted_some rfl rfl s8) ?_ rfl
        go_simp
      | 12, _ =>
        intro a W hc hd
        have s11 : a.tmps[16]?.getD undef = (.agg #[.int .i64 (sq : Int), .int .i64 len, .int .u32 (sum : Int)]) := hd 11 (by kernel_rfl)
        have s8 : a.tmps[13]?.getD undef = (.bool true) := hd 8 (by kernel_rfl)
        refine obl_call rfl (wanted_some rfl rfl s8) (by go_simp) (HLA.out W) ?_
        rintro e w8 ⟨v8, rfl, ho8, hb8⟩
        exact ⟨_, rfl, ho8.byt, hb8⟩
      | 13, _ =>
        intro a W hc hd
        have s12 : (bytS (lastL sq sum)).f (a.tmps[17]?.getD undef) W := hd 12 (by kernel_rfl)
        have s8 : a.tmps[13]?.getD undef = (.bool true) := hd 8 (by kernel_rfl)
        have e := (show Byt W W.heap.size _ _ from s12).strA
        refine obl_val rfl (wanted_some rfl rfl s8) ?_ rfl
        go_simp
      | 14, _ =>
        intro a W hc hd
        have s10 : a.tmps[15]?.getD undef = (.string (bsA l)) := hd 10 (by kernel_rfl)
        have s13 : a.tmps[18]?.getD undef = (.string (bsA (lastL sq sum))) := hd 13 (by kernel_rfl)
        have s8 : a.tmps[13]?.getD undef = (.bool true) := hd 8 (by kernel_rfl)
        refine obl_val rfl (wanted_some rfl rfl s8) ?_ rfl
        exact exec_eqstr rfl (eval_tmp s10) (eval_tmp s13)
      | 15, _ =>
        intro a W hc hd
        have s8 : a.tmps[13]?.getD undef = (.bool true) := hd 8 (by kernel_rfl)
        have s14 : a.tmps[19]?.getD undef = (.bool (bsA l == bsA (lastL sq sum))) := hd 14 (by kernel_rfl)
        refine obl_val rfl (wanted_none rfl) ?_ rfl
        go_simp
      | 16, _ =>
        intro a W hc hd
        have s15 : a.tmps[20]?.getD undef = (.bool (bsA l == bsA (lastL sq sum))) := hd 15 (by kernel_rfl)
        refine obl_val rfl (wanted_none rfl) ?_ rfl
        go_simp
      | n + 17, h => exact absurd h (by simp)
    -- end 2
    · have h0 : a.tmps[4]?.getD undef = .bool (bsA l == bsA (lastL sq sum)) := hs 16 4 (by decide) (by kernel_rfl)
      have hdf : a.defers = [] := hc.defers
      have hB : Below w.heap.size w w5 := HB0.out.drew.trans (hc.below.mono HB0.out.size)
      clear hs hc
      go_wp2
      refine bodyPost_ret (results_tmp rfl _ _ _) hdf ⟨?_, hB⟩
      rw [Array.getD_eq_getD_getElem?, h0, bsA_beq]
end Go.Proofs.Ytmcjefdnkcpghaa
/- THE WALKS OF tape.Begin AND THE DOCUMENT'S. -/
namespace Go.Proofs.Ytmcjefdnkcpghaa
open Go.RowKit
def numL (l : List UInt8) : Nat := l.foldl (fun a b => a * 256 + b.toNat) 0
theorem numL_snoc (l : List UInt8) (b : UInt8) : numL (l ++ [b]) = numL l * 256 + b.toNat := by
  unfold numL; rw [List.foldl_append]; rfl
theorem numL_lt (l : List UInt8) : numL l < 256 ^ l.length := by
  have := want_lt l l.length
  rw [List.take_length] at this
  exact this
theorem ofInt_u64 (a : Nat) (ha : a < 18446744073709551616) : (BitVec.ofInt 64 (a : Int)).toNat = a := by
  rw [BitVec.ofInt_natCast, BitVec.toNat_ofNat]; exact Nat.mod_eq_of_lt (by omega)
theorem or64 (a b : Nat) (ha : a < 18446744073709551616) (hb : b < 18446744073709551616) : bits .or .u64 (a : Int) (b : Int) = ((a ||| b : Nat) : Int) := by
  have hx : a ||| b < 2 ^ 64 := Nat.or_lt_two_pow (by omega) (by omega)
  show IntKind.u64.wrap ((BitVec.ofInt 64 (a : Int) ||| BitVec.ofInt 64 (b : Int)).toNat : Int) = _
  rw [BitVec.toNat_or, ofInt_u64 a ha, ofInt_u64 b hb, IntKind.wrap_u64]
  omega
theorem or_next (n b : Nat) (hn : n < 72057594037927936) (hb : b < 256) : bits .or .u64 (IntKind.u64.wrap ((n : Int) * 256)) (b : Int) = ((n * 256 + b : Nat) : Int) := by
  have e : IntKind.u64.wrap ((n : Int) * 256) = ((n * 256 : Nat) : Int) := by
    rw [IntKind.wrap_u64]; omega
  rw [e, or64 _ _ (by omega) (by omega)]
  congr 1
  have := (Nat.two_pow_add_eq_or_of_lt (i := 8) (b := b) (by omega) n).symm
  rw [show 2 ^ 8 * n = n * 256 by omega] at this
  exact this
theorem drop_take_snoc (l : List UInt8) (a k : Nat) (h : a + k < l.length) : (l.drop a).take (k + 1) = (l.drop a).take k ++ [l[a + k]] := by
  rw [List.take_succ_eq_append_getElem (by rw [List.length_drop]; omega), List.getElem_drop]
set_option maxRecDepth 100000 in
theorem next_any {w : World} {bp ba a many : Nat} {ad : Addr} {c : Nat} {l : List UInt8} (hp : w.heap[bp]? = some (.cells #[.slice (some ad) l.length c] 23 (0, 0))) (hv : Byt w w.heap.size (.slice (some ad) l.length c) l) (ha : w.heap[ba]? = some (.cells #[.int .i64 (a : Int)] 3 (0, 0)))
    (hm : many ≤ 8) (hl : a + many ≤ l.length) (hl2 : l.length ≤ 64) (hkind : ad.block ≠ ba) :
    Calls Try.prog 103 #[.int .i64 (many : Int), .pointer (some ⟨bp, 0, none⟩), .pointer (some ⟨ba, 0, none⟩)] w fun e w' => e = .returned (.int .u64 (numL ((l.drop a).take many) : Int)) ∧ w'.heap[ba]? = some (.cells #[.int .i64 ((a + many : Nat) : Int)] 3 (0, 0)) ∧ Kept (fun b => b ≠ ba) w w' := by
  have hne : bp ≠ ba := kind_ne hp ha (by decide)
  go_enter Try.func103, Try.ntmps103
  go_wp2
  go_loopg [4, 6] many (fun gk x4 x6 wr => ∃ k : Nat, gk = many - k ∧ k ≤ many ∧ x6 = .int .i64 (k : Int) ∧ x4 = .int .u64 (numL ((l.drop a).take k) : Int) ∧ wr.heap[ba]? = some (.cells #[.int .i64 ((a + k : Nat) : Int)] 3 (0, 0)) ∧ Kept (fun b => b ≠ ba) w wr)
  case atStart => exact ⟨0, rfl, Nat.zero_le _, rfl, rfl, ha, Kept.refl _ _⟩
  case round =>
    obtain ⟨k, hgk, hk, rfl, rfl, hat, hkp⟩ := hrel
    have HG := Lib.hid hgk
    have hpr := hkp.heap hp hne
    have p0 := cells_of hpr 0 _ rfl
    have a0 := cells_of hat 0 _ rfl
    have af := free_of hat 0
    clear hgk
    by_cases h : k < many
    · have hx : l[a + k]? = some l[a + k] := List.getElem?_eq_getElem (by omega)
      obtain ⟨A', c', hv', hc, hmx, hr⟩ := id hv
      cases hv'
      obtain ⟨ad', e, hb, hcell⟩ := hr (by omega)
      cases e
      have hcx : wr.cell? (ad.add (a + k)) = some (bV l[a + k]) := (hkp.cell (p := ad.add (a + k)) (by rw [addr_add_block]; exact hb) (by rw [addr_add_block]; exact hkind)).trans (hcell _ _ hx)
      unfold bV at hcx
      generalize hxv : l[a + k] = x at *
      have hxb := x.toNat_lt
      generalize hnv : numL ((l.drop a).take k) = nv at *
      unfold maxLen at hmx
      have HXV := Lib.hid hxv
      have HNV := Lib.hid hnv
      have HAT := Lib.hid hat
      clear hx hr hcell hv hp ha hpr hat hxv hnv
      go_wp2
      go_roundg (many - (k + 1))
      case measure => have := HG.out; omega
      case rel =>
        have hnl : nv < 72057594037927936 := by
          have h1 := numL_lt ((l.drop a).take k)
          rw [HNV.out, List.length_take, List.length_drop] at h1
          exact Nat.lt_of_lt_of_le h1 (Nat.le_trans (Nat.pow_le_pow_right (by decide) (show min k (l.length - a) ≤ 7 by omega)) (by decide))
        refine ⟨k + 1, rfl, by omega, by go_num, ?_, ?_, hkp.setCell _ _ (fun _ h => h rfl)⟩
        · rw [drop_take_snoc l a k (by omega), numL_snoc, HNV.out, HXV.out, or_next nv x.toNat hnl x.toNat_lt]
        · have := Lib.heap_setCell_same (i := 0) HAT.out (.int .i64 ((a : Int) + (k : Int) + 1))
          rw [show ((a + (k + 1) : Nat) : Int) = (a : Int) + (k : Int) + 1 by omega]
          simpa using this
    · obtain rfl : many = k := by omega
      have HAT := Lib.hid hat
      clear hat hp hpr hv ha
      go_wp2
      go_ret
      exact ⟨rfl, HAT.out, hkp⟩
def hdS (l : List UInt8) : Nat := numL ((l.drop 5).take 8)
def hdL (l : List UInt8) : Nat := numL ((l.drop 13).take 4)
def hdC (l : List UInt8) : Nat := numL ((l.drop 17).take 4)
theorem hdL_lt (l : List UInt8) : hdL l < 4294967296 := by
  have h1 := numL_lt ((l.drop 13).take 4)
  exact Nat.lt_of_lt_of_le h1 (Nat.le_trans (Nat.pow_le_pow_right (by decide) (List.length_take_le _ _)) (by decide))
theorem hdC_lt (l : List UInt8) : hdC l < 4294967296 := by
  have h1 := numL_lt ((l.drop 17).take 4)
  exact Nat.lt_of_lt_of_le h1 (Nat.le_trans (Nat.pow_le_pow_right (by decide) (List.length_take_le _ _)) (by decide))
theorem wrap64_eq (n : Nat) (h : n < 9223372036854775808) : wrap64 (n : Int) = (n : Int) := IntWalk.wrap64_in _ ⟨by omega, by omega⟩
theorem wrap64_neg (n : Nat) (h1 : 9223372036854775808 ≤ n) (h2 : n < 18446744073709551616) : wrap64 (n : Int) = (n : Int) - 18446744073709551616 := by
  unfold wrap64; omega
theorem rightB_wrap (n : Nat) (m : Int) (h : n < 18446744073709551616) : rightB (wrap64 (n : Int)) m = rightB (n : Int) m := by
  by_cases h1 : n < 9223372036854775808
  · rw [wrap64_eq n h1]
  · rw [wrap64_neg n (by omega) h]
    unfold rightB
    rw [Bool.eq_iff_iff, decide_eq_true_eq, decide_eq_true_eq]
    constructor <;> (rintro ⟨a, b, _⟩; omega)
theorem hdS_lt (l : List UInt8) : hdS l < 18446744073709551616 := by
  have h1 := numL_lt ((l.drop 5).take 8)
  exact Nat.lt_of_lt_of_le h1 (Nat.le_trans (Nat.pow_le_pow_right (by decide) (List.length_take_le _ _)) (by decide))
theorem wanted_not {ops : Array Oper} {o : Oper} {a : Act} {g : Nat} {b : Bool} {d : Nat} (h : o.guard = some (g, b)) (hd : dstOf ops g = some d) (hv : a.tmps[d]?.getD undef = .bool (!b)) : Region.wanted o (yielded ops a.tmps) = false := by
  unfold Region.wanted
  rw [h]
  have : yielded ops a.tmps g = some (!b) := by
    unfold yielded
    unfold dstOf at hd
    rw [hd]
    cases hx : a.tmps[d]? with
    | none => rw [hx] at hv; cases hv
    | some x =>
      rw [hx] at hv
      simp only [Option.getD_some] at hv
      subst hv
      simp [hx]
  simp [this]
/-- the head that a sector is -/
def beginB (l : List UInt8) : Bool := decide (l.length = 64) && rightB (hdS l : Int) (hdL l) && decide (l = firstL (hdS l) (hdL l) (hdC l))
def beginV (l : List UInt8) : Value := if beginB l then headV (hdS l) (hdL l) (hdC l) else headV 0 0 0
def BeginPost (w : World) (l : List UInt8) (e : Ending) (w' : World) : Prop := e = .returned (.tuple #[beginV l, .bool (beginB l)]) ∧ Below w.heap.size w w'
set_option maxRecDepth 100000 in
set_option maxHeartbeats 4000000 in
theorem begin_any {w : World} {B : Nat} {v : Value} {l : List UInt8} (hv : Byt w B v l) : Calls Try.prog 55 #[v] w (BeginPost w l) := by
  obtain ⟨A, c, rfl, hc, hm, hr⟩ := id hv
  unfold maxLen at hm
  have HV := Lib.hid hv.heap
  clear hv
  have hb1 := (((Below.refl w.heap.size w).alloc (Nat.le_refl _) (.cells #[.slice A l.length c] 23)).alloc (by simp) (.cells #[.int .i64 0, .int .i64 0, .int .u32 0] 77))
  by_cases h64 : l.length = 64
  · have e1 : ((l.length : Int) == 64) = true := by rw [beq_iff_eq]; omega
    have e2 : ((l.length : Int) != 64) = false := by simp; omega
    obtain ⟨ad, rfl, had, _⟩ := hr (by omega)
    have hadw : ad.block < w.heap.size := by
      obtain ⟨A', c', hv', _, _, hr'⟩ := HV.out
      obtain ⟨ad', e, hb, _⟩ := hr' (by omega)
      cases hv'; cases e; exact hb
    clear hr had
    obtain ⟨WA, hWA⟩ : ∃ WA, WA = ((w.alloc (.cells #[.slice (some ad) l.length c] 23)).alloc (.cells #[.int .i64 0, .int .i64 0, .int .u32 0] 77)).alloc (.cells #[.int .i64 5] 3) := ⟨_, rfl⟩
    have hp : WA.heap[w.heap.size]? = some (.cells #[.slice (some ad) l.length c] 23 (0, 0)) := by
      rw [hWA, Below.heap_alloc _ _ _ (by simp <;> omega), Below.heap_alloc _ _ _ (by simp)]; exact heap_alloc_new w _
    have hr2 : WA.heap[w.heap.size + 1]? = some (.cells #[.int .i64 0, .int .i64 0, .int .u32 0] 77 (0, 0)) := by
      rw [hWA, Below.heap_alloc _ _ _ (by simp)]
      have := heap_alloc_new (w.alloc (.cells #[.slice (some ad) l.length c] 23)) (.cells #[.int .i64 0, .int .i64 0, .int .u32 0] 77 (0, 0))
      simpa using this
    have ha : WA.heap[w.heap.size + 1 + 1]? = some (.cells #[.int .i64 ((5 : Nat) : Int)] 3 (0, 0)) := by
      have := heap_alloc_new ((w.alloc (.cells #[.slice (some ad) l.length c] 23)).alloc (.cells #[.int .i64 0, .int .i64 0, .int .u32 0] 77)) (.cells #[.int .i64 5] 3 (0, 0))
      rw [hWA]; simpa using this
    have hbA : Below w.heap.size w WA := by rw [hWA]; exact hb1.alloc hb1.size _
    have hvA := (HV.out.below hbA).heap
    have hn1 := next_any hp hvA ha (show 8 ≤ 8 by omega) (by omega) (by omega) (by omega)
    rw [hWA] at hn1
    have HP := Lib.hid hp
    have HR2 := Lib.hid hr2
    have HA := Lib.hid ha
    have HBA := Lib.hid hbA
    have h64a : 64 ≤ l.length := by omega
    have h64b : l.length ≤ 64 := by omega
    have H64 := Lib.hid h64
    clear hp hr2 ha hbA hvA hb1 h64
    go_enter Try.func55, Try.ntmps55
    go_wp2_with fail
    refine hn1.mono ?_
    rintro e w1 ⟨rfl, ha1, hk1⟩
    rw [← hWA] at hk1
    have hp1 := hk1.heap HP.out (by omega)
    have hb01 := HBA.out.trans (hk1.toBelow (B := w.heap.size) HBA.out.size (fun b hb e => by omega))
    have hn2 := next_any hp1 (HV.out.below hb01).heap ha1 (show 4 ≤ 8 by omega) (by omega) (by omega) (by omega)
    go_wp2_with fail
    refine hn2.mono ?_
    rintro e w2 ⟨rfl, ha2, hk2⟩
    have hp2 := hk2.heap hp1 (by omega)
    have hb02 := hb01.trans (hk2.toBelow (B := w.heap.size) hb01.size (fun b hb e => by omega))
    have hn3 := next_any hp2 (HV.out.below hb02).heap ha2 (show 4 ≤ 8 by omega) (by omega) (by omega) (by omega)
    go_wp2_with fail
    refine hn3.mono ?_
    rintro e w3 ⟨rfl, ha3, hk3⟩
    have hp3 := hk3.heap hp2 (by omega)
    have hb03 := hb02.trans (hk3.toBelow (B := w.heap.size) hb02.size (fun b hb e => by omega))
    have hr3 := hk3.heap (hk2.heap (hk1.heap HR2.out (by omega)) (by omega)) (by omega)
    go_wp2
    have f1 : wrap64 (numL ((l.drop 13).take 4) : Int) = (hdL l : Int) := wrap64_eq _ (by have := hdL_lt l; unfold hdL at this; omega)
    have f2 : (numL ((l.drop 17).take 4) : Int) % 4294967296 = (hdC l : Int) := by have := hdC_lt l; unfold hdC at this ⊢; omega
    simp only [f1, f2]
    have f3 := rightB_wrap (hdS l) (hdL l) (hdS_lt l)
    have f4 : rightB (wrap64 (hdS l : Int)) (hdL l) = true → wrap64 (hdS l : Int) = (hdS l : Int) := fun h => by
      have h1 := (rightB_yes h).1
      by_cases h2 : hdS l < 9223372036854775808
      · exact wrap64_eq _ h2
      · rw [wrap64_neg _ (by omega) (hdS_lt l)] at h1; have := hdS_lt l; omega
    change rightB (wrap64 (numL ((l.drop 5).take 8) : Int)) (hdL l) = _ at f3
    change rightB (wrap64 (numL ((l.drop 5).take 8) : Int)) (hdL l) = true → wrap64 (numL ((l.drop 5).take 8) : Int) = _ at f4
    generalize wrap64 (numL ((l.drop 5).take 8) : Int) = sq at *
    have hs3 : w.heap.size + 1 + 1 < w3.heap.size := lt_of_block ha3
    have hb04 := hb03.alloc hb03.size (.cells #[.int .i64 sq, .int .i64 (hdL l : Int), .int .u32 (hdC l : Int)] 77)
    have hx6 := heap_alloc_new w3 (.cells #[.int .i64 sq, .int .i64 (hdL l : Int), .int .u32 (hdC l : Int)] 77 (0, 0))
    have hp6 := (Below.heap_alloc w3 (.cells #[.int .i64 sq, .int .i64 (hdL l : Int), .int .u32 (hdC l : Int)] 77) _ (lt_of_block hp3)).trans hp3
    have hr6 := (Below.heap_alloc w3 (.cells #[.int .i64 sq, .int .i64 (hdL l : Int), .int .u32 (hdC l : Int)] 77) _ (lt_of_block hr3)).trans hr3
    have hri := right_any sq (hdL l) (hdC l)
    unfold headV at hri
    have HV6 := Lib.hid (HV.out.below hb04).heap.drew
    clear hp1 hp2 hp3 hr3 ha1 ha2 ha3 hk1 hk2 hk3 hn1 hn2 hn3 hWA hb01 hb02 f1 f2 HP HR2 HA HBA
    generalize hW6 : w3.alloc (.cells #[.int .i64 sq, .int .i64 (hdL l : Int), .int .u32 (hdC l : Int)] 77) = W6 at *
    generalize hb6 : w3.heap.size = b6 at *
    clear hW6
    have hbx := fun (W : World) (hW : Below W6.drew.heap.size W6.drew W) => (show (W.cell? ⟨b6, 0, none⟩ = some (.int .i64 sq) ∧ W.cell? ⟨b6, 1, none⟩ = some (.int .i64 (hdL l : Int)) ∧ W.cell? ⟨b6, 2, none⟩ = some (.int .u32 (hdC l : Int))) ∧ W.cell? ⟨w.heap.size, 0, none⟩ = some (.slice (some ad) l.length c) ∧ W.heap[w.heap.size + 1]? = some (.cells #[.int .i64 0, .int .i64 0, .int .u32 0] 77 (0, 0)) ∧ Below w.heap.size w W from by
      have h6 := (hW.block b6 (lt_of_block hx6)).trans hx6
      have hp := (hW.block w.heap.size (lt_of_block hp6)).trans hp6
      have hr := (hW.block (w.heap.size + 1) (lt_of_block hr6)).trans hr6
      exact ⟨⟨cells_of h6 0 _ rfl, cells_of h6 1 _ rfl, cells_of h6 2 _ rfl⟩, cells_of hp 0 _ rfl, hr, hb04.trans (((Below.refl W6.heap.size W6).drew.trans hW).mono hb04.size)⟩)
    have HBX := Lib.hid hbx
    have HRI := Lib.hid hri
    clear hbx hri hx6 hp6 hr6 hb04 hb03 hb6
    cases hrb : rightB sq (hdL l) with
    | false =>
      have hbb : beginB l = false := by unfold beginB; rw [← f3, hrb]; simp
      rw [hrb] at HRI
      have HBB := Lib.hid hbb
      clear hrb hbb f3 f4
      -- region no
      refine wp_region_sp (by kernel_rfl) [isS (.agg #[.int .i64 sq, .int .i64 (hdL l : Int), .int .u32 (hdC l : Int)]), isS (.bool false), isS (.bool true), isS (.bool true), anyS, anyS, anyS, anyS, anyS, isS (.bool true)] (by kernel_rfl) (by kernel_rfl) (fun i hi => ?_) (fun a w5 hc hs => ?_)
      · match i, hi with
        | 0, _ =>
          intro a W hc hd
          have z6 := hc.same 6 (by kernel_rfl)
          simp only [List.getElem?_toArray, List.getElem?_cons_succ, List.getElem?_cons_zero, Option.getD_some] at z6
          obtain ⟨q0, q1, q2, q3⟩ := HBX.out W hc.below
          refine obl_val rfl (wanted_none rfl) ?_ rfl
          go_simp
        | 1, _ =>
          intro a W hc hd
          have s0 : a.tmps[22]?.getD undef = (.agg #[.int .i64 sq, .int .i64 (hdL l : Int), .int .u32 (hdC l : Int)]) := hd 0 (by kernel_rfl)
          refine obl_call rfl (wanted_none rfl) (by go_simp) (HRI.out W) ?_
          rintro e w8 ⟨rfl, hb8⟩
          exact ⟨_, rfl, rfl, hb8⟩
        | 2, _ =>
          intro a W hc hd
          have s1 : a.tmps[23]?.getD undef = (.bool false) := hd 1 (by kernel_rfl)
          refine obl_val rfl (wanted_none rfl) ?_ rfl
          go_simp
        | 3, _ =>
          intro a W hc hd
          have s2 : a.tmps[24]?.getD undef = (.bool true) := hd 2 (by kernel_rfl)
          refine obl_val rfl (wanted_none rfl) ?_ rfl
          go_simp
        | 4, _ =>
          intro a W hc hd
          have z1 := hc.same 1 (by kernel_rfl)
          have s3 : a.tmps[25]?.getD undef = (.bool true) := hd 3 (by kernel_rfl)
          simp only [List.getElem?_toArray, List.getElem?_cons_succ, List.getElem?_cons_zero, Option.getD_some] at z1
          refine obl_skip rfl (wanted_not rfl rfl s3) trivial
        | 5, _ =>
          intro a W hc hd
          have z6 := hc.same 6 (by kernel_rfl)
          have s3 : a.tmps[25]?.getD undef = (.bool true) := hd 3 (by kernel_rfl)
          simp only [List.getElem?_toArray, List.getElem?_cons_succ, List.getElem?_cons_zero, Option.getD_some] at z6
          refine obl_skip rfl (wanted_not rfl rfl s3) trivial
        | 6, _ =>
          intro a W hc hd
          have s5 : (anyS).f (a.tmps[27]?.getD undef) W := hd 5 (by kernel_rfl)
          have s3 : a.tmps[25]?.getD undef = (.bool true) := hd 3 (by kernel_rfl)
          refine obl_skip rfl (wanted_not rfl rfl s3) trivial
        | 7, _ =>
          intro a W hc hd
          have s4 : (anyS).f (a.tmps[26]?.getD undef) W := hd 4 (by kernel_rfl)
          have s6 : (anyS).f (a.tmps[28]?.getD undef) W := hd 6 (by kernel_rfl)
          have s3 : a.tmps[25]?.getD undef = (.bool true) := hd 3 (by kernel_rfl)
          refine obl_skip rfl (wanted_not rfl rfl s3) trivial
        | 8, _ =>
          intro a W hc hd
          have s7 : (anyS).f (a.tmps[29]?.getD undef) W := hd 7 (by kernel_rfl)
          have s3 : a.tmps[25]?.getD undef = (.bool true) := hd 3 (by kernel_rfl)
          refine obl_skip rfl (wanted_not rfl rfl s3) trivial
        | 9, _ =>
          intro a W hc hd
          have s3 : a.tmps[25]?.getD undef = (.bool true) := hd 3 (by kernel_rfl)
          have s8 : (anyS).f (a.tmps[30]?.getD undef) W := hd 8 (by kernel_rfl)
          refine obl_val rfl (wanted_none rfl) ?_ rfl
          go_simp
        | n + 10, h => exact absurd h (by simp)
      · skip
        have hfr := grow_frame hc [(22, (.agg #[.int .i64 sq, .int .i64 (hdL l : Int), .int .u32 (hdC l : Int)])), (23, (.bool false)), (24, (.bool true)), (25, (.bool true)), (26, a.tmps[26]?.getD undef), (27, a.tmps[27]?.getD undef), (28, a.tmps[28]?.getD undef), (29, a.tmps[29]?.getD undef), (30, a.tmps[30]?.getD undef), (31, (.bool true))] (by kernel_rfl) (fun p hp => by
            simp only [List.mem_cons, List.not_mem_nil, or_false] at hp
            rcases hp with rfl | rfl | rfl | rfl | rfl | rfl | rfl | rfl | rfl | rfl
            · exact hs 0 22 (by decide) (by kernel_rfl)
            · exact hs 1 23 (by decide) (by kernel_rfl)
            · exact hs 2 24 (by decide) (by kernel_rfl)
            · exact hs 3 25 (by decide) (by kernel_rfl)
            · rfl
            · rfl
            · rfl
            · rfl
            · rfl
            · exact hs 9 31 (by decide) (by kernel_rfl)
            )
        generalize a.tmps[26]?.getD undef = z26 at hfr
        generalize a.tmps[27]?.getD undef = z27 at hfr
        generalize a.tmps[28]?.getD undef = z28 at hfr
        generalize a.tmps[29]?.getD undef = z29 at hfr
        generalize a.tmps[30]?.getD undef = z30 at hfr
        simp only [List.range, List.range.loop, List.size_toArray, List.length_cons, List.length_nil, List.map_cons, List.map_nil, List.lookup_cons, List.lookup_nil, Nat.reduceAdd, Nat.reduceBEq, Option.getD_some, Option.getD_none, List.getElem?_toArray, List.getElem?_cons_succ, List.getElem?_cons_zero] at hfr
        subst hfr
      -- end no
        obtain ⟨_, _, q2, q3⟩ := HBX.out w5 hc.below
        have c0 := cells_of q2 0 _ rfl
        have c1 := cells_of q2 1 _ rfl
        have c2 := cells_of q2 2 _ rfl
        have g0 := free_of q2 0
        have g1 := free_of q2 1
        have g2 := free_of q2 2
        clear hs hc q2
        go_wp2
        refine bodyPost_ret (v := .tuple #[headV 0 0 0, .bool false]) (by simp [results, Try.results55, go_sem, headV, c0, c1, c2]) rfl ?_
        unfold BeginPost beginV
        rw [HBB.out, if_neg (by simp)]
        exact ⟨rfl, ((q3.setCell (by simp) _).setCell (by simp) _).setCell (by simp) _⟩
    | true =>
      have hsq := f4 hrb
      have hrr : rightB (hdS l : Int) (hdL l) = true := by rw [← f3]; exact hrb
      have hq := rightB_yes hrr
      have hfi := fun w => first_any (hdS l) (hdL l) (hdC l) (by omega) (by omega) (hdC_lt l) w
      have hbb : beginB l = sameB l (firstL (hdS l) (hdL l) (hdC l)) := by
        unfold beginB sameB
        rw [hrr, H64.out]
        simp
      rw [hrb] at HRI
      subst hsq
      unfold headV at hfi
      have HFI := Lib.hid hfi
      have HBB := Lib.hid hbb
      clear hrb hbb f3 f4 hrr hq hfi
      -- region yes
      refine wp_region_sp (by kernel_rfl) [isS (.agg #[.int .i64 (hdS l : Int), .int .i64 (hdL l : Int), .int .u32 (hdC l : Int)]), isS (.bool true), isS (.bool false), isS (.bool false), isS (.slice (some ad) l.length c), isS (.agg #[.int .i64 (hdS l : Int), .int .i64 (hdL l : Int), .int .u32 (hdC l : Int)]), bytS (firstL (hdS l) (hdL l) (hdC l)), isS (.bool (sameB l (firstL (hdS l) (hdL l) (hdC l)))), isS (.bool (!sameB l (firstL (hdS l) (hdL l) (hdC l)))), isS (.bool (!sameB l (firstL (hdS l) (hdL l) (hdC l))))] (by kernel_rfl) (by kernel_rfl) (fun i hi => ?_) (fun a w5 hc hs => ?_)
      · match i, hi with
        | 0, _ =>
          intro a W hc hd
          have z6 := hc.same 6 (by kernel_rfl)
          simp only [List.getElem?_toArray, List.getElem?_cons_succ, List.getElem?_cons_zero, Option.getD_some] at z6
          obtain ⟨q0, q1, q2, q3⟩ := HBX.out W hc.below
          refine obl_val rfl (wanted_none rfl) ?_ rfl
          go_simp
        | 1, _ =>
          intro a W hc hd
          have s0 : a.tmps[22]?.getD undef = (.agg #[.int .i64 (hdS l : Int), .int .i64 (hdL l : Int), .int .u32 (hdC l : Int)]) := hd 0 (by kernel_rfl)
          refine obl_call rfl (wanted_none rfl) (by go_simp) (HRI.out W) ?_
          rintro e w8 ⟨rfl, hb8⟩
          exact ⟨_, rfl, rfl, hb8⟩
        | 2, _ =>
          intro a W hc hd
          have s1 : a.tmps[23]?.getD undef = (.bool true) := hd 1 (by kernel_rfl)
          refine obl_val rfl (wanted_none rfl) ?_ rfl
          go_simp
        | 3, _ =>
          intro a W hc hd
          have s2 : a.tmps[24]?.getD undef = (.bool false) := hd 2 (by kernel_rfl)
          refine obl_val rfl (wanted_none rfl) ?_ rfl
          go_simp
        | 4, _ =>
          intro a W hc hd
          have z1 := hc.same 1 (by kernel_rfl)
          have s3 : a.tmps[25]?.getD undef = (.bool false) := hd 3 (by kernel_rfl)
          simp only [List.getElem?_toArray, List.getElem?_cons_succ, List.getElem?_cons_zero, Option.getD_some] at z1
          obtain ⟨q0, q1, q2, q3⟩ := HBX.out W hc.below
          refine obl_val rfl (wanted_some rfl rfl s3) ?_ rfl
          go_simp
        | 5, _ =>
          intro a W hc hd
          have z6 := hc.same 6 (by kernel_rfl)
          have s3 : a.tmps[25]?.getD undef = (.bool false) := hd 3 (by kernel_rfl)
          simp only [List.getElem?_toArray, List.getElem?_cons_succ, List.getElem?_cons_zero, Option.getD_some] at z6
          obtain ⟨q0, q1, q2, q3⟩ := HBX.out W hc.below
          refine obl_val rfl (wanted_some rfl rfl s3) ?_ rfl
          go_simp
        | 6, _ =>
          intro a W hc hd
          have s5 : a.tmps[27]?.getD undef = (.agg #[.int .i64 (hdS l : Int), .int .i64 (hdL l : Int), .int .u32 (hdC l : Int)]) := hd 5 (by kernel_rfl)
          have s3 : a.tmps[25]?.getD undef = (.bool false) := hd 3 (by kernel_rfl)
          refine obl_call rfl (wanted_some rfl rfl s3) (by go_simp) (HFI.out W) ?_
          rintro e w8 ⟨v8, rfl, ho8, hb8⟩
          exact ⟨_, rfl, ho8.byt, hb8⟩
        | 7, _ =>
          intro a W hc hd
          have s4 : a.tmps[26]?.getD undef = (.slice (some ad) l.length c) := hd 4 (by kernel_rfl)
          have s6 : (bytS (firstL (hdS l) (hdL l) (hdC l))).f (a.tmps[28]?.getD undef) W := hd 6 (by kernel_rfl)
          have s3 : a.tmps[25]?.getD undef = (.bool false) := hd 3 (by kernel_rfl)
          have e := tsame_any (HV6.out.below hc.below) (show Byt W W.heap.size _ _ from s6)
          refine obl_call rfl (wanted_some rfl rfl s3) (by go_simp) (e) ?_
          rintro e w8 ⟨rfl, hb8⟩
          exact ⟨_, rfl, rfl, hb8⟩
        | 8, _ =>
          intro a W hc hd
          have s7 : a.tmps[29]?.getD undef = (.bool (sameB l (firstL (hdS l) (hdL l) (hdC l)))) := hd 7 (by kernel_rfl)
          have s3 : a.tmps[25]?.getD undef = (.bool false) := hd 3 (by kernel_rfl)
          refine obl_val rfl (wanted_some rfl rfl s3) ?_ rfl
          go_simp
        | 9, _ =>
          intro a W hc hd
          have s3 : a.tmps[25]?.getD undef = (.bool false) := hd 3 (by kernel_rfl)
          have s8 : a.tmps[30]?.getD undef = (.bool (!sameB l (firstL (hdS l) (hdL l) (hdC l)))) := hd 8 (by kernel_rfl)
          refine obl_val rfl (wanted_none rfl) ?_ rfl
          go_simp
        | n + 10, h => exact absurd h (by simp)
      · skip
        have hfr := grow_frame hc [(22, (.agg #[.int .i64 (hdS l : Int), .int .i64 (hdL l : Int), .int .u32 (hdC l : Int)])), (23, (.bool true)), (24, (.bool false)), (25, (.bool false)), (26, (.slice (some ad) l.length c)), (27, (.agg #[.int .i64 (hdS l : Int), .int .i64 (hdL l : Int), .int .u32 (hdC l : Int)])), (28, a.tmps[28]?.getD undef), (29, (.bool (sameB l (firstL (hdS l) (hdL l) (hdC l))))), (30, (.bool (!sameB l (firstL (hdS l) (hdL l) (hdC l))))), (31, (.bool (!sameB l (firstL (hdS l) (hdL l) (hdC l)))))] (by kernel_rfl) (fun p hp => by
            simp only [List.mem_cons, List.not_mem_nil, or_false] at hp
            rcases hp with rfl | rfl | rfl | rfl | rfl | rfl | rfl | rfl | rfl | rfl
            · exact hs 0 22 (by decide) (by kernel_rfl)
            · exact hs 1 23 (by decide) (by kernel_rfl)
            · exact hs 2 24 (by decide) (by kernel_rfl)
            · exact hs 3 25 (by decide) (by kernel_rfl)
            · exact hs 4 26 (by decide) (by kernel_rfl)
            · exact hs 5 27 (by decide) (by kernel_rfl)
            · rfl
            · exact hs 7 29 (by decide) (by kernel_rfl)
            · exact hs 8 30 (by decide) (by kernel_rfl)
            · exact hs 9 31 (by decide) (by kernel_rfl)
            )
        generalize a.tmps[28]?.getD undef = z28 at hfr
        simp only [List.range, List.range.loop, List.size_toArray, List.length_cons, List.length_nil, List.map_cons, List.map_nil, List.lookup_cons, List.lookup_nil, Nat.reduceAdd, Nat.reduceBEq, Option.getD_some, Option.getD_none, List.getElem?_toArray, List.getElem?_cons_succ, List.getElem?_cons_zero] at hfr
        subst hfr
      -- end yes
        obtain ⟨⟨y0, y1, y2⟩, _, q2, q3⟩ := HBX.out w5 hc.below
        have c0 := cells_of q2 0 _ rfl
        have c1 := cells_of q2 1 _ rfl
        have c2 := cells_of q2 2 _ rfl
        have g0 := free_of q2 0
        have g1 := free_of q2 1
        have g2 := free_of q2 2
        clear hs hc q2
        generalize hsb : sameB l (firstL (hdS l) (hdL l) (hdC l)) = sb at *
        cases sb with
        | true =>
          clear hsb
          go_wp2
          refine bodyPost_ret (v := .tuple #[headV (hdS l) (hdL l) (hdC l), .bool true]) (by simp [results, Try.results55, go_sem, headV, c0, c1, c2]) rfl ?_
          unfold BeginPost beginV
          rw [HBB.out, if_pos rfl]
          exact ⟨rfl, ((q3.setCell (by simp) _).setCell (by simp) _).setCell (by simp) _⟩
        | false =>
          clear hsb
          go_wp2
          refine bodyPost_ret (v := .tuple #[headV 0 0 0, .bool false]) (by simp [results, Try.results55, go_sem, headV, c0, c1, c2]) rfl ?_
          unfold BeginPost beginV
          rw [HBB.out, if_neg (by simp)]
          exact ⟨rfl, ((q3.setCell (by simp) _).setCell (by simp) _).setCell (by simp) _⟩
  · have hbb : beginB l = false := by unfold beginB; simp [h64]
    unfold BeginPost beginV
    rw [hbb, if_neg (by simp)]
    have e1 : ((l.length : Int) == 64) = false := by rw [beq_eq_false_iff_ne]; omega
    have e2 : ((l.length : Int) != 64) = true := by simp; omega
    clear hbb hr h64
    go_enter Try.func55, Try.ntmps55
    go_wp2
    refine bodyPost_ret (v := .tuple #[headV 0 0 0, .bool false]) (by simp [results, Try.results55, go_sem, headV]) rfl ⟨rfl, ?_⟩
    exact hb1
end Go.Proofs.Ytmcjefdnkcpghaa
/- THE WALKS OF octroiref10.number, Begin. -/
namespace Go.Proofs.Ytmcjefdnkcpghaa
open Go.RowKit
theorem wrap_step (n b : Nat) : wrap64 (wrap64 ((n : Int) * 256) + (b : Int)) = wrap64 ((n * 256 + b : Nat) : Int) := by
  unfold wrap64; omega
set_option maxRecDepth 100000 in
theorem number_any {w : World} {B : Nat} {v : Value} {l : List UInt8} (hv : Byt w B v l) (hl : l.length ≤ 8) : Calls Try.prog 105 #[v] w fun e w' => e = .returned (.int .i64 (wrap64 (numL l))) ∧ w = w' := by
  obtain ⟨A, c, rfl, hc, hm, hr⟩ := hv
  unfold maxLen at hm
  go_enter Try.func105, Try.ntmps105
  go_wp2
  go_loopg [3, 4] l.length (fun gk x3 x4 wr => ∃ k : Nat, gk = l.length - k ∧ k ≤ l.length ∧ x4 = .int .i64 (k : Int) ∧ x3 = .int .i64 (wrap64 (numL (l.take k))) ∧ wr = w)
  case atStart => exact ⟨0, rfl, Nat.zero_le _, rfl, by rw [List.take_zero]; simp [numL, wrap64], rfl⟩
  case round =>
    obtain ⟨k, hgk, hk, rfl, rfl, rfl⟩ := hrel
    have HG := Lib.hid hgk
    clear hgk
    by_cases h : k < l.length
    · obtain ⟨ad, rfl, hb, hcell⟩ := hr (by omega)
      have hcx := hcell k _ (List.getElem?_eq_getElem h)
      unfold bV at hcx
      generalize hxv : l[k] = x at *
      have hxb := x.toNat_lt
      have hnl : numL (l.take k) < 72057594037927936 := by
        have h1 := numL_lt (l.take k)
        rw [List.length_take] at h1
        exact Nat.lt_of_lt_of_le h1 (Nat.le_trans (Nat.pow_le_pow_right (by decide) (show min k l.length ≤ 7 by omega)) (by decide))
      generalize hnv : numL (l.take k) = nv at *
      rw [wrap64_eq nv (by omega)]
      have HXV := Lib.hid hxv
      have HNV := Lib.hid hnv
      clear hr hcell hxv hnv
      go_wp2
      go_roundg (l.length - (k + 1))
      case measure => have := HG.out; omega
      case rel =>
        refine ⟨k + 1, rfl, by omega, by go_num, ?_, rfl⟩
        rw [List.take_succ_eq_append_getElem h, numL_snoc, HNV.out, HXV.out, wrap_step]
    · have e : l.take k = l := List.take_of_length_le (by omega)
      rw [e]
      clear e hr
      go_wp2
      go_ret
      exact ⟨rfl, rfl⟩
theorem exec_nestr {P : Program} {o : Oper} {ρ : Operand → Value} {w : World} {t t' : TypeId} {x y : Operand} {s u : ByteArray} (ho : o.op = .binOp .neq t x y t') (hx : ρ x = .string s) (hy : ρ y = .string u) : (execOp ρ o).run P w = .ok (.value (.bool (s != u))) w := by
  have hg : (eqGuard .neq t x y (.string s) (.string u)).run P w = .ok () w := by simp [eqGuard]
  have he : (binOp .neq t (.string s) (.string u)).run P w = .ok (.bool (s != u)) w := by
    simp [binOp, Op.stringOp, bne, beq_toListBytes]
  unfold execOp; simp only [ho, hx, hy, Sem.run_bind, hg, he, Result.andThen_ok, Sem.run_pure]
theorem exec_conv {P : Program} {o : Oper} {ρ : Operand → Value} {w : World} {t t' : TypeId} {x : Operand} {u : Value} (ho : o.op = .convert t t' x) (h : (convert t t' (ρ x)).run P w = .ok u w) : (execOp ρ o).run P w = .ok (.value u) w := by
  unfold execOp; simp only [ho]; simp [h]
theorem obl_grow {P : Program} {ops : Array Oper} {Q : Exit → Act → World → Prop} {sp : Nat → Value → World → Prop} {i : Nat} {o : Oper} {a : Act} {w w' : World} {v : Value} (ho : ops[i]? = some o) (hw : Region.wanted o (yielded ops a.tmps) = true) (hr : (execOp a.eval o).run P w = .ok (.value v) w') (hv : sp i v w') (hb : Below w.heap.size w w') :
    wpOp P ops Q i (fun a' w' => ∃ v, a' = a.put (dstOf ops i) v ∧ sp i v w' ∧ Below w.heap.size w w') a w := by
  unfold wpOp
  simp only [ho, hw, if_true]
  refine .inl ?_
  unfold Oper.wp
  rw [hr]
  exact ⟨v, by unfold dstOf; rw [ho]; rfl, hv, hb⟩
def ptr81 (base : Nat) : Sp := ⟨fun v w => ∃ g, v = .pointer (some ⟨g, 0, none⟩) ∧ base ≤ g ∧ w.heap[g]? = some (.cells #[.int .i64 0, .int .i64 0, .int .u32 0] 81 (0, 0)), fun v w w' h hb => by
  obtain ⟨g, h1, h2, h3⟩ := h
  exact ⟨g, h1, h2, (hb.block g (lt_of_block h3)).trans h3⟩⟩
set_option maxRecDepth 100000 in
set_option maxHeartbeats 4000000 in
theorem rbegin_any {w : World} {B : Nat} {v : Value} {l : List UInt8} (hv : Byt w B v l) : Calls Try.prog 57 #[v] w (BeginPost w l) := by
  obtain ⟨A, c, rfl, hc, hm, hr⟩ := id hv
  unfold maxLen at hm
  have HV := Lib.hid hv.heap
  clear hv
  have hb1 := (Below.refl w.heap.size w).alloc (Nat.le_refl _) (.cells #[.int .i64 0, .int .i64 0, .int .u32 0] 81)
  by_cases h64 : l.length = 64
  · have e1 : ((l.length : Int) == 64) = true := by rw [beq_iff_eq]; omega
    have e2 : ((l.length : Int) != 64) = false := by simp; omega
    obtain ⟨ad, rfl, had, _⟩ := hr (by omega)
    clear hr had
    have hr2 := heap_alloc_new w (.cells #[.int .i64 0, .int .i64 0, .int .u32 0] 81 (0, 0))
    have HV3 := Lib.hid (HV.out.below hb1).heap.drew
    have h64a : 64 ≤ l.length := by omega
    have h64b : l.length ≤ 64 := by omega
    have h64c : 64 ≤ c := by omega
    have h64d : (64 : Int) ≤ (c : Int) := by omega
    have H64 := Lib.hid h64
    have hLl := hdL_lt l
    have hCl := hdC_lt l
    obtain ⟨sq, hsq⟩ : ∃ sq, sq = wrap64 (hdS l : Int) := ⟨_, rfl⟩
    have hn1 : ∀ v W, Byt W W.heap.size v ((l.drop 5).take 8) → Calls Try.prog 105 #[v] W fun e w' => e = .returned (.int .i64 sq) ∧ W = w' := fun v W h => by
      have := number_any h (List.length_take_le _ _)
      rw [hsq]; exact this
    have hn2 : ∀ v W, Byt W W.heap.size v ((l.drop 13).take 4) → Calls Try.prog 105 #[v] W fun e w' => e = .returned (.int .i64 (hdL l : Int)) ∧ W = w' := fun v W h => by
      have := number_any h (Nat.le_trans (List.length_take_le _ _) (by omega))
      rw [wrap64_eq _ (show numL ((l.drop 13).take 4) < _ from (by unfold hdL at hLl; omega))] at this
      exact this
    have hn3 : ∀ v W, Byt W W.heap.size v ((l.drop 17).take 4) → Calls Try.prog 105 #[v] W fun e w' => e = .returned (.int .i64 (hdC l : Int)) ∧ W = w' := fun v W h => by
      have := number_any h (Nat.le_trans (List.length_take_le _ _) (by omega))
      rw [wrap64_eq _ (show numL ((l.drop 17).take 4) < _ from (by unfold hdC at hCl; omega))] at this
      exact this
    have f3 := rightB_wrap (hdS l) (hdL l) (hdS_lt l)
    have f4 : rightB (wrap64 (hdS l : Int)) (hdL l) = true → wrap64 (hdS l : Int) = (hdS l : Int) := fun h => by
      have h1 := (rightB_yes h).1
      by_cases h2 : hdS l < 9223372036854775808
      · exact wrap64_eq _ h2
      · rw [wrap64_neg _ (by omega) (hdS_lt l)] at h1; have := hdS_lt l; omega
    rw [← hsq] at f3 f4
    have HN1 := Lib.hid hn1
    have HN2 := Lib.hid hn2
    have HN3 := Lib.hid hn3
    have HR2 := Lib.hid hr2
    have HB1 := Lib.hid hb1
    have F3 := Lib.hid f3
    have F4 := Lib.hid f4
    clear hn1 hn2 hn3 h64 hsq f3 f4 hr2 hb1
    go_enter Try.func57, Try.ntmps57
    go_wp2
    -- region 3
    refine wp_region_tailN 12 (by kernel_rfl) [isS (.slice (some ad) l.length c), bytS ((l.drop 5).take 8), isS (.int .i64 sq), isS (.slice (some ad) l.length c), bytS ((l.drop 13).take 4), isS (.int .i64 (hdL l : Int)), isS (.slice (some ad) l.length c), bytS ((l.drop 17).take 4), isS (.int .i64 (hdC l : Int)), isS (.int .u32 (hdC l : Int)), isS (.agg #[.int .i64 sq, .int .i64 (hdL l : Int), .int .u32 (hdC l : Int)]), ptr81 (w.heap.size + 1)] (by kernel_rfl) (by kernel_rfl) (by kernel_rfl) (by kernel_rfl) (by decide) (by kernel_rfl) (fun i hi => ?_) (fun a w5 hc hs => ?_)
    · match i, hi with
      | 0, _ =>
        intro a W hc hd
        have z0 := hc.same 0 (by kernel_rfl)
        simp only [List.getElem?_toArray, List.getElem?_cons_zero, Option.getD_some] at z0
        refine obl_val rfl (wanted_none rfl) ?_ rfl
        go_simp
      | 1, _ =>
        intro a W hc hd
        have s0 : a.tmps[9]?.getD undef = (.slice (some ad) l.length c) := hd 0 (by decide) (by kernel_rfl)
        have hb := byt_mid 5 13 (HV3.out.below hc.below).heap (by omega) (by omega)
        have g1 : (13 : Int) ≤ (c : Int) := by omega
        have g2 : ¬ c = 5 := by omega
        refine obl_val rfl (wanted_none rfl) (v := .slice (some ⟨ad.block, ad.off + 5, none⟩) 8 (c - 5)) ?_ hb
        go_simp
      | 2, _ =>
        intro a W hc hd
        have s1 : (bytS ((l.drop 5).take 8)).f (a.tmps[10]?.getD undef) W := hd 1 (by decide) (by kernel_rfl)
        refine obl_call rfl (wanted_none rfl) (by go_simp) (HN1.out _ W (show Byt W W.heap.size _ _ from s1)) ?_
        rintro e w8 ⟨rfl, rfl⟩
        exact ⟨_, rfl, rfl, Below.refl _ _⟩
      | 3, _ =>
        intro a W hc hd
        have z0 := hc.same 0 (by kernel_rfl)
        simp only [List.getElem?_toArray, List.getElem?_cons_zero, Option.getD_some] at z0
        refine obl_val rfl (wanted_none rfl) ?_ rfl
        go_simp
      | 4, _ =>
        intro a W hc hd
        have s3 : a.tmps[12]?.getD undef = (.slice (some ad) l.length c) := hd 3 (by decide) (by kernel_rfl)
        have hb := byt_mid 13 17 (HV3.out.below hc.below).heap (by omega) (by omega)
        have g1 : (17 : Int) ≤ (c : Int) := by omega
        have g2 : ¬ c = 13 := by omega
        refine obl_val rfl (wanted_none rfl) (v := .slice (some ⟨ad.block, ad.off + 13, none⟩) 4 (c - 13)) ?_ hb
        go_simp
      | 5, _ =>
        intro a W hc hd
        have s4 : (bytS ((l.drop 13).take 4)).f (a.tmps[13]?.getD undef) W := hd 4 (by decide) (by kernel_rfl)
        refine obl_call rfl (wanted_none rfl) (by go_simp) (HN2.out _ W (show Byt W W.heap.size _ _ from s4)) ?_
        rintro e w8 ⟨rfl, rfl⟩
        exact ⟨_, rfl, rfl, Below.refl _ _⟩
      | 6, _ =>
        intro a W hc hd
        have z0 := hc.same 0 (by kernel_rfl)
        simp only [List.getElem?_toArray, List.getElem?_cons_zero, Option.getD_some] at z0
        refine obl_val rfl (wanted_none rfl) ?_ rfl
        go_simp
      | 7, _ =>
        intro a W hc hd
        have s6 : a.tmps[15]?.getD undef = (.slice (some ad) l.length c) := hd 6 (by decide) (by kernel_rfl)
        have hb := byt_mid 17 21 (HV3.out.below hc.below).heap (by omega) (by omega)
        have g1 : (21 : Int) ≤ (c : Int) := by omega
        have g2 : ¬ c = 17 := by omega
        refine obl_val rfl (wanted_none rfl) (v := .slice (some ⟨ad.block, ad.off + 17, none⟩) 4 (c - 17)) ?_ hb
        go_simp
      | 8, _ =>
        intro a W hc hd
        have s7 : (bytS ((l.drop 17).take 4)).f (a.tmps[16]?.getD undef) W := hd 7 (by decide) (by kernel_rfl)
        refine obl_call rfl (wanted_none rfl) (by go_simp) (HN3.out _ W (show Byt W W.heap.size _ _ from s7)) ?_
        rintro e w8 ⟨rfl, rfl⟩
        exact ⟨_, rfl, rfl, Below.refl _ _⟩
      | 9, _ =>
        intro a W hc hd
        have s8 : a.tmps[17]?.getD undef = (.int .i64 (hdC l : Int)) := hd 8 (by decide) (by kernel_rfl)
        refine obl_val rfl (wanted_none rfl) ?_ rfl
        go_simp
        rw [IntKind.wrap_u32]
        omega
      | 10, _ =>
        intro a W hc hd
        have s2 : a.tmps[11]?.getD undef = (.int .i64 sq) := hd 2 (by decide) (by kernel_rfl)
        have s5 : a.tmps[14]?.getD undef = (.int .i64 (hdL l : Int)) := hd 5 (by decide) (by kernel_rfl)
        have s9 : a.tmps[18]?.getD undef = (.int .u32 (hdC l : Int)) := hd 9 (by decide) (by kernel_rfl)
        refine obl_val rfl (wanted_none rfl) ?_ rfl
        go_simp
      | 11, _ =>
        intro a W hc hd
        refine obl_grow rfl (wanted_none rfl) (v := .pointer (some ⟨W.heap.size, 0, none⟩)) (w' := W.alloc (.cells #[.int .i64 0, .int .i64 0, .int .u32 0] 81)) ?_ ⟨W.heap.size, rfl, Nat.le_trans (by show w.heap.size + 1 ≤ (w.alloc _).heap.size; simp) hc.below.size, heap_alloc_new W _⟩ ((Below.refl W.heap.size W).alloc (Nat.le_refl _) _)
        go_simp
      | n + 12, h => exact absurd h (by omega)
    · obtain ⟨g4, hz4, hg4, hh4⟩ := hs 11 4 (by decide) (by kernel_rfl)
      have hfr := grow_frameN hc [(9, (.slice (some ad) l.length c)), (10, a.tmps[10]?.getD undef), (11, (.int .i64 sq)), (12, (.slice (some ad) l.length c)), (13, a.tmps[13]?.getD undef), (14, (.int .i64 (hdL l : Int))), (15, (.slice (some ad) l.length c)), (16, a.tmps[16]?.getD undef), (17, (.int .i64 (hdC l : Int))), (18, (.int .u32 (hdC l : Int))), (19, (.agg #[.int .i64 sq, .int .i64 (hdL l : Int), .int .u32 (hdC l : Int)])), (4, .pointer (some ⟨g4, 0, none⟩))] (by kernel_rfl) (fun p hp => by
          simp only [List.mem_cons, List.not_mem_nil, or_false] at hp
          rcases hp with rfl | rfl | rfl | rfl | rfl | rfl | rfl | rfl | rfl | rfl | rfl | rfl
          · exact hs 0 9 (by decide) (by kernel_rfl)
          · rfl
          · exact hs 2 11 (by decide) (by kernel_rfl)
          · exact hs 3 12 (by decide) (by kernel_rfl)
          · rfl
          · exact hs 5 14 (by decide) (by kernel_rfl)
          · exact hs 6 15 (by decide) (by kernel_rfl)
          · rfl
          · exact hs 8 17 (by decide) (by kernel_rfl)
          · exact hs 9 18 (by decide) (by kernel_rfl)
          · exact hs 10 19 (by decide) (by kernel_rfl)
          · exact hz4
          )
      generalize a.tmps[10]?.getD undef = z10 at hfr
      generalize a.tmps[13]?.getD undef = z13 at hfr
      generalize a.tmps[16]?.getD undef = z16 at hfr
      simp only [List.range, List.range.loop, List.size_toArray, List.length_cons, List.length_nil, List.map_cons, List.map_nil, List.lookup_cons, List.lookup_nil, Nat.reduceAdd, Nat.reduceBEq, Option.getD_some, Option.getD_none, List.getElem?_toArray, List.getElem?_cons_succ, List.getElem?_cons_zero] at hfr
      subst hfr
    -- end 3
      have hb5 : Below w.heap.size w w5 := HB1.out.drew.trans (hc.below.mono HB1.out.size)
      have hr5 := (hc.below.block w.heap.size (by show w.heap.size < (w.alloc _).heap.size; simp)).trans HR2.out
      have x0 := cells_of hh4 0 _ rfl
      have x1 := cells_of hh4 1 _ rfl
      have x2 := cells_of hh4 2 _ rfl
      have y0 := free_of hh4 0
      have y1 := free_of hh4 1
      have y2 := free_of hh4 2
      have HH4 := Lib.hid hh4
      have HB5 := Lib.hid hb5
      have HR5 := Lib.hid hr5
      clear hs hc hh4 hb5 hr5
      simp only [List.drop_succ_cons, List.drop_zero]
      go_wp2
      have k0 := Lib.heap_setCell_same (i := 0) HH4.out (.int .i64 sq)
      have k1 := Lib.heap_setCell_same (i := 1) k0 (.int .i64 (hdL l : Int))
      have k2 := Lib.heap_setCell_same (i := 2) k1 (.int .u32 (hdC l : Int))
      have hb6 := ((HB5.out.setCell (p := ⟨g4, 0, none⟩) (by show w.heap.size ≤ g4; omega) (.int .i64 sq)).setCell (p := ⟨g4, 1, none⟩) (by show w.heap.size ≤ g4; omega) (.int .i64 (hdL l : Int))).setCell (p := ⟨g4, 2, none⟩) (by show w.heap.size ≤ g4; omega) (.int .u32 (hdC l : Int))
      have hr6 : (((w5.setCell ⟨g4, 0, none⟩ (.int .i64 sq)).setCell ⟨g4, 1, none⟩ (.int .i64 (hdL l : Int))).setCell ⟨g4, 2, none⟩ (.int .u32 (hdC l : Int))).heap[w.heap.size]? = some (.cells #[.int .i64 0, .int .i64 0, .int .u32 0] 81 (0, 0)) := by
        rw [Below.heap_setCell _ _ _ _ (fun e => by have e' : w.heap.size = g4 := e; omega), Below.heap_setCell _ _ _ _ (fun e => by have e' : w.heap.size = g4 := e; omega), Below.heap_setCell _ _ _ _ (fun e => by have e' : w.heap.size = g4 := e; omega)]
        exact HR5.out
      have k3 : (((w5.setCell ⟨g4, 0, none⟩ (.int .i64 sq)).setCell ⟨g4, 1, none⟩ (.int .i64 (hdL l : Int))).setCell ⟨g4, 2, none⟩ (.int .u32 (hdC l : Int))).heap[g4]? = some (.cells #[.int .i64 sq, .int .i64 (hdL l : Int), .int .u32 (hdC l : Int)] 81 (0, 0)) := by simpa using k2
      clear k0 k1 k2
      have HV6 := Lib.hid (HV.out.below hb6).heap.drew
      clear x0 x1 x2 y0 y1 y2
      generalize ((w5.setCell ⟨g4, 0, none⟩ (.int .i64 sq)).setCell ⟨g4, 1, none⟩ (.int .i64 (hdL l : Int))).setCell ⟨g4, 2, none⟩ (.int .u32 (hdC l : Int)) = W6 at *
      have hri := rright_any sq (hdL l) (hdC l)
      unfold headV at hri
      have hbx := fun (W : World) (hW : Below W6.drew.heap.size W6.drew W) => (show (W.cell? ⟨g4, 0, none⟩ = some (.int .i64 sq) ∧ W.cell? ⟨g4, 1, none⟩ = some (.int .i64 (hdL l : Int)) ∧ W.cell? ⟨g4, 2, none⟩ = some (.int .u32 (hdC l : Int))) ∧ W.heap[w.heap.size]? = some (.cells #[.int .i64 0, .int .i64 0, .int .u32 0] 81 (0, 0)) ∧ Below w.heap.size w W from by
        have h6 := (hW.block g4 (lt_of_block k3)).trans k3
        have hr := (hW.block w.heap.size (lt_of_block hr6)).trans hr6
        exact ⟨⟨cells_of h6 0 _ rfl, cells_of h6 1 _ rfl, cells_of h6 2 _ rfl⟩, hr, hb6.trans (((Below.refl W6.heap.size W6).drew.trans hW).mono hb6.size)⟩)
      have HBX := Lib.hid hbx
      have HRI := Lib.hid hri
      clear hbx hri k3 hr6 hb6
      cases hrb : rightB sq (hdL l) with
      | false =>
        have hbb : beginB l = false := by unfold beginB; rw [← F3.out, hrb]; simp
        rw [hrb] at HRI
        have HBB := Lib.hid hbb
        clear hrb hbb
        -- region no
        refine wp_region_sp (by kernel_rfl) [isS (.agg #[.int .i64 sq, .int .i64 (hdL l : Int), .int .u32 (hdC l : Int)]), isS (.bool false), isS (.bool true), isS (.bool true), anyS, anyS, anyS, anyS, anyS, anyS, isS (.bool true)] (by kernel_rfl) (by kernel_rfl) (fun i hi => ?_) (fun a w6 hc hs => ?_)
        · match i, hi with
          | 0, _ =>
            intro a W hc hd
            have z4 := hc.same 4 (by kernel_rfl)
            simp only [List.getElem?_toArray, List.getElem?_cons_succ, List.getElem?_cons_zero, Option.getD_some] at z4
            obtain ⟨q0, q1⟩ := HBX.out W hc.below
            refine obl_val rfl (wanted_none rfl) ?_ rfl
            go_simp
          | 1, _ =>
            intro a W hc hd
            have s0 : a.tmps[20]?.getD undef = (.agg #[.int .i64 sq, .int .i64 (hdL l : Int), .int .u32 (hdC l : Int)]) := hd 0 (by kernel_rfl)
            refine obl_call rfl (wanted_none rfl) (by go_simp) (HRI.out W) ?_
            rintro e w8 ⟨rfl, hb8⟩
            exact ⟨_, rfl, rfl, hb8⟩
          | 2, _ =>
            intro a W hc hd
            have s1 : a.tmps[21]?.getD undef = (.bool false) := hd 1 (by kernel_rfl)
            refine obl_val rfl (wanted_none rfl) ?_ rfl
            go_simp
          | 3, _ =>
            intro a W hc hd
            have s2 : a.tmps[22]?.getD undef = (.bool true) := hd 2 (by kernel_rfl)
            refine obl_val rfl (wanted_none rfl) ?_ rfl
            go_simp
          | 4, _ =>
            intro a W hc hd
            have z4 := hc.same 4 (by kernel_rfl)
            have s3 : a.tmps[23]?.getD undef = (.bool true) := hd 3 (by kernel_rfl)
            simp only [List.getElem?_toArray, List.getElem?_cons_succ, List.getElem?_cons_zero, Option.getD_some] at z4
            refine obl_skip rfl (wanted_not rfl rfl s3) trivial
          | 5, _ =>
            intro a W hc hd
            have s4 : (anyS).f (a.tmps[24]?.getD undef) W := hd 4 (by kernel_rfl)
            have s3 : a.tmps[23]?.getD undef = (.bool true) := hd 3 (by kernel_rfl)
            refine obl_skip rfl (wanted_not rfl rfl s3) trivial
          | 6, _ =>
            intro a W hc hd
            have s5 : (anyS).f (a.tmps[25]?.getD undef) W := hd 5 (by kernel_rfl)
            have s3 : a.tmps[23]?.getD undef = (.bool true) := hd 3 (by kernel_rfl)
            refine obl_skip rfl (wanted_not rfl rfl s3) trivial
          | 7, _ =>
            intro a W hc hd
            have z0 := hc.same 0 (by kernel_rfl)
            have s3 : a.tmps[23]?.getD undef = (.bool true) := hd 3 (by kernel_rfl)
            simp only [List.getElem?_toArray, List.getElem?_cons_zero, Option.getD_some] at z0
            refine obl_skip rfl (wanted_not rfl rfl s3) trivial
          | 8, _ =>
            intro a W hc hd
            have s7 : (anyS).f (a.tmps[27]?.getD undef) W := hd 7 (by kernel_rfl)
            have s3 : a.tmps[23]?.getD undef = (.bool true) := hd 3 (by kernel_rfl)
            refine obl_skip rfl (wanted_not rfl rfl s3) trivial
          | 9, _ =>
            intro a W hc hd
            have s6 : (anyS).f (a.tmps[26]?.getD undef) W := hd 6 (by kernel_rfl)
            have s8 : (anyS).f (a.tmps[28]?.getD undef) W := hd 8 (by kernel_rfl)
            have s3 : a.tmps[23]?.getD undef = (.bool true) := hd 3 (by kernel_rfl)
            refine obl_skip rfl (wanted_not rfl rfl s3) trivial
          | 10, _ =>
            intro a W hc hd
            have s3 : a.tmps[23]?.getD undef = (.bool true) := hd 3 (by kernel_rfl)
            have s9 : (anyS).f (a.tmps[29]?.getD undef) W := hd 9 (by kernel_rfl)
            refine obl_val rfl (wanted_none rfl) ?_ rfl
            go_simp
          | n + 11, h => exact absurd h (by simp)
        · skip
          have hfr := grow_frame hc [(20, (.agg #[.int .i64 sq, .int .i64 (hdL l : Int), .int .u32 (hdC l : Int)])), (21, (.bool false)), (22, (.bool true)), (23, (.bool true)), (24, a.tmps[24]?.getD undef), (25, a.tmps[25]?.getD undef), (26, a.tmps[26]?.getD undef), (27, a.tmps[27]?.getD undef), (28, a.tmps[28]?.getD undef), (29, a.tmps[29]?.getD undef), (30, (.bool true))] (by kernel_rfl) (fun p hp => by
              simp only [List.mem_cons, List.not_mem_nil, or_false] at hp
              rcases hp with rfl | rfl | rfl | rfl | rfl | rfl | rfl | rfl | rfl | rfl | rfl
              · exact hs 0 20 (by decide) (by kernel_rfl)
              · exact hs 1 21 (by decide) (by kernel_rfl)
              · exact hs 2 22 (by decide) (by kernel_rfl)
              · exact hs 3 23 (by decide) (by kernel_rfl)
              · rfl
              · rfl
              · rfl
              · rfl
              · rfl
              · rfl
              · exact hs 10 30 (by decide) (by kernel_rfl)
              )
          generalize a.tmps[24]?.getD undef = z24 at hfr
          generalize a.tmps[25]?.getD undef = z25 at hfr
          generalize a.tmps[26]?.getD undef = z26 at hfr
          generalize a.tmps[27]?.getD undef = z27 at hfr
          generalize a.tmps[28]?.getD undef = z28 at hfr
          generalize a.tmps[29]?.getD undef = z29 at hfr
          simp only [List.range, List.range.loop, List.size_toArray, List.length_cons, List.length_nil, List.map_cons, List.map_nil, List.lookup_cons, List.lookup_nil, Nat.reduceAdd, Nat.reduceBEq, Option.getD_some, Option.getD_none, List.getElem?_toArray, List.getElem?_cons_succ, List.getElem?_cons_zero] at hfr
          subst hfr
        -- end no
          obtain ⟨_, q2, q3⟩ := HBX.out w6 hc.below
          have c0 := cells_of q2 0 _ rfl
          have c1 := cells_of q2 1 _ rfl
          have c2 := cells_of q2 2 _ rfl
          have g0 := free_of q2 0
          have g1 := free_of q2 1
          have g2 := free_of q2 2
          clear hs hc q2
          go_wp2
          refine bodyPost_ret (v := .tuple #[headV 0 0 0, .bool false]) (by simp [results, Try.results57, go_sem, headV, c0, c1, c2]) rfl ?_
          unfold BeginPost beginV
          rw [HBB.out, if_neg (by simp)]
          exact ⟨rfl, ((q3.setCell (by simp) _).setCell (by simp) _).setCell (by simp) _⟩
      | true =>
        have hsq := F4.out hrb
        have hrr : rightB (hdS l : Int) (hdL l) = true := by rw [← F3.out]; exact hrb
        have hq := rightB_yes hrr
        have hfi := fun w => rfirst_any (hdS l) (hdL l) (hdC l) (by omega) (by omega) (hdC_lt l) w
        have hbb : (bsA (firstL (hdS l) (hdL l) (hdC l)) != bsA l) = !beginB l := by
          unfold beginB bne
          rw [hrr, H64.out, bsA_beq]
          by_cases h : l = firstL (hdS l) (hdL l) (hdC l)
          · simp [← h]
          · have h' : ¬ firstL (hdS l) (hdL l) (hdC l) = l := fun e => h e.symm
            simp [h, h']
        rw [hrb] at HRI
        subst hsq
        unfold headV at hfi
        have HFI := Lib.hid hfi
        have HBB := Lib.hid hbb
        clear hrb hbb hrr hq hfi
        -- region yes
        refine wp_region_sp (by kernel_rfl) [isS (.agg #[.int .i64 (hdS l : Int), .int .i64 (hdL l : Int), .int .u32 (hdC l : Int)]), isS (.bool true), isS (.bool false), isS (.bool false), isS (.agg #[.int .i64 (hdS l : Int), .int .i64 (hdL l : Int), .int .u32 (hdC l : Int)]), bytS (firstL (hdS l) (hdL l) (hdC l)), isS (.string (bsA (firstL (hdS l) (hdL l) (hdC l)))), isS (.slice (some ad) l.length c), isS (.string (bsA l)), isS (.bool (bsA (firstL (hdS l) (hdL l) (hdC l)) != bsA l)), isS (.bool (bsA (firstL (hdS l) (hdL l) (hdC l)) != bsA l))] (by kernel_rfl) (by kernel_rfl) (fun i hi => ?_) (fun a w6 hc hs => ?_)
        · match i, hi with
          | 0, _ =>
            intro a W hc hd
            have z4 := hc.same 4 (by kernel_rfl)
            simp only [List.getElem?_toArray, List.getElem?_cons_succ, List.getElem?_cons_zero, Option.getD_some] at z4
            obtain ⟨q0, q1⟩ := HBX.out W hc.below
            refine obl_val rfl (wanted_none rfl) ?_ rfl
            go_simp
          | 1, _ =>
            intro a W hc hd
            have s0 : a.tmps[20]?.getD undef = (.agg #[.int .i64 (hdS l : Int), .int .i64 (hdL l : Int), .int .u32 (hdC l : Int)]) := hd 0 (by kernel_rfl)
            refine obl_call rfl (wanted_none rfl) (by go_simp) (HRI.out W) ?_
            rintro e w8 ⟨rfl, hb8⟩
            exact ⟨_, rfl, rfl, hb8⟩
          | 2, _ =>
            intro a W hc hd
            have s1 : a.tmps[21]?.getD undef = (.bool true) := hd 1 (by kernel_rfl)
            refine obl_val rfl (wanted_none rfl) ?_ rfl
            go_simp
          | 3, _ =>
            intro a W hc hd
            have s2 : a.tmps[22]?.getD undef = (.bool false) := hd 2 (by kernel_rfl)
            refine obl_val rfl (wanted_none rfl) ?_ rfl
            go_simp
          | 4, _ =>
            intro a W hc hd
            have z4 := hc.same 4 (by kernel_rfl)
            have s3 : a.tmps[23]?.getD undef = (.bool false) := hd 3 (by kernel_rfl)
            simp only [List.getElem?_toArray, List.getElem?_cons_succ, List.getElem?_cons_zero, Option.getD_some] at z4
            obtain ⟨q0, q1⟩ := HBX.out W hc.below
            refine obl_val rfl (wanted_some rfl rfl s3) ?_ rfl
            go_simp
          | 5, _ =>
            intro a W hc hd
            have s4 : a.tmps[24]?.getD undef = (.agg #[.int .i64 (hdS l : Int), .int .i64 (hdL l : Int), .int .u32 (hdC l : Int)]) := hd 4 (by kernel_rfl)
            have s3 : a.tmps[23]?.getD undef = (.bool false) := hd 3 (by kernel_rfl)
            refine obl_call rfl (wanted_some rfl rfl s3) (by go_simp) (HFI.out W) ?_
            rintro e w8 ⟨v8, rfl, ho8, hb8⟩
            exact ⟨_, rfl, ho8.byt, hb8⟩
          | 6, _ =>
            intro a W hc hd
            have s5 : (bytS (firstL (hdS l) (hdL l) (hdC l))).f (a.tmps[25]?.getD undef) W := hd 5 (by kernel_rfl)
            have s3 : a.tmps[23]?.getD undef = (.bool false) := hd 3 (by kernel_rfl)
            have e := (show Byt W W.heap.size _ _ from s5).strA
            refine obl_val rfl (wanted_some rfl rfl s3) ?_ rfl
            go_simp
          | 7, _ =>
            intro a W hc hd
            have z0 := hc.same 0 (by kernel_rfl)
            have s3 : a.tmps[23]?.getD undef = (.bool false) := hd 3 (by kernel_rfl)
            simp only [List.getElem?_toArray, List.getElem?_cons_zero, Option.getD_some] at z0
            refine obl_val rfl (wanted_some rfl rfl s3) ?_ rfl
            go_simp
          | 8, _ =>
            intro a W hc hd
            have s7 : a.tmps[27]?.getD undef = (.slice (some ad) l.length c) := hd 7 (by kernel_rfl)
            have s3 : a.tmps[23]?.getD undef = (.bool false) := hd 3 (by kernel_rfl)
            have e := (HV6.out.below hc.below).strA
            refine obl_val rfl (wanted_some rfl rfl s3) ?_ rfl
            exact exec_conv rfl (by rw [eval_tmp s7]; exact e)
          | 9, _ =>
            intro a W hc hd
            have s6 : a.tmps[26]?.getD undef = (.string (bsA (firstL (hdS l) (hdL l) (hdC l)))) := hd 6 (by kernel_rfl)
            have s8 : a.tmps[28]?.getD undef = (.string (bsA l)) := hd 8 (by kernel_rfl)
            have s3 : a.tmps[23]?.getD undef = (.bool false) := hd 3 (by kernel_rfl)
            refine obl_val rfl (wanted_some rfl rfl s3) ?_ rfl
            exact exec_nestr rfl (eval_tmp s6) (eval_tmp s8)
          | 10, _ =>
            intro a W hc hd
            have s3 : a.tmps[23]?.getD undef = (.bool false) := hd 3 (by kernel_rfl)
            have s9 : a.tmps[29]?.getD undef = (.bool (bsA (firstL (hdS l) (hdL l) (hdC l)) != bsA l)) := hd 9 (by kernel_rfl)
            refine obl_val rfl (wanted_none rfl) ?_ rfl
            go_simp
          | n + 11, h => exact absurd h (by simp)
        · skip
          have hfr := grow_frame hc [(20, (.agg #[.int .i64 (hdS l : Int), .int .i64 (hdL l : Int), .int .u32 (hdC l : Int)])), (21, (.bool true)), (22, (.bool false)), (23, (.bool false)), (24, (.agg #[.int .i64 (hdS l : Int), .int .i64 (hdL l : Int), .int .u32 (hdC l : Int)])), (25, a.tmps[25]?.getD undef), (26, (.string (bsA (firstL (hdS l) (hdL l) (hdC l))))), (27, (.slice (some ad) l.length c)), (28, (.string (bsA l))), (29, (.bool (bsA (firstL (hdS l) (hdL l) (hdC l)) != bsA l))), (30, (.bool (bsA (firstL (hdS l) (hdL l) (hdC l)) != bsA l)))] (by kernel_rfl) (fun p hp => by
              simp only [List.mem_cons, List.not_mem_nil, or_false] at hp
              rcases hp with rfl | rfl | rfl | rfl | rfl | rfl | rfl | rfl | rfl | rfl | rfl
              · exact hs 0 20 (by decide) (by kernel_rfl)
              · exact hs 1 21 (by decide) (by kernel_rfl)
              · exact hs 2 22 (by decide) (by kernel_rfl)
              · exact hs 3 23 (by decide) (by kernel_rfl)
              · exact hs 4 24 (by decide) (by kernel_rfl)
              · rfl
              · exact hs 6 26 (by decide) (by kernel_rfl)
              · exact hs 7 27 (by decide) (by kernel_rfl)
              · exact hs 8 28 (by decide) (by kernel_rfl)
              · exact hs 9 29 (by decide) (by kernel_rfl)
              · exact hs 10 30 (by decide) (by kernel_rfl)
              )
          generalize a.tmps[25]?.getD undef = z25 at hfr
          simp only [List.range, List.range.loop, List.size_toArray, List.length_cons, List.length_nil, List.map_cons, List.map_nil, List.lookup_cons, List.lookup_nil, Nat.reduceAdd, Nat.reduceBEq, Option.getD_some, Option.getD_none, List.getElem?_toArray, List.getElem?_cons_succ, List.getElem?_cons_zero] at hfr
          subst hfr
        -- end yes
          obtain ⟨⟨y0, y1, y2⟩, q2, q3⟩ := HBX.out w6 hc.below
          have c0 := cells_of q2 0 _ rfl
          have c1 := cells_of q2 1 _ rfl
          have c2 := cells_of q2 2 _ rfl
          have g0 := free_of q2 0
          have g1 := free_of q2 1
          have g2 := free_of q2 2
          clear hs hc q2
          rw [HBB.out]
          generalize hsb : beginB l = sb
          have HSB := Lib.hid hsb
          clear hsb
          cases sb with
          | true =>
            go_wp2
            refine bodyPost_ret (v := .tuple #[headV (hdS l) (hdL l) (hdC l), .bool true]) (by simp [results, Try.results57, go_sem, headV, c0, c1, c2]) rfl ?_
            unfold BeginPost beginV
            rw [HSB.out, if_pos rfl]
            exact ⟨rfl, ((q3.setCell (by simp) _).setCell (by simp) _).setCell (by simp) _⟩
          | false =>
            go_wp2
            refine bodyPost_ret (v := .tuple #[headV 0 0 0, .bool false]) (by simp [results, Try.results57, go_sem, headV, c0, c1, c2]) rfl ?_
            unfold BeginPost beginV
            rw [HSB.out, if_neg (by simp)]
            exact ⟨rfl, ((q3.setCell (by simp) _).setCell (by simp) _).setCell (by simp) _⟩
  · have hbb : beginB l = false := by unfold beginB; simp [h64]
    unfold BeginPost beginV
    rw [hbb, if_neg (by simp)]
    have e1 : ((l.length : Int) == 64) = false := by rw [beq_eq_false_iff_ne]; omega
    have e2 : ((l.length : Int) != 64) = true := by simp; omega
    clear hbb hr h64
    go_enter Try.func57, Try.ntmps57
    go_wp2
    refine bodyPost_ret (v := .tuple #[headV 0 0 0, .bool false]) (by simp [results, Try.results57, go_sem, headV]) rfl ⟨rfl, ?_⟩
    exact hb1
end Go.Proofs.Ytmcjefdnkcpghaa
