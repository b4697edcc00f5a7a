/- THE WALK OF tape.Join. -/
import Derived.Test.YtmcjefdnkcpghaaTbB
namespace Go.Proofs.Ytmcjefdnkcpghaa
open Go.RowKit
def joinOk (ls : List (List UInt8)) (len : Int) (sum : Nat) : Bool := ls.all (fun l => decide (l.length = 64)) && ((ls.flatten.drop len.toNat).all (fun b => decide (b = 0)) && decide (sumL (ls.flatten.take len.toNat) = sum))
def joinB (ls : List (List UInt8)) (seq len : Int) (sum : Nat) : Bool := rightB seq len && (decide ((ls.length : Int) = needI len - 2) && joinOk ls len sum)
/-- a batch's bytes, out of its pages -/
def joinL (ls : List (List UInt8)) (seq len : Int) (sum : Nat) : List UInt8 := if joinB ls seq len sum then ls.flatten.take len.toNat else []
def JoinPost (w : World) (ls : List (List UInt8)) (seq len : Int) (sum : Nat) (e : Ending) (w' : World) : Prop := ∃ v, e = .returned (.tuple #[v, .bool (joinB ls seq len sum)]) ∧ Byt w' w'.heap.size v (joinL ls seq len sum) ∧ Below w.heap.size w w'
theorem JoinPost.no {w w' : World} {ls : List (List UInt8)} {seq len : Int} {sum : Nat} (h : joinB ls seq len sum = false) (hb : Below w.heap.size w w') : JoinPost w ls seq len sum (.returned (.tuple #[.slice none 0 0, .bool false])) w' := by
  unfold JoinPost joinL
  rw [h, if_neg (by simp)]
  exact ⟨_, rfl, Byt.nil_ _ _, hb⟩
theorem JoinPost.yes {w w' : World} {ls : List (List UInt8)} {seq len : Int} {sum : Nat} {v : Value} {B : Nat} (h : joinB ls seq len sum = true) (hv : Byt w' B v (ls.flatten.take len.toNat)) (hb : Below w.heap.size w w') : JoinPost w ls seq len sum (.returned (.tuple #[v, .bool true])) w' := by
  unfold JoinPost joinL
  rw [h, if_pos rfl]
  exact ⟨_, rfl, hv.heap, hb⟩
theorem flat_len {ls : List (List UInt8)} (h : ls.all (fun l => decide (l.length = 64)) = true) : ls.flatten.length = 64 * ls.length := by
  induction ls with
  | nil => rfl
  | cons l ls ih =>
    rw [List.all_cons, Bool.and_eq_true, decide_eq_true_eq] at h
    rw [List.flatten_cons, List.length_append, h.1, ih h.2, List.length_cons]; omega
theorem take_flat (ls : List (List UInt8)) (k : Nat) (h : k < ls.length) : (ls.take (k + 1)).flatten = (ls.take k).flatten ++ ls[k] := by
  rw [List.take_succ_eq_append_getElem h, List.flatten_append]; simp
theorem take_all (ls : List (List UInt8)) (k : Nat) (h : k < ls.length) : (ls.take (k + 1)).all (fun l => decide (l.length = 64)) = ((ls.take k).all (fun l => decide (l.length = 64)) && decide (ls[k].length = 64)) := by
  rw [List.take_succ_eq_append_getElem h, List.all_append]; simp
theorem not_all {ls : List (List UInt8)} {k : Nat} (h : k < ls.length) (h64 : ls[k].length ≠ 64) : ls.all (fun l => decide (l.length = 64)) = false := by
  rw [List.all_eq_false]
  exact ⟨ls[k], List.getElem_mem h, by simp [h64]⟩
theorem not_zero {l : List UInt8} {k : Nat} (h : k < l.length) (h0 : l[k] ≠ 0) : l.all (fun b => decide (b = 0)) = false := by
  rw [List.all_eq_false]
  exact ⟨l[k], List.getElem_mem h, by simp [h0]⟩
theorem Byts.form {w : World} {B : Nat} {v : Value} {ls : List (List UInt8)} (h : Byts w B v ls) : ∃ A c, v = .slice A ls.length c ∧ ls.length ≤ c ∧ c ≤ maxLen := by
  obtain ⟨A, c, h1, h2, h3, _⟩ := h; exact ⟨A, c, h1, h2, h3⟩
/-- element k, as the walk asks for it -/
theorem Byts.at_ {w : World} {B : Nat} {ad : Addr} {c : Nat} {ls : List (List UInt8)} (h : Byts w B (.slice (some ad) ls.length c) ls) (k : Nat) (hk : k < ls.length) : ∃ A n cu, w.cell? (ad.add k) = some (.slice A n cu) ∧ n = ls[k].length ∧ n ≤ cu ∧ cu ≤ 9223372036854775807 ∧ Byt w B (.slice A n cu) ls[k] := by
  obtain ⟨A, c', hv, _, _, hr⟩ := h
  obtain ⟨ad', hA, _, hx⟩ := hr (by omega)
  cases hv
  cases hA
  obtain ⟨u, hu, hb⟩ := hx k _ (List.getElem?_eq_getElem hk)
  obtain ⟨A2, c2, rfl, h1, h2, h3⟩ := id hb
  exact ⟨A2, _, c2, hu, rfl, h1, by unfold maxLen at h2; omega, hb⟩
set_option maxRecDepth 100000 in
set_option maxHeartbeats 4000000 in
theorem join_any {w : World} {B : Nat} {v : Value} {ls : List (List UInt8)} (hv : Byts w B v ls) (seq len : Int) (sum : Nat) (_hsum : sum < 4294967296) : Calls Try.prog 61 #[v, headV seq len sum] w (JoinPost w ls seq len sum) := by
  have hri := right_any seq len sum
  have hv' := hv.heap
  obtain ⟨A, c, rfl, hc, hm⟩ := hv.form
  unfold maxLen at hm
  clear hv
  have hx0 := heap_alloc_new w (.cells #[.int .i64 seq, .int .i64 len, .int .u32 (sum : Int)] 77 (0, 0))
  have hb0 := (Below.refl w.heap.size w).alloc (Nat.le_refl _) (.cells #[.int .i64 seq, .int .i64 len, .int .u32 (sum : Int)] 77)
  have HV := Lib.hid hv'
  have HX0 := Lib.hid hx0
  have HB0 := Lib.hid hb0
  clear hv' hx0 hb0
  cases hrb : rightB seq len with
  | false =>
    have hno : joinB ls seq len sum = false := by unfold joinB; rw [hrb]; rfl
    rw [hrb] at hri
    unfold headV at hri ⊢
    have HNO := Lib.hid hno
    clear hno hrb
    go_enter Try.func61, Try.ntmps61
    go_wp2_with (first
      | (go_at_call 95; refine (hri _).mono ?_; rintro e w1 ⟨rfl, hb1⟩))
    go_ret2
    exact JoinPost.no HNO.out (HB0.out.trans (hb1.mono (by simp)))
  | true =>
    obtain ⟨q1, q2, q3, q4⟩ := rightB_yes hrb
    have hne := fun w => need_any len w
    have hnI : needI len = 2 + (len + 63) / 64 := by unfold needI; rw [if_neg (by omega)]
    by_cases hln : (ls.length : Int) = needI len - 2
    · have hJB : joinB ls seq len sum = joinOk ls len sum := by unfold joinB; rw [hrb, decide_eq_true hln]; simp
      rw [hrb] at hri
      rw [hnI] at hne hln
      obtain ⟨ln, rfl⟩ : ∃ k : Nat, len = (k : Int) := ⟨len.toNat, by omega⟩
      have hl1 : 0 < ls.length := by omega
      have hl2 : ls.length ≤ 2048 := by omega
      have hl3 : ln ≤ 64 * ls.length := by omega
      have hl4 : ((ls.length : Int)) + 2 = 2 + ((ln : Int) + 63) / 64 := by omega
      have e1 : ((ls.length : Int) == 2 + ((ln : Int) + 63) / 64 - 2) = true := by rw [beq_iff_eq]; omega
      have e2 : ((ls.length : Int) != 2 + ((ln : Int) + 63) / 64 - 2) = false := by simp [e1, bne]
      obtain ⟨ad, rfl, hadb, _⟩ : ∃ ad : Addr, A = some ad ∧ ad.block < w.heap.size ∧ True := by
        obtain ⟨A', c', hv', _, _, hr⟩ := HV.out
        obtain ⟨ad, hA, hb, _⟩ := hr hl1
        cases hv'
        exact ⟨ad, hA, hb, trivial⟩
      unfold headV at hri ⊢
      have HJB := Lib.hid hJB
      have HX1 := Lib.hid (fun W (hW : Below (w.alloc (.cells #[.int .i64 seq, .int .i64 (ln : Int), .int .u32 (sum : Int)] 77)).heap.size (w.alloc (.cells #[.int .i64 seq, .int .i64 (ln : Int), .int .u32 (sum : Int)] 77)) W) => (hW.block w.heap.size (by simp)).trans HX0.out)
      clear hJB hrb hnI hln hl4
      go_enter Try.func61, Try.ntmps61
      go_wp2_with (first
        | (go_at_call 95; refine (hri _).mono ?_; rintro e w1 ⟨rfl, hb1⟩
           have hx1 := HX1.out _ hb1
           have x1 := cells_of hx1 1 _ rfl)
        | (go_at_call 53; refine (hne _).mono ?_; rintro e w2 ⟨rfl, rfl⟩))
      have hb01 := HB0.out.trans (hb1.mono (by simp))
      have HX := Lib.hid hx1
      have HB01 := Lib.hid hb01
      clear hx1 x1 hb1 hb01 e1 e2 hri hne
      go_loopg [6, 27] ls.length (fun gk x6 x27 wr => ∃ k : Nat, gk = ls.length - k ∧ k ≤ ls.length ∧ x27 = .int .i64 (k : Int) ∧ Own wr w.heap.size x6 (ls.take k).flatten ∧ (ls.take k).all (fun l => decide (l.length = 64)) = true ∧
        wr.heap[w.heap.size]? = some (.cells #[.int .i64 seq, .int .i64 (ln : Int), .int .u32 (sum : Int)] 77 (0, 0)) ∧ Below w.heap.size w wr)
      case atStart => exact ⟨0, rfl, Nat.zero_le _, rfl, Own.nil_ _ _, rfl, HX.out, HB01.out⟩
      case round =>
        clear HX HB01
        obtain ⟨k, hgk, hk, rfl, hown, hall, hx, hbel⟩ := hrel
        have HG := Lib.hid hgk
        have HX := Lib.hid hx
        have HALL := Lib.hid hall
        have HBE := Lib.hid hbel
        have hwr := hbel.size
        have hfl := flat_len hall
        rw [List.length_take, Nat.min_eq_left hk] at hfl
        clear hgk hx hall
        by_cases h : k < ls.length
        · obtain ⟨Ak, nk, ck, hcell, hnk, hc1, hc2, hbk⟩ := ((HV.out.below HBE.out)).at_ k h
          have hta := take_all ls k h
          have htf := take_flat ls k h
          have hna := not_all h
          generalize ls[k] = lk at *
          by_cases h64 : lk.length = 64
          · obtain rfl : nk = 64 := by omega
            have HBK := Lib.hid hbk
            have HTA := Lib.hid hta
            have HTF := Lib.hid htf
            have H64 := Lib.hid h64
            have HOWN := Lib.hid hown
            have hlr : (ls.take k).flatten.length + lk.length ≤ 140737488355328 := by omega
            clear hna hbk hta htf h64 hnk hfl hown
            go_wp2_with ((with_reducible show wpList _ _ _ (⟨some 36, _, _, _, _, _⟩ :: _) _ _); go_must (refine wpList_append_byt _ rfl (.tmp 34) (.tmp 35) rfl w.heap.size _ _ rfl HOWN.out _ _ lk rfl HBK.out hlr hwr ?_); intro v' w' ho' hg' _; have HO' := Lib.hid ho'; clear ho')
            go_roundg (ls.length - (k + 1))
            case measure => have := HG.out; omega
            case rel =>
              refine ⟨k + 1, rfl, by omega, by go_num, by rw [HTF.out]; exact HO'.out, by rw [HTA.out, HALL.out, H64.out]; rfl, ?_, HBE.out.grown hg' hwr (fun g hg => (HOWN.out.lt g hg).1)⟩
              exact (hg'.block w.heap.size (lt_of_block HX.out) (fun e => HOWN.out.apart HX.out (by decide) e.symm)).trans HX.out
          · have hno : joinB ls seq ln sum = false := by rw [HJB.out]; unfold joinOk; rw [hna h64]; rfl
            have HNO := Lib.hid hno
            have e3 : ((nk : Int) == 64) = false := by rw [beq_eq_false_iff_ne]; omega
            have e4 : ((nk : Int) != 64) = true := by simp; omega
            clear hno h64 hta htf hna hbk hnk hfl hown
            go_wp2
            go_ret2
            exact JoinPost.no HNO.out HBE.out
        · obtain rfl : k = ls.length := by omega
          rw [List.take_length] at hown hfl
          have hal := HALL.out
          rw [List.take_length] at hal
          have hjb := HJB.out
          unfold joinOk at hjb
          rw [hal, Bool.true_and, Int.toNat_natCast] at hjb
          clear HJB HALL hal h
          generalize hF : ls.flatten = F at *
          obtain ⟨g, cap, rfl, hgw, hcap1, hcap2⟩ : ∃ g cap, u6 = .slice (some ⟨g, 0, none⟩) F.length cap ∧ w.heap.size ≤ g ∧ F.length ≤ cap ∧ cap ≤ maxLen := by
            rcases hown.2 with ⟨_, hn⟩ | ⟨g, cap, cur, e, hb', hg, hc, hm, _⟩
            · omega
            · exact ⟨g, cap, e, hb', hc, hm⟩
          unfold maxLen at hcap2
          have hFb := hown.byt
          have x1 := cells_of HX.out 1 _ rfl
          have i1 : (0 : Int) ≤ (ln : Int) := by omega
          have i2 : (ln : Int) ≤ (F.length : Int) := by omega
          have i3 : (ln : Int) ≤ (cap : Int) := by omega
          have i4 : (F.length : Int) ≤ (cap : Int) := by omega
          have hlF : ln ≤ F.length := by omega
          have HT := Lib.hid (byt_take ln hFb hlF)
          have hrl : (F.drop ln).length = F.length - ln := List.length_drop
          have HF := Lib.hid hF
          have HJ := Lib.hid hjb
          have HRL := Lib.hid hrl
          clear hF hjb hown hfl hrl
          by_cases hcl : cap = ln
          · have hFl : F.length = ln := by omega
            have HFL := Lib.hid hFl
            have HFB := Lib.hid hFb
            clear hFb hFl
            obtain rfl : ln = cap := hcl.symm
            go_wp2
            go_quiet (fail)
            go_wp2
            -- tail a
            go_loopg [48] 0 (fun gk x48 wq => gk = 0 ∧ x48 = .int .i64 0 ∧ wq = wr.drewN nq)
            case atStart => exact ⟨rfl, rfl, rfl⟩
            case round =>
              obtain ⟨_, rfl, rfl⟩ := hrel
              have HZ := Lib.hid (show (F.drop ln).all (fun b => decide (b = 0)) = true by rw [List.drop_of_length_le (by omega)]; rfl)
              have hsu := fun (W : World) (hW : Below (wr.drewN nq).drew.heap.size (wr.drewN nq).drew W) => sum_any _ _ W _ ((show Byt (wr.drewN nq).drew wr.heap.size _ _ from HT.out).below hW)
              have hbx := fun (W : World) (hW : Below (wr.drewN nq).drew.heap.size (wr.drewN nq).drew W) => cells_of ((hW.block w.heap.size (lt_of_block HX.out)).trans HX.out) 2 _ rfl
              change ∀ W, _ → Calls _ _ _ W (fun e w' => e = .returned (.int .u32 (sumL (F.take ln) : Int)) ∧ _) at hsu
              have hjj : joinB ls seq ln sum = decide (sumL (F.take ln) = sum) := by rw [HJ.out, HZ.out]; rfl
              generalize sumL (F.take ln) = S at *
              have HSU := Lib.hid hsu
              have HBX := Lib.hid hbx
              have HJJ := Lib.hid hjj
              clear hsu hbx hjj
              go_wp2
              refine wp_region_sp (by kernel_rfl) [isS (.slice (some ⟨g, 0, none⟩) ln ln), isS (.int .u32 (S : Int)), isS (.pointer (some ⟨w.heap.size, 2, none⟩)), isS (.int .u32 (sum : Int)), isS (.bool ((S : Int) != (sum : Int)))] (by kernel_rfl) (by kernel_rfl) (fun i hi => ?_) (fun a w5 hc hs => ?_)
              · match i, hi with
                | 0, _ =>
                  intro a W hc hd
                  have z9 := hc.same 9 (by kernel_rfl)
                  simp only [List.getElem?_toArray, List.getElem?_cons_succ, List.getElem?_cons_zero, Option.getD_some] at z9
                  refine obl_val rfl (wanted_none rfl) ?_ rfl
                  go_simp
                | 1, _ =>
                  intro a W hc hd
                  have s0 : a.tmps[55]?.getD undef = (.slice (some ⟨g, 0, none⟩) ln ln) := hd 0 (by kernel_rfl)
                  refine obl_call rfl (wanted_none rfl) (by go_simp) (HSU.out W (hc.below)) ?_
                  rintro e w8 ⟨rfl, hb8⟩
                  exact ⟨_, rfl, rfl, hb8⟩
                | 2, _ =>
                  intro a W hc hd
                  have z3 := hc.same 3 (by kernel_rfl)
                  simp only [List.getElem?_toArray, List.getElem?_cons_succ, List.getElem?_cons_zero, Option.getD_some] at z3
                  refine obl_val rfl (wanted_none rfl) ?_ rfl
                  go_simp
                | 3, _ =>
                  intro a W hc hd
                  have s2 : a.tmps[57]?.getD undef = (.pointer (some ⟨w.heap.size, 2, none⟩)) := hd 2 (by kernel_rfl)
                  have q2 := HBX.out W hc.below
                  refine obl_val rfl (wanted_none rfl) ?_ rfl
                  go_simp
                | 4, _ =>
                  intro a W hc hd
                  have s1 : a.tmps[56]?.getD undef = (.int .u32 (S : Int)) := hd 1 (by kernel_rfl)
                  have s3 : a.tmps[58]?.getD undef = (.int .u32 (sum : Int)) := hd 3 (by kernel_rfl)
                  refine obl_val rfl (wanted_none rfl) ?_ rfl
                  go_simp
                | n + 5, h => exact absurd h (by simp)
              · skip
                have hfr := grow_frame hc [(55, (.slice (some ⟨g, 0, none⟩) ln ln)), (56, (.int .u32 (S : Int))), (57, (.pointer (some ⟨w.heap.size, 2, none⟩))), (58, (.int .u32 (sum : Int))), (59, (.bool ((S : Int) != (sum : Int))))] (by kernel_rfl) (fun p hp => by
                    simp only [List.mem_cons, List.not_mem_nil, or_false] at hp
                    rcases hp with rfl | rfl | rfl | rfl | rfl
                    · exact hs 0 55 (by decide) (by kernel_rfl)
                    · exact hs 1 56 (by decide) (by kernel_rfl)
                    · exact hs 2 57 (by decide) (by kernel_rfl)
                    · exact hs 3 58 (by decide) (by kernel_rfl)
                    · exact hs 4 59 (by decide) (by kernel_rfl)
                    )
                simp only [List.range, List.range.loop, List.size_toArray, List.length_cons, List.length_nil, List.map_cons, List.map_nil, List.lookup_cons, List.lookup_nil, Nat.reduceAdd, Nat.reduceBEq, Option.getD_some, Option.getD_none, List.getElem?_toArray, List.getElem?_cons_succ, List.getElem?_cons_zero] at hfr
                subst hfr
                have hb5 : Below w.heap.size w w5 := HBE.out.trans (((show Below wr.heap.size wr (wr.drewN nq).drew from ⟨rfl, rfl, rfl, Nat.le_refl _, fun _ _ => rfl⟩).trans hc.below).mono hwr)
                have HTW := Lib.hid ((show Byt (wr.drewN nq).drew wr.heap.size _ _ from HT.out).below hc.below)
                have HB5 := Lib.hid hb5
                clear hs hc hb5
                by_cases hS : S = sum
                · have e7 : ((S : Int) != (sum : Int)) = false := by rw [hS]; simp
                  have HYES := Lib.hid (show joinB ls seq ln sum = true by rw [HJJ.out, decide_eq_true hS])
                  rw [e7]
                  clear hS e7
                  go_wp2
                  go_ret2
                  exact JoinPost.yes HYES.out (by rw [HF.out, Int.toNat_natCast]; exact HTW.out) HB5.out
                · have e7 : ((S : Int) != (sum : Int)) = true := by simp; omega
                  have HNO := Lib.hid (show joinB ls seq ln sum = false by rw [HJJ.out, decide_eq_false hS])
                  rw [e7]
                  clear hS e7
                  go_wp2
                  go_ret2
                  exact JoinPost.no HNO.out HB5.out
            -- end a
          · have i5 : ¬ cap = ln := hcl
            have HFB := Lib.hid hFb
            clear hFb
            go_wp2
            go_quiet (fail)
            go_wp2
            -- tail b
            go_loopg [48] (F.length - ln) (fun gk x48 wq => ∃ k : Nat, gk = F.length - ln - k ∧ k ≤ F.length - ln ∧ x48 = .int .i64 (k : Int) ∧ ((F.drop ln).take k).all (fun b => decide (b = 0)) = true ∧ wq = wr.drewN nq)
            case atStart => exact ⟨0, rfl, Nat.zero_le _, rfl, rfl, rfl⟩
            case round =>
              obtain ⟨k, hgk, hk, rfl, hz, rfl⟩ := hrel
              have HG2 := Lib.hid hgk
              clear hgk
              by_cases h : k < F.length - ln
              · have hx : F[ln + k]? = some F[ln + k] := List.getElem?_eq_getElem (by omega)
                have hcx : wr.cell? ⟨g, ln + k, none⟩ = some (bV F[ln + k]) := by
                  obtain ⟨A', c', e, _, _, hrr⟩ := HFB.out
                  obtain ⟨ad', e2, _, hq⟩ := hrr (by omega)
                  cases e; cases e2
                  have := hq _ _ hx
                  rwa [addr_mk_add, Nat.zero_add] at this
                unfold bV at hcx
                have hts : (F.drop ln).take (k + 1) = (F.drop ln).take k ++ [F[ln + k]] := drop_take_snoc F ln k (by omega)
                have hnz : F[ln + k] ≠ 0 → (F.drop ln).all (fun b => decide (b = 0)) = false := fun h0 => not_zero (k := k) (by rw [HRL.out]; exact h) (by rw [List.getElem_drop]; exact h0)
                generalize F[ln + k] = x at *
                have hxb := x.toNat_lt
                have HTS := Lib.hid hts
                have HZ := Lib.hid hz
                by_cases hx0 : x = 0
                · have e5 : ((x.toNat : Int) == 0) = true := by rw [hx0]; rfl
                  have e6 : ((x.toNat : Int) != 0) = false := by rw [hx0]; rfl
                  have HX0 := Lib.hid hx0
                  clear hx hts hz hnz hx0
                  go_wp2
                  go_roundg (F.length - ln - (k + 1))
                  case measure => have := HG2.out; omega
                  case rel => exact ⟨k + 1, rfl, by omega, by go_num, by rw [HTS.out, List.all_append, HZ.out, HX0.out]; rfl, rfl⟩
                · have hn0 : x.toNat ≠ 0 := fun e => hx0 (UInt8.toNat_inj.1 (by simpa using e))
                  have e5 : ((x.toNat : Int) == 0) = false := by rw [beq_eq_false_iff_ne]; omega
                  have e6 : ((x.toNat : Int) != 0) = true := by simp; omega
                  have HNO := Lib.hid (show joinB ls seq ln sum = false by rw [HJ.out, hnz hx0]; rfl)
                  clear hx hts hz hnz hx0 hn0
                  go_wp2
                  go_ret2
                  exact JoinPost.no HNO.out (HBE.out.trans ⟨rfl, rfl, rfl, Nat.le_refl _, fun _ _ => rfl⟩)
              · obtain rfl : k = F.length - ln := by omega
                have HZ := Lib.hid (show (F.drop ln).all (fun b => decide (b = 0)) = true by rw [List.take_of_length_le (by rw [HRL.out]; exact Nat.le_refl _)] at hz; exact hz)
                clear hz h
                have hsu := fun (W : World) (hW : Below (wr.drewN nq).drew.heap.size (wr.drewN nq).drew W) => sum_any _ _ W _ ((show Byt (wr.drewN nq).drew wr.heap.size _ _ from HT.out).below hW)
                have hbx := fun (W : World) (hW : Below (wr.drewN nq).drew.heap.size (wr.drewN nq).drew W) => cells_of ((hW.block w.heap.size (lt_of_block HX.out)).trans HX.out) 2 _ rfl
                change ∀ W, _ → Calls _ _ _ W (fun e w' => e = .returned (.int .u32 (sumL (F.take ln) : Int)) ∧ _) at hsu
                have hjj : joinB ls seq ln sum = decide (sumL (F.take ln) = sum) := by rw [HJ.out, HZ.out]; rfl
                generalize sumL (F.take ln) = S at *
                have HSU := Lib.hid hsu
                have HBX := Lib.hid hbx
                have HJJ := Lib.hid hjj
                clear hsu hbx hjj
                go_wp2
                refine wp_region_sp (by kernel_rfl) [isS (.slice (some ⟨g, 0, none⟩) ln cap), isS (.int .u32 (S : Int)), isS (.pointer (some ⟨w.heap.size, 2, none⟩)), isS (.int .u32 (sum : Int)), isS (.bool ((S : Int) != (sum : Int)))] (by kernel_rfl) (by kernel_rfl) (fun i hi => ?_) (fun a w5 hc hs => ?_)
                · match i, hi with
                  | 0, _ =>
                    intro a W hc hd
                    have z9 := hc.same 9 (by kernel_rfl)
                    simp only [List.getElem?_toArray, List.getElem?_cons_succ, List.getElem?_cons_zero, Option.getD_some] at z9
                    refine obl_val rfl (wanted_none rfl) ?_ rfl
                    go_simp
                  | 1, _ =>
                    intro a W hc hd
                    have s0 : a.tmps[55]?.getD undef = (.slice (some ⟨g, 0, none⟩) ln cap) := hd 0 (by kernel_rfl)
                    refine obl_call rfl (wanted_none rfl) (by go_simp) (HSU.out W (hc.below)) ?_
                    rintro e w8 ⟨rfl, hb8⟩
                    exact ⟨_, rfl, rfl, hb8⟩
                  | 2, _ =>
                    intro a W hc hd
                    have z3 := hc.same 3 (by kernel_rfl)
                    simp only [List.getElem?_toArray, List.getElem?_cons_succ, List.getElem?_cons_zero, Option.getD_some] at z3
                    refine obl_val rfl (wanted_none rfl) ?_ rfl
                    go_simp
                  | 3, _ =>
                    intro a W hc hd
                    have s2 : a.tmps[57]?.getD undef = (.pointer (some ⟨w.heap.size, 2, none⟩)) := hd 2 (by kernel_rfl)
                    have q2 := HBX.out W hc.below
                    refine obl_val rfl (wanted_none rfl) ?_ rfl
                    go_simp
                  | 4, _ =>
                    intro a W hc hd
                    have s1 : a.tmps[56]?.getD undef = (.int .u32 (S : Int)) := hd 1 (by kernel_rfl)
                    have s3 : a.tmps[58]?.getD undef = (.int .u32 (sum : Int)) := hd 3 (by kernel_rfl)
                    refine obl_val rfl (wanted_none rfl) ?_ rfl
                    go_simp
                  | n + 5, h => exact absurd h (by simp)
                · skip
                  have hfr := grow_frame hc [(55, (.slice (some ⟨g, 0, none⟩) ln cap)), (56, (.int .u32 (S : Int))), (57, (.pointer (some ⟨w.heap.size, 2, none⟩))), (58, (.int .u32 (sum : Int))), (59, (.bool ((S : Int) != (sum : Int))))] (by kernel_rfl) (fun p hp => by
                      simp only [List.mem_cons, List.not_mem_nil, or_false] at hp
                      rcases hp with rfl | rfl | rfl | rfl | rfl
                      · exact hs 0 55 (by decide) (by kernel_rfl)
                      · exact hs 1 56 (by decide) (by kernel_rfl)
                      · exact hs 2 57 (by decide) (by kernel_rfl)
                      · exact hs 3 58 (by decide) (by kernel_rfl)
                      · exact hs 4 59 (by decide) (by kernel_rfl)
                      )
                  simp only [List.range, List.range.loop, List.size_toArray, List.length_cons, List.length_nil, List.map_cons, List.map_nil, List.lookup_cons, List.lookup_nil, Nat.reduceAdd, Nat.reduceBEq, Option.getD_some, Option.getD_none, List.getElem?_toArray, List.getElem?_cons_succ, List.getElem?_cons_zero] at hfr
                  subst hfr
                  have hb5 : Below w.heap.size w w5 := HBE.out.trans (((show Below wr.heap.size wr (wr.drewN nq).drew from ⟨rfl, rfl, rfl, Nat.le_refl _, fun _ _ => rfl⟩).trans hc.below).mono hwr)
                  have HTW := Lib.hid ((show Byt (wr.drewN nq).drew wr.heap.size _ _ from HT.out).below hc.below)
                  have HB5 := Lib.hid hb5
                  clear hs hc hb5
                  by_cases hS : S = sum
                  · have e7 : ((S : Int) != (sum : Int)) = false := by rw [hS]; simp
                    have HYES := Lib.hid (show joinB ls seq ln sum = true by rw [HJJ.out, decide_eq_true hS])
                    rw [e7]
                    clear hS e7
                    go_wp2
                    go_ret2
                    exact JoinPost.yes HYES.out (by rw [HF.out, Int.toNat_natCast]; exact HTW.out) HB5.out
                  · have e7 : ((S : Int) != (sum : Int)) = true := by simp; omega
                    have HNO := Lib.hid (show joinB ls seq ln sum = false by rw [HJJ.out, decide_eq_false hS])
                    rw [e7]
                    clear hS e7
                    go_wp2
                    go_ret2
                    exact JoinPost.no HNO.out HB5.out
            -- end b
    · have hno : joinB ls seq len sum = false := by unfold joinB; rw [decide_eq_false hln]; simp
      rw [hrb] at hri
      rw [hnI] at hne hln
      have e1 : ((ls.length : Int) == 2 + (len + 63) / 64 - 2) = false := by rw [beq_eq_false_iff_ne]; exact hln
      have e2 : ((ls.length : Int) != 2 + (len + 63) / 64 - 2) = true := by simp [e1, bne]
      unfold headV at hri ⊢
      have HNO := Lib.hid hno
      have HX1 := Lib.hid (fun W (hW : Below (w.alloc (.cells #[.int .i64 seq, .int .i64 len, .int .u32 (sum : Int)] 77)).heap.size (w.alloc (.cells #[.int .i64 seq, .int .i64 len, .int .u32 (sum : Int)] 77)) W) => (hW.block w.heap.size (by simp)).trans HX0.out)
      clear hno hrb hnI hln
      go_enter Try.func61, Try.ntmps61
      go_wp2_with (first
        | (go_at_call 95; refine (hri _).mono ?_; rintro e w1 ⟨rfl, hb1⟩
           have hx1 := HX1.out _ hb1
           have x1 := cells_of hx1 1 _ rfl)
        | (go_at_call 53; refine (hne _).mono ?_; rintro e w2 ⟨rfl, rfl⟩))
      go_ret2
      exact JoinPost.no HNO.out (HB0.out.trans (hb1.mono (by simp)))
end Go.Proofs.Ytmcjefdnkcpghaa
/- THE WALK OF octroiref10.Join. -/
namespace Go.Proofs.Ytmcjefdnkcpghaa
open Go.RowKit
set_option maxRecDepth 100000 in
set_option maxHeartbeats 4000000 in
theorem rjoin_any {w : World} {B : Nat} {v : Value} {ls : List (List UInt8)} (hv : Byts w B v ls) (seq len : Int) (sum : Nat) (_hsum : sum < 4294967296) : Calls Try.prog 62 #[v, headV seq len sum] w (JoinPost w ls seq len sum) := by
  have hri := rright_any seq len sum
  have hv' := hv.heap
  obtain ⟨A, c, rfl, hc, hm⟩ := hv.form
  unfold maxLen at hm
  clear hv
  have hx0 := heap_alloc_new w (.cells #[.int .i64 seq, .int .i64 len, .int .u32 (sum : Int)] 81 (0, 0))
  have hb0 := (Below.refl w.heap.size w).alloc (Nat.le_refl _) (.cells #[.int .i64 seq, .int .i64 len, .int .u32 (sum : Int)] 81)
  have HV := Lib.hid hv'
  have HX0 := Lib.hid hx0
  have HB0 := Lib.hid hb0
  clear hv' hx0 hb0
  cases hrb : rightB seq len with
  | false =>
    have hno : joinB ls seq len sum = false := by unfold joinB; rw [hrb]; rfl
    rw [hrb] at hri
    unfold headV at hri ⊢
    have HNO := Lib.hid hno
    clear hno hrb
    go_enter Try.func62, Try.ntmps62
    go_wp2_with (first
      | (go_at_call 99; refine (hri _).mono ?_; rintro e w1 ⟨rfl, hb1⟩))
    go_ret2
    exact JoinPost.no HNO.out (HB0.out.trans (hb1.mono (by simp)))
  | true =>
    obtain ⟨q1, q2, q3, q4⟩ := rightB_yes hrb
    have hne := fun w => rneed_any len w
    have hnI : needI len = 2 + (len + 63) / 64 := by unfold needI; rw [if_neg (by omega)]
    by_cases hln : (ls.length : Int) = needI len - 2
    · have hJB : joinB ls seq len sum = joinOk ls len sum := by unfold joinB; rw [hrb, decide_eq_true hln]; simp
      rw [hrb] at hri
      rw [hnI] at hne hln
      obtain ⟨ln, rfl⟩ : ∃ k : Nat, len = (k : Int) := ⟨len.toNat, by omega⟩
      have hl1 : 0 < ls.length := by omega
      have hl2 : ls.length ≤ 2048 := by omega
      have hl3 : ln ≤ 64 * ls.length := by omega
      have hl4 : ((ls.length : Int)) + 2 = 2 + ((ln : Int) + 63) / 64 := by omega
      have e1 : ((ls.length : Int) == 2 + ((ln : Int) + 63) / 64 - 2) = true := by rw [beq_iff_eq]; omega
      have e2 : ((ls.length : Int) != 2 + ((ln : Int) + 63) / 64 - 2) = false := by simp [e1, bne]
      obtain ⟨ad, rfl, hadb, _⟩ : ∃ ad : Addr, A = some ad ∧ ad.block < w.heap.size ∧ True := by
        obtain ⟨A', c', hv', _, _, hr⟩ := HV.out
        obtain ⟨ad, hA, hb, _⟩ := hr hl1
        cases hv'
        exact ⟨ad, hA, hb, trivial⟩
      unfold headV at hri ⊢
      have HJB := Lib.hid hJB
      have HX1 := Lib.hid (fun W (hW : Below (w.alloc (.cells #[.int .i64 seq, .int .i64 (ln : Int), .int .u32 (sum : Int)] 81)).heap.size (w.alloc (.cells #[.int .i64 seq, .int .i64 (ln : Int), .int .u32 (sum : Int)] 81)) W) => (hW.block w.heap.size (by simp)).trans HX0.out)
      clear hJB hrb hnI hln hl4
      go_enter Try.func62, Try.ntmps62
      go_wp2_with (first
        | (go_at_call 99; refine (hri _).mono ?_; rintro e w1 ⟨rfl, hb1⟩
           have hx1 := HX1.out _ hb1
           have x1 := cells_of hx1 1 _ rfl)
        | (go_at_call 54; refine (hne _).mono ?_; rintro e w2 ⟨rfl, rfl⟩))
      have hb01 := HB0.out.trans (hb1.mono (by simp))
      have HX := Lib.hid hx1
      have HB01 := Lib.hid hb01
      clear hx1 x1 hb1 hb01 e1 e2 hri hne
      go_loopg [6, 7] ls.length (fun gk x6 x7 wr => ∃ k : Nat, gk = ls.length - k ∧ k ≤ ls.length ∧ x7 = .int .i64 (k : Int) ∧ Own wr w.heap.size x6 (ls.take k).flatten ∧ (ls.take k).all (fun l => decide (l.length = 64)) = true ∧
        wr.heap[w.heap.size]? = some (.cells #[.int .i64 seq, .int .i64 (ln : Int), .int .u32 (sum : Int)] 81 (0, 0)) ∧ Below w.heap.size w wr)
      case atStart => exact ⟨0, rfl, Nat.zero_le _, rfl, Own.nil_ _ _, rfl, HX.out, HB01.out⟩
      case round =>
        clear HX HB01
        obtain ⟨k, hgk, hk, rfl, hown, hall, hx, hbel⟩ := hrel
        have HG := Lib.hid hgk
        have HX := Lib.hid hx
        have HALL := Lib.hid hall
        have HBE := Lib.hid hbel
        have hwr := hbel.size
        have hfl := flat_len hall
        rw [List.length_take, Nat.min_eq_left hk] at hfl
        clear hgk hx hall
        by_cases h : k < ls.length
        · obtain ⟨Ak, nk, ck, hcell, hnk, hc1, hc2, hbk⟩ := ((HV.out.below HBE.out)).at_ k h
          have hta := take_all ls k h
          have htf := take_flat ls k h
          have hna := not_all h
          generalize ls[k] = lk at *
          by_cases h64 : lk.length = 64
          · obtain rfl : nk = 64 := by omega
            have HBK := Lib.hid hbk
            have HTA := Lib.hid hta
            have HTF := Lib.hid htf
            have H64 := Lib.hid h64
            have HOWN := Lib.hid hown
            have hlr : (ls.take k).flatten.length + lk.length ≤ 140737488355328 := by omega
            clear hna hbk hta htf h64 hnk hfl hown
            go_wp2_with ((with_reducible show wpList _ _ _ (⟨some 38, _, _, _, _, _⟩ :: _) _ _); go_must (refine wpList_append_byt _ rfl (.tmp 33) (.tmp 37) rfl w.heap.size _ _ rfl HOWN.out _ _ lk rfl HBK.out hlr hwr ?_); intro v' w' ho' hg' _; have HO' := Lib.hid ho'; clear ho')
            go_roundg (ls.length - (k + 1))
            case measure => have := HG.out; omega
            case rel =>
              refine ⟨k + 1, rfl, by omega, by go_num, by rw [HTF.out]; exact HO'.out, by rw [HTA.out, HALL.out, H64.out]; rfl, ?_, HBE.out.grown hg' hwr (fun g hg => (HOWN.out.lt g hg).1)⟩
              exact (hg'.block w.heap.size (lt_of_block HX.out) (fun e => HOWN.out.apart HX.out (by decide) e.symm)).trans HX.out
          · have hno : joinB ls seq ln sum = false := by rw [HJB.out]; unfold joinOk; rw [hna h64]; rfl
            have HNO := Lib.hid hno
            have e3 : ((nk : Int) == 64) = false := by rw [beq_eq_false_iff_ne]; omega
            have e4 : ((nk : Int) != 64) = true := by simp; omega
            clear hno h64 hta htf hna hbk hnk hfl hown
            go_wp2
            go_ret2
            exact JoinPost.no HNO.out HBE.out
        · obtain rfl : k = ls.length := by omega
          rw [List.take_length] at hown hfl
          have hal := HALL.out
          rw [List.take_length] at hal
          have hjb := HJB.out
          unfold joinOk at hjb
          rw [hal, Bool.true_and, Int.toNat_natCast] at hjb
          clear HJB HALL hal h
          generalize hF : ls.flatten = F at *
          obtain ⟨g, cap, rfl, hgw, hcap1, hcap2⟩ : ∃ g cap, u6 = .slice (some ⟨g, 0, none⟩) F.length cap ∧ w.heap.size ≤ g ∧ F.length ≤ cap ∧ cap ≤ maxLen := by
            rcases hown.2 with ⟨_, hn⟩ | ⟨g, cap, cur, e, hb', hg, hc, hm, _⟩
            · omega
            · exact ⟨g, cap, e, hb', hc, hm⟩
          unfold maxLen at hcap2
          have hFb := hown.byt
          have x1 := cells_of HX.out 1 _ rfl
          have i1 : (0 : Int) ≤ (ln : Int) := by omega
          have i2 : (ln : Int) ≤ (F.length : Int) := by omega
          have i3 : (ln : Int) ≤ (cap : Int) := by omega
          have i4 : (F.length : Int) ≤ (cap : Int) := by omega
          have hlF : ln ≤ F.length := by omega
          have HT := Lib.hid (byt_take ln hFb hlF)
          have hrl : (F.drop ln).length = F.length - ln := List.length_drop
          have HF := Lib.hid hF
          have HJ := Lib.hid hjb
          have HRL := Lib.hid hrl
          clear hF hjb hown hfl hrl
          have HFB := Lib.hid hFb
          clear hFb
          go_wp2
          go_loopg [8] (F.length - ln) (fun gk x8 wq => ∃ k : Nat, gk = F.length - ln - k ∧ k ≤ F.length - ln ∧ x8 = .int .i64 ((ln + k : Nat) : Int) ∧ ((F.drop ln).take k).all (fun b => decide (b = 0)) = true ∧ wq = wr)
          case atStart => exact ⟨0, rfl, Nat.zero_le _, rfl, rfl, rfl⟩
          case round =>
            obtain ⟨k, hgk, hk, rfl, hz, rfl⟩ := hrel
            have HG2 := Lib.hid hgk
            clear hgk
            by_cases h : k < F.length - ln
            · have hx : F[ln + k]? = some F[ln + k] := List.getElem?_eq_getElem (by omega)
              have hcx : wr.cell? ⟨g, ln + k, none⟩ = some (bV F[ln + k]) := by
                obtain ⟨A', c', e, _, _, hrr⟩ := HFB.out
                obtain ⟨ad', e2, _, hq⟩ := hrr (by omega)
                cases e; cases e2
                have := hq _ _ hx
                rwa [addr_mk_add, Nat.zero_add] at this
              unfold bV at hcx
              have hts : (F.drop ln).take (k + 1) = (F.drop ln).take k ++ [F[ln + k]] := drop_take_snoc F ln k (by omega)
              have hnz : F[ln + k] ≠ 0 → (F.drop ln).all (fun b => decide (b = 0)) = false := fun h0 => not_zero (k := k) (by rw [HRL.out]; exact h) (by rw [List.getElem_drop]; exact h0)
              generalize F[ln + k] = x at *
              have hxb := x.toNat_lt
              have HTS := Lib.hid hts
              have HZ := Lib.hid hz
              have i6 : ln + k < F.length := by omega
              by_cases hx0 : x = 0
              · have e5 : ((x.toNat : Int) == 0) = true := by rw [hx0]; rfl
                have e6 : ((x.toNat : Int) != 0) = false := by rw [hx0]; rfl
                have HX0 := Lib.hid hx0
                clear hx hts hz hnz hx0
                go_wp2
                go_roundg (F.length - ln - (k + 1))
                case measure => have := HG2.out; omega
                case rel => exact ⟨k + 1, rfl, by omega, by go_num, by rw [HTS.out, List.all_append, HZ.out, HX0.out]; rfl, rfl⟩
              · have hn0 : x.toNat ≠ 0 := fun e => hx0 (UInt8.toNat_inj.1 (by simpa using e))
                have e5 : ((x.toNat : Int) == 0) = false := by rw [beq_eq_false_iff_ne]; omega
                have e6 : ((x.toNat : Int) != 0) = true := by simp; omega
                have HNO := Lib.hid (show joinB ls seq ln sum = false by rw [HJ.out, hnz hx0]; rfl)
                clear hx hts hz hnz hx0 hn0
                go_wp2
                go_ret2
                exact JoinPost.no HNO.out HBE.out
            · have HZ := Lib.hid (show (F.drop ln).all (fun b => decide (b = 0)) = true by rw [List.take_of_length_le (by rw [HRL.out]; omega)] at hz; exact hz)
              have i6 : F.length ≤ ln + k := by omega
              clear hz h
              have hsu := fun (W : World) (hW : Below wr.drew.heap.size wr.drew W) => rsum_any _ _ W _ ((show Byt wr.drew wr.heap.size _ _ from HT.out).below hW)
              have hbx := fun (W : World) (hW : Below wr.drew.heap.size wr.drew W) => (show W.cell? ⟨w.heap.size, 1, none⟩ = some (.int .i64 (ln : Int)) ∧ W.cell? ⟨w.heap.size, 2, none⟩ = some (.int .u32 (sum : Int)) from ⟨cells_of ((hW.block w.heap.size (lt_of_block HX.out)).trans HX.out) 1 _ rfl, cells_of ((hW.block w.heap.size (lt_of_block HX.out)).trans HX.out) 2 _ rfl⟩)
              change ∀ W, _ → Calls _ _ _ W (fun e w' => e = .returned (.int .u32 (sumL (F.take ln) : Int)) ∧ _) at hsu
              have hjj : joinB ls seq ln sum = decide (sumL (F.take ln) = sum) := by rw [HJ.out, HZ.out]; rfl
              generalize sumL (F.take ln) = S at *
              have HSU := Lib.hid hsu
              have HBX := Lib.hid hbx
              have HJJ := Lib.hid hjj
              clear hsu hbx hjj
              go_wp2
              -- region 15
              refine wp_region_sp (by kernel_rfl) [isS (.slice (some ⟨g, 0, none⟩) F.length cap), isS (.pointer (some ⟨w.heap.size, 1, none⟩)), isS (.int .i64 (ln : Int)), isS (.slice (some ⟨g, 0, none⟩) ln cap), isS (.int .u32 (S : Int)), isS (.pointer (some ⟨w.heap.size, 2, none⟩)), isS (.int .u32 (sum : Int)), isS (.bool ((S : Int) != (sum : Int)))] (by kernel_rfl) (by kernel_rfl) (fun i hi => ?_) (fun a w5 hc hs => ?_)
              · match i, hi with
                | 0, _ =>
                  intro a W hc hd
                  have z6 := hc.same 6 (by kernel_rfl)
                  simp only [List.getElem?_toArray, List.getElem?_cons_succ, List.getElem?_cons_zero, Option.getD_some] at z6
                  refine obl_val rfl (wanted_none rfl) ?_ rfl
                  go_simp
                | 1, _ =>
                  intro a W hc hd
                  have z3 := hc.same 3 (by kernel_rfl)
                  simp only [List.getElem?_toArray, List.getElem?_cons_succ, List.getElem?_cons_zero, Option.getD_some] at z3
                  refine obl_val rfl (wanted_none rfl) ?_ rfl
                  go_simp
                | 2, _ =>
                  intro a W hc hd
                  have s1 : a.tmps[53]?.getD undef = (.pointer (some ⟨w.heap.size, 1, none⟩)) := hd 1 (by kernel_rfl)
                  obtain ⟨q1, q2⟩ := HBX.out W hc.below
                  refine obl_val rfl (wanted_none rfl) ?_ rfl
                  go_simp
                | 3, _ =>
                  intro a W hc hd
                  have s0 : a.tmps[52]?.getD undef = (.slice (some ⟨g, 0, none⟩) F.length cap) := hd 0 (by kernel_rfl)
                  have s2 : a.tmps[54]?.getD undef = (.int .i64 (ln : Int)) := hd 2 (by kernel_rfl)
                  refine obl_val rfl (wanted_none rfl) ?_ rfl
                  go_simp
                | 4, _ =>
                  intro a W hc hd
                  have s3 : a.tmps[55]?.getD undef = (.slice (some ⟨g, 0, none⟩) ln cap) := hd 3 (by kernel_rfl)
                  refine obl_call rfl (wanted_none rfl) (by go_simp) (HSU.out W (hc.below)) ?_
                  rintro e w8 ⟨rfl, rfl⟩
                  exact ⟨_, rfl, rfl, Below.refl _ _⟩
                | 5, _ =>
                  intro a W hc hd
                  have z3 := hc.same 3 (by kernel_rfl)
                  simp only [List.getElem?_toArray, List.getElem?_cons_succ, List.getElem?_cons_zero, Option.getD_some] at z3
                  refine obl_val rfl (wanted_none rfl) ?_ rfl
                  go_simp
                | 6, _ =>
                  intro a W hc hd
                  have s5 : a.tmps[57]?.getD undef = (.pointer (some ⟨w.heap.size, 2, none⟩)) := hd 5 (by kernel_rfl)
                  obtain ⟨q1, q2⟩ := HBX.out W hc.below
                  refine obl_val rfl (wanted_none rfl) ?_ rfl
                  go_simp
                | 7, _ =>
                  intro a W hc hd
                  have s4 : a.tmps[56]?.getD undef = (.int .u32 (S : Int)) := hd 4 (by kernel_rfl)
                  have s6 : a.tmps[58]?.getD undef = (.int .u32 (sum : Int)) := hd 6 (by kernel_rfl)
                  refine obl_val rfl (wanted_none rfl) ?_ rfl
                  go_simp
                | n + 8, h => exact absurd h (by simp)
              · skip
                have hfr := grow_frame hc [(52, (.slice (some ⟨g, 0, none⟩) F.length cap)), (53, (.pointer (some ⟨w.heap.size, 1, none⟩))), (54, (.int .i64 (ln : Int))), (55, (.slice (some ⟨g, 0, none⟩) ln cap)), (56, (.int .u32 (S : Int))), (57, (.pointer (some ⟨w.heap.size, 2, none⟩))), (58, (.int .u32 (sum : Int))), (59, (.bool ((S : Int) != (sum : Int))))] (by kernel_rfl) (fun p hp => by
                    simp only [List.mem_cons, List.not_mem_nil, or_false] at hp
                    rcases hp with rfl | rfl | rfl | rfl | rfl | rfl | rfl | rfl
                    · exact hs 0 52 (by decide) (by kernel_rfl)
                    · exact hs 1 53 (by decide) (by kernel_rfl)
                    · exact hs 2 54 (by decide) (by kernel_rfl)
                    · exact hs 3 55 (by decide) (by kernel_rfl)
                    · exact hs 4 56 (by decide) (by kernel_rfl)
                    · exact hs 5 57 (by decide) (by kernel_rfl)
                    · exact hs 6 58 (by decide) (by kernel_rfl)
                    · exact hs 7 59 (by decide) (by kernel_rfl)
                    )
                simp only [List.range, List.range.loop, List.size_toArray, List.length_cons, List.length_nil, List.map_cons, List.map_nil, List.lookup_cons, List.lookup_nil, Nat.reduceAdd, Nat.reduceBEq, Option.getD_some, Option.getD_none, List.getElem?_toArray, List.getElem?_cons_succ, List.getElem?_cons_zero] at hfr
                subst hfr
              -- end 15
                have hb5 : Below w.heap.size w w5 := HBE.out.trans ((show Below wr.heap.size wr wr.drew from ⟨rfl, rfl, rfl, Nat.le_refl _, fun _ _ => rfl⟩).trans hc.below |>.mono hwr)
                have HTW := Lib.hid ((show Byt wr.drew wr.heap.size _ _ from HT.out).below hc.below)
                have HB5 := Lib.hid hb5
                obtain ⟨z1, z2⟩ := HBX.out w5 hc.below
                clear hs hc hb5
                by_cases hS : S = sum
                · have e7 : ((S : Int) != (sum : Int)) = false := by rw [hS]; simp
                  have HYES := Lib.hid (show joinB ls seq ln sum = true by rw [HJJ.out, decide_eq_true hS])
                  rw [e7]
                  clear hS e7
                  go_wp2
                  go_ret2
                  exact JoinPost.yes HYES.out (by rw [HF.out, Int.toNat_natCast]; exact HTW.out) HB5.out
                · have e7 : ((S : Int) != (sum : Int)) = true := by simp; omega
                  have HNO := Lib.hid (show joinB ls seq ln sum = false by rw [HJJ.out, decide_eq_false hS])
                  rw [e7]
                  clear hS e7
                  go_wp2
                  go_ret2
                  exact JoinPost.no HNO.out HB5.out
    · have hno : joinB ls seq len sum = false := by unfold joinB; rw [decide_eq_false hln]; simp
      rw [hrb] at hri
      rw [hnI] at hne hln
      have e1 : ((ls.length : Int) == 2 + (len + 63) / 64 - 2) = false := by rw [beq_eq_false_iff_ne]; exact hln
      have e2 : ((ls.length : Int) != 2 + (len + 63) / 64 - 2) = true := by simp [e1, bne]
      unfold headV at hri ⊢
      have HNO := Lib.hid hno
      have HX1 := Lib.hid (fun W (hW : Below (w.alloc (.cells #[.int .i64 seq, .int .i64 len, .int .u32 (sum : Int)] 81)).heap.size (w.alloc (.cells #[.int .i64 seq, .int .i64 len, .int .u32 (sum : Int)] 81)) W) => (hW.block w.heap.size (by simp)).trans HX0.out)
      clear hno hrb hnI hln
      go_enter Try.func62, Try.ntmps62
      go_wp2_with (first
        | (go_at_call 99; refine (hri _).mono ?_; rintro e w1 ⟨rfl, hb1⟩
           have hx1 := HX1.out _ hb1
           have x1 := cells_of hx1 1 _ rfl)
        | (go_at_call 54; refine (hne _).mono ?_; rintro e w2 ⟨rfl, rfl⟩))
      go_ret2
      exact JoinPost.no HNO.out (HB0.out.trans (hb1.mono (by simp)))
end Go.Proofs.Ytmcjefdnkcpghaa
/- A BATCH'S SECTORS TELL ITS HEAD, ITS BYTES, ITS END: plainly. The walk of the law's 'same'. -/
namespace Go.Proofs.Ytmcjefdnkcpghaa
open Go.RowKit
theorem numL_beB (n : Nat) : ∀ m, n < 256 ^ m → numL (beB n m) = n := by
  have key : ∀ m a, (beB n m).foldl (fun a b => a * 256 + b.toNat) a = a * 256 ^ m + n % 256 ^ m := by
    intro m
    induction m with
    | zero => intro a; simp [beB, Nat.mod_one]
    | succ m ih =>
      intro a
      rw [beB, List.foldl_cons, ih, UInt8.toNat_ofNat']
      have h1 : n % 256 ^ (m + 1) = n / 256 ^ m % 256 * 256 ^ m + n % 256 ^ m := by
        rw [Nat.pow_succ, Nat.mod_mul, Nat.mul_comm (256 ^ m), Nat.add_comm]
      rw [h1, show (256 : Nat) ^ (m + 1) = 256 ^ m * 256 from Nat.pow_succ .., show (2 : Nat) ^ 8 = 256 from rfl]
      generalize 256 ^ m = p
      rw [Nat.add_mul, Nat.mul_assoc, Nat.mul_comm 256 p, Nat.add_assoc]
  intro m h
  have := key m 0
  rw [Nat.zero_mul, Nat.zero_add, Nat.mod_eq_of_lt h] at this
  exact this
theorem firstL_eq (a b c : Nat) : ∃ z, firstL a b c = be4 (Crc.on 0 (nats (72 :: beB a 8 ++ beB b 4 ++ beB c 4))) ++ (72 :: beB a 8 ++ beB b 4 ++ beB c 4) ++ z := by
  unfold firstL fillL wrapL; exact ⟨_, rfl⟩
theorem mid_take {α : Type} (x y z : List α) (i n : Nat) (hx : x.length = i) (hy : y.length = n) : ((x ++ y ++ z).drop i).take n = y := by
  rw [List.append_assoc, List.drop_append_of_le_length (by omega), List.drop_of_length_le (by omega), List.nil_append, List.take_append_of_le_length (by omega), List.take_of_length_le (by omega)]
theorem hd_firstL {a b c : Nat} (ha : a < 256 ^ 8) (hb : b < 256 ^ 4) (hc : c < 256 ^ 4) : hdS (firstL a b c) = a ∧ hdL (firstL a b c) = b ∧ hdC (firstL a b c) = c := by
  obtain ⟨z, hz⟩ := firstL_eq a b c
  have h4 : ∀ s, (be4 s).length = 4 := fun s => rfl
  refine ⟨?_, ?_, ?_⟩
  · unfold hdS
    rw [hz, show be4 (Crc.on 0 (nats (72 :: beB a 8 ++ beB b 4 ++ beB c 4))) ++ (72 :: beB a 8 ++ beB b 4 ++ beB c 4) ++ z = (be4 (Crc.on 0 (nats (72 :: beB a 8 ++ beB b 4 ++ beB c 4))) ++ [72]) ++ beB a 8 ++ (beB b 4 ++ beB c 4 ++ z) by simp]
    rw [mid_take _ _ _ 5 8 (by simp [h4]) (beB_len _ _), numL_beB _ _ ha]
  · unfold hdL
    rw [hz, show be4 (Crc.on 0 (nats (72 :: beB a 8 ++ beB b 4 ++ beB c 4))) ++ (72 :: beB a 8 ++ beB b 4 ++ beB c 4) ++ z = (be4 (Crc.on 0 (nats (72 :: beB a 8 ++ beB b 4 ++ beB c 4))) ++ (72 :: beB a 8)) ++ beB b 4 ++ (beB c 4 ++ z) by simp]
    rw [mid_take _ _ _ 13 4 (by simp [h4, beB_len]) (beB_len _ _), numL_beB _ _ hb]
  · unfold hdC
    rw [hz, show be4 (Crc.on 0 (nats (72 :: beB a 8 ++ beB b 4 ++ beB c 4))) ++ (72 :: beB a 8 ++ beB b 4 ++ beB c 4) ++ z = (be4 (Crc.on 0 (nats (72 :: beB a 8 ++ beB b 4 ++ beB c 4))) ++ (72 :: beB a 8 ++ beB b 4)) ++ beB c 4 ++ z by simp]
    rw [mid_take _ _ _ 17 4 (by simp [h4, beB_len]) (beB_len _ _), numL_beB _ _ hc]
theorem sumL_lt (l : List UInt8) : sumL l < 4294967296 := on0_lt l
theorem begin_first {sq n s : Nat} (h : rightB (sq : Int) (n : Int) = true) (hs : s < 4294967296) : beginB (firstL sq n s) = true ∧ beginV (firstL sq n s) = headV sq n s := by
  obtain ⟨q1, q2, q3, q4⟩ := rightB_yes h
  obtain ⟨e1, e2, e3⟩ := hd_firstL (a := sq) (b := n) (c := s) (by omega) (by omega) (by omega)
  have hb : beginB (firstL sq n s) = true := by
    unfold beginB
    rw [e1, e2, e3, firstL_len, h]; simp
  refine ⟨hb, ?_⟩
  unfold beginV
  rw [hb, if_pos rfl, e1, e2, e3]
theorem cutsL_all (l : List UInt8) : ∀ m ∈ cutsL l, m.length = 64 := by
  have key : ∀ (n : Nat) (l : List UInt8), l.length ≤ n → ∀ m ∈ cutsL l, m.length = 64 := by
    intro n
    induction n with
    | zero =>
      intro l h m hm
      obtain rfl : l = [] := List.eq_nil_of_length_eq_zero (by omega)
      rw [cutsL_nil] at hm; cases hm
    | succ n ih =>
      intro l h m hm
      by_cases h0 : l = []
      · subst h0; rw [cutsL_nil] at hm; cases hm
      · rw [cutsL_cons h0] at hm
        rcases List.mem_cons.1 hm with rfl | hm
        · exact fillL_len _ (List.length_take_le _ _)
        · have hp : 0 < l.length := List.length_pos_iff.2 h0
          exact ih _ (by rw [List.length_drop]; omega) m hm
  exact key l.length l (Nat.le_refl _)
theorem cutsL_flat (l : List UInt8) : ∃ k, (cutsL l).flatten = l ++ List.replicate k 0 := by
  have key : ∀ (n : Nat) (l : List UInt8), l.length ≤ n → ∃ k, (cutsL l).flatten = l ++ List.replicate k 0 := by
    intro n
    induction n with
    | zero =>
      intro l h
      obtain rfl : l = [] := List.eq_nil_of_length_eq_zero (by omega)
      rw [cutsL_nil]; exact ⟨0, rfl⟩
    | succ n ih =>
      intro l h
      by_cases h0 : l = []
      · subst h0; rw [cutsL_nil]; exact ⟨0, rfl⟩
      · have hp : 0 < l.length := List.length_pos_iff.2 h0
        rw [cutsL_cons h0, List.flatten_cons]
        by_cases h64 : 64 ≤ l.length
        · obtain ⟨k, hk⟩ := ih (l.drop 64) (by rw [List.length_drop]; omega)
          refine ⟨k, ?_⟩
          rw [hk]
          unfold fillL
          rw [List.length_take, Nat.min_eq_left h64, Nat.sub_self, List.replicate_zero, List.append_nil, ← List.append_assoc, List.take_append_drop]
        · rw [List.drop_of_length_le (by omega), cutsL_nil, List.take_of_length_le (by omega)]
          exact ⟨_, by simp [fillL]; rfl⟩
  exact key l.length l (Nat.le_refl _)
theorem join_cuts {sq : Nat} {l : List UInt8} (h : rightB (sq : Int) (l.length : Int) = true) : joinB (cutsL l) sq l.length (sumL l) = true ∧ joinL (cutsL l) sq l.length (sumL l) = l := by
  obtain ⟨q1, q2, q3, q4⟩ := rightB_yes h
  obtain ⟨k, hk⟩ := cutsL_flat l
  have hb : joinB (cutsL l) sq l.length (sumL l) = true := by
    unfold joinB joinOk
    rw [h, hk, Int.toNat_natCast, List.take_left', List.drop_left']
    · rw [decide_eq_true (show ((cutsL l).length : Int) = needI l.length - 2 from by
        rw [cutsL_len _ l (Nat.le_refl _)]; unfold needI; rw [if_neg (by omega)]; omega)]
      simp only [Bool.true_and, decide_true, Bool.and_true, Bool.and_eq_true, List.all_eq_true, decide_eq_true_eq]
      exact ⟨fun m hm => cutsL_all l m hm, fun b hb => (List.mem_replicate.1 hb).2⟩
    · rfl
    · rfl
  refine ⟨hb, ?_⟩
  unfold joinL
  rw [hb, if_pos rfl, hk, Int.toNat_natCast, List.take_left' rfl]
theorem end_last {sq s : Nat} (h1 : 1 ≤ sq) (h2 : sq ≤ 4611686018427387904) : endB (lastL sq s) sq s = true := by
  rw [endB_yes h1 h2]; simp
theorem blank_first (a b c : Nat) : blankB (firstL a b c) = false := by
  unfold blankB
  rw [decide_eq_false_iff_not]
  intro h
  obtain ⟨z, hz⟩ := firstL_eq a b c
  have h4 := congrArg (fun l => l[4]?) h
  simp only [hz] at h4
  simp [be4, fillL] at h4
/-- some of the elements -/
theorem Byts.mid {w : World} {B : Nat} {ad : Addr} {c : Nat} {ls : List (List UInt8)} (i j : Nat) (h : Byts w B (.slice (some ad) ls.length c) ls) (hij : i ≤ j) (hj : j ≤ ls.length) : Byts w B (.slice (some (ad.add i)) (j - i) (c - i)) ((ls.drop i).take (j - i)) := by
  obtain ⟨A', c', hv, hc, hm, hr⟩ := h
  simp only [Value.slice.injEq, true_and] at hv
  obtain ⟨hA, rfl⟩ := hv
  refine ⟨some (ad.add i), c - i, by rw [List.length_take, List.length_drop, Nat.min_eq_left (by omega)], by rw [List.length_take, List.length_drop]; omega, by omega, fun h0 => ?_⟩
  rw [List.length_take, List.length_drop] at h0
  obtain ⟨ad', e, hb, hx⟩ := hr (by omega)
  rw [← hA] at e
  cases e
  refine ⟨ad.add i, rfl, by rw [addr_add_block]; exact hb, fun k x hk => ?_⟩
  rw [addr_add_add]
  rw [List.getElem?_take] at hk
  split at hk
  · rw [List.getElem?_drop] at hk; exact hx _ x hk
  · cases hk
theorem Byts.drew {w : World} {B : Nat} {v : Value} {ls : List (List UInt8)} (h : Byts w B v ls) (n : Nat) : Byts (w.drewN n) B v ls := h.keep fun _ _ => rfl
end Go.Proofs.Ytmcjefdnkcpghaa
/- THE WALK OF the law's 'same'. -/
namespace Go.Proofs.Ytmcjefdnkcpghaa
open Go.RowKit
theorem bsA_bne (l m : List UInt8) : ((bsA l).toList != (bsA m).toList) = !decide (l = m) := by
  rw [ByteArray.toList_eq, ByteArray.toList_eq, bsA_list, bsA_list]
  by_cases h : l = m
  · subst h; simp
  · simp [h]
theorem drewN_below (w : World) (n : Nat) : Below w.heap.size w (w.drewN n) := ⟨rfl, rfl, rfl, Nat.le_refl _, fun _ _ => rfl⟩
theorem Byts.atv {w : World} {B : Nat} {A : Option Addr} {c : Nat} {ls : List (List UInt8)} (h : Byts w B (.slice A ls.length c) ls) (k : Nat) (hk : k < ls.length) : ∃ ad u, A = some ad ∧ ad.block < B ∧ w.cell? (ad.add k) = some u ∧ Byt w B u ls[k] := by
  obtain ⟨A', c', hv, _, _, hr⟩ := h
  obtain ⟨ad', hA, hb, hx⟩ := hr (by omega)
  cases hv
  subst hA
  obtain ⟨u, hu, hb2⟩ := hx k _ (List.getElem?_eq_getElem hk)
  exact ⟨ad', u, rfl, hb, hu, hb2⟩
set_option maxRecDepth 100000 in
set_option maxHeartbeats 2000000 in
theorem lsame_any {w : World} {B1 B2 : Nat} {a b : Value} {la lb : List (List UInt8)} (ha : Byts w B1 a la) (hb : Byts w B2 b lb) (hl : la.length ≤ 100000) : Calls Try.prog 52 #[a, b] w fun e w' => e = .returned (.bool (decide (la = lb))) ∧ Below w.heap.size w w' := by
  obtain ⟨A1, c1, rfl, hc1, hm1⟩ := ha.form
  obtain ⟨A2, c2, rfl, hc2, hm2⟩ := hb.form
  unfold maxLen at hm1 hm2
  by_cases hlen : la.length = lb.length
  · have e1 : decide (la.length = lb.length) = true := decide_eq_true hlen
    have hle : la.length ≤ lb.length := by omega
    have hge : lb.length ≤ la.length := by omega
    have HA := Lib.hid ha
    have HB := Lib.hid hb
    have HLEN := Lib.hid hlen
    clear ha hb hlen e1
    go_enter Try.func52, Try.ntmps52
    go_wp2
    go_loopg [5, 13] la.length (fun gk x5 x13 wr => ∃ k : Nat, gk = la.length - k ∧ k ≤ la.length ∧ x13 = .int .i64 (k : Int) ∧ la.take k = lb.take k ∧ Below w.heap.size w wr)
    case atStart => exact ⟨0, rfl, Nat.zero_le _, rfl, rfl, Below.refl _ _⟩
    case round =>
      obtain ⟨k, hgk, hk, rfl, htk, hbel⟩ := hrel
      have HG := Lib.hid hgk
      have HTK := Lib.hid htk
      have HBE := Lib.hid hbel
      clear hgk htk
      by_cases h : k < la.length
      · obtain ⟨ad1, u1, rfl, _, hc1', hb1⟩ := (HA.out.heap.below HBE.out).atv k h
        obtain ⟨ad2, u2, rfl, _, hc2', hb2⟩ := (HB.out.heap.below HBE.out).atv k (by omega)
        have q1 : ∀ n, (convert 23 9 u1).run Try.prog (wr.drewN n) = .ok (.string (bsA la[k])) (wr.drewN n) := fun n => (show Byt (wr.drewN n) w.heap.size u1 _ from hb1).strA
        have q2 : ∀ n, (convert 23 9 u2).run Try.prog (wr.drewN n) = .ok (.string (bsA lb[k])) (wr.drewN n) := fun n => (show Byt (wr.drewN n) w.heap.size u2 _ from hb2).strA
        have ht1 : la.take (k + 1) = la.take k ++ [la[k]] := List.take_succ_eq_append_getElem h
        have ht2 : lb.take (k + 1) = lb.take k ++ [lb[k]] := List.take_succ_eq_append_getElem (by omega)
        have hne : la[k] ≠ lb[k] → la ≠ lb := fun h1 e => h1 (by subst e; rfl)
        have i1 : (0 : Int) ≤ (k : Int) := by omega
        have i2 : (k : Int) < (la.length : Int) := by omega
        have i3 : (k : Int) < (lb.length : Int) := by omega
        have i4 : k < lb.length := by omega
        by_cases hx : la[k] = lb[k]
        · have HT := Lib.hid (show la.take (k + 1) = lb.take (k + 1) by rw [ht1, ht2, HTK.out, hx])
          rw [hx] at q1
          clear ht1 ht2 hne hx hb1 hb2
          generalize bsA lb[k] = sk at *
          go_wp2
          go_quiet (fail)
          go_wp2
          go_roundg (la.length - (k + 1))
          case measure => have := HG.out; omega
          case rel => exact ⟨k + 1, rfl, by omega, by go_num, HT.out, HBE.out.trans ((drewN_below wr nq).mono HBE.out.size)⟩
        · have HNE := Lib.hid (decide_eq_false (hne hx))
          have e5 : ((bsA la[k]).toList == (bsA lb[k]).toList) = false := by
            have := bsA_bne la[k] lb[k]
            rw [decide_eq_false hx] at this
            unfold bne at this
            simpa using this
          have e6 : ((bsA la[k]).toList != (bsA lb[k]).toList) = true := by rw [bsA_bne, decide_eq_false hx]; rfl
          clear ht1 ht2 hne hx hb1 hb2
          generalize bsA la[k] = s1 at *
          generalize bsA lb[k] = s2 at *
          go_wp2
          go_quiet (fail)
          go_wp2
          go_ret
          exact ⟨ret_bool HNE.out.symm, HBE.out.trans ((drewN_below wr nq).mono HBE.out.size)⟩
      · have heq : la = lb := by
          have := HTK.out
          rw [List.take_of_length_le (by omega), List.take_of_length_le (by omega)] at this
          exact this
        have HEQ := Lib.hid heq
        clear heq
        go_wp2
        go_ret
        exact ⟨ret_bool (decide_eq_true HEQ.out).symm, HBE.out⟩
  · have HNE := Lib.hid (show decide (la = lb) = false from decide_eq_false fun e => hlen (by rw [e]))
    have e1 : decide (la.length = lb.length) = false := decide_eq_false hlen
    have e2 : ((la.length : Int) == (lb.length : Int)) = false := by rw [beq_eq_false_iff_ne]; omega
    have e3 : ((la.length : Int) != (lb.length : Int)) = true := by simp; omega
    have e4 : (la.length == lb.length) = false := by rw [beq_eq_false_iff_ne]; exact hlen
    clear hlen ha hb
    go_enter Try.func52, Try.ntmps52
    go_wp2
    go_ret
    exact ⟨ret_bool HNE.out.symm, Below.refl _ _⟩
end Go.Proofs.Ytmcjefdnkcpghaa
