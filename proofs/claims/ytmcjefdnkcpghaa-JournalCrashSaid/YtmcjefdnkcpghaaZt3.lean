/- THE WALK OF tape.Join. -/
import Derived.Test.YtmcjefdnkcpghaaZt2
import Derived.Test.YtmcjefdnkcpghaaZg
import Derived.Lib.SlBytesConst
import Derived.Lib.AppendZerosOnto
namespace Go.Proofs.Ytmcjefdnkcpghaa
open Go.RowKit
def joinOk (ls : List (List UInt8)) (len : Int) (sum : Nat) : Bool := ls.all (fun l => decide (l.length = 64)) && ((ls.flatten.drop len.toNat).all (fun b => decide (b = 0)) && decide (sumL (ls.flatten.take len.toNat) = sum))
def joinB (ls : List (List UInt8)) (seq len : Int) (sum : Nat) : Bool := rightB seq len && (decide ((ls.length : Int) = needI len - 2) && joinOk ls len sum)
/-- a batch's bytes, out of its pages -/
def joinL (ls : List (List UInt8)) (seq len : Int) (sum : Nat) : List UInt8 := if joinB ls seq len sum then ls.flatten.take len.toNat else []
def JoinPost (w : World) (ls : List (List UInt8)) (seq len : Int) (sum : Nat) (e : Ending) (w' : World) : Prop := ∃ v, e = .returned (.tuple #[v, .bool (joinB ls seq len sum)]) ∧ BytN (fun b => w.heap.size ≤ b) w' v (joinL ls seq len sum) ∧ Below w.heap.size w w'
theorem JoinPost.no {w w' : World} {ls : List (List UInt8)} {seq len : Int} {sum : Nat} (h : joinB ls seq len sum = false) (hb : Below w.heap.size w w') : JoinPost w ls seq len sum (.returned (.tuple #[.slice none 0 0, .bool false])) w' := by
  unfold JoinPost joinL
  rw [h, if_neg (by simp)]
  exact ⟨_, rfl, ⟨Byt.nil_ _ _, fun ad n c e => by cases e⟩, hb⟩
theorem JoinPost.yes {w w' : World} {ls : List (List UInt8)} {seq len : Int} {sum : Nat} {v : Value} (h : joinB ls seq len sum = true) (hv : BytN (fun b => w.heap.size ≤ b) w' v (ls.flatten.take len.toNat)) (hb : Below w.heap.size w w') : JoinPost w ls seq len sum (.returned (.tuple #[v, .bool true])) w' := by
  unfold JoinPost joinL
  rw [h, if_pos rfl]
  exact ⟨_, rfl, hv, hb⟩
theorem bytn_take {D : Nat → Prop} {w : World} {A : Option Addr} {c : Nat} {l : List UInt8} (k : Nat) (h : BytN D w (.slice A l.length c) l) (hk : k ≤ l.length) : BytN D w (.slice A k c) (l.take k) := by
  refine ⟨byt_take k h.1 hk, fun ad n' c' e h0 => ?_⟩
  cases e
  rw [List.length_take] at h0
  exact h.2 ad l.length c rfl (by omega)
theorem flat_len {ls : List (List UInt8)} (h : ls.all (fun l => decide (l.length = 64)) = true) : ls.flatten.length = 64 * ls.length := by
  induction ls with
  | nil => rfl
  | cons l ls ih =>
    rw [List.all_cons, Bool.and_eq_true, decide_eq_true_eq] at h
    rw [List.flatten_cons, List.length_append, h.1, ih h.2, List.length_cons]; omega
theorem take_flat (ls : List (List UInt8)) (k : Nat) (h : k < ls.length) : (ls.take (k + 1)).flatten = (ls.take k).flatten ++ ls[k] := by
  rw [List.take_succ_eq_append_getElem h, List.flatten_append]; simp
theorem take_all (ls : List (List UInt8)) (k : Nat) (h : k < ls.length) : (ls.take (k + 1)).all (fun l => decide (l.length = 64)) = ((ls.take k).all (fun l => decide (l.length = 64)) && decide (ls[k].length = 64)) := by
  rw [List.take_succ_eq_append_getElem h, List.all_append]; simp
theorem not_all {ls : List (List UInt8)} {k : Nat} (h : k < ls.length) (h64 : ls[k].length ≠ 64) : ls.all (fun l => decide (l.length = 64)) = false := by
  rw [List.all_eq_false]
  exact ⟨ls[k], List.getElem_mem h, by simp [h64]⟩
theorem not_zero {l : List UInt8} {k : Nat} (h : k < l.length) (h0 : l[k] ≠ 0) : l.all (fun b => decide (b = 0)) = false := by
  rw [List.all_eq_false]
  exact ⟨l[k], List.getElem_mem h, by simp [h0]⟩
theorem Byts.form {w : World} {B : Nat} {v : Value} {ls : List (List UInt8)} (h : Byts w B v ls) : ∃ A c, v = .slice A ls.length c ∧ ls.length ≤ c ∧ c ≤ maxLen := by
  obtain ⟨A, c, h1, h2, h3, _⟩ := h; exact ⟨A, c, h1, h2, h3⟩
/-- element k, as the walk asks for it -/
theorem Byts.at_ {w : World} {B : Nat} {ad : Addr} {c : Nat} {ls : List (List UInt8)} (h : Byts w B (.slice (some ad) ls.length c) ls) (k : Nat) (hk : k < ls.length) : ∃ A n cu, w.cell? (ad.add k) = some (.slice A n cu) ∧ n = ls[k].length ∧ n ≤ cu ∧ cu ≤ 9223372036854775807 ∧ Byt w B (.slice A n cu) ls[k] := by
  obtain ⟨A, c', hv, _, _, hr⟩ := h
  obtain ⟨ad', hA, _, hx⟩ := hr (by omega)
  cases hv
  cases hA
  obtain ⟨u, hu, hb⟩ := hx k _ (List.getElem?_eq_getElem hk)
  obtain ⟨A2, c2, rfl, h1, h2, h3⟩ := id hb
  exact ⟨A2, _, c2, hu, rfl, h1, by unfold maxLen at h2; omega, hb⟩
set_option maxRecDepth 100000 in
set_option maxHeartbeats 4000000 in
theorem join_any {w : World} {B : Nat} {v : Value} {ls : List (List UInt8)} (hv : Byts w B v ls) (seq len : Int) (sum : Nat) (_hsum : sum < 4294967296) : Calls Try.prog 61 #[v, headV seq len sum] w (JoinPost w ls seq len sum) := by
  have hri := right_any seq len sum
  have hv' := hv.heap
  obtain ⟨A, c, rfl, hc, hm⟩ := hv.form
  unfold maxLen at hm
  clear hv
  have hx0 := heap_alloc_new w (.cells #[.int .i64 seq, .int .i64 len, .int .u32 (sum : Int)] 77 (0, 0))
  have hb0 := (Below.refl w.heap.size w).alloc (Nat.le_refl _) (.cells #[.int .i64 seq, .int .i64 len, .int .u32 (sum : Int)] 77)
  have HV := Lib.hid hv'
  have HX0 := Lib.hid hx0
  have HB0 := Lib.hid hb0
  clear hv' hx0 hb0
  cases hrb : rightB seq len with
  | false =>
    have hno : joinB ls seq len sum = false := by unfold joinB; rw [hrb]; rfl
    rw [hrb] at hri
    unfold headV at hri ⊢
    have HNO := Lib.hid hno
    clear hno hrb
    go_enter Try.func61, Try.ntmps61
    go_wp2_with (first
      | (go_at_call 95; refine (hri _).mono ?_; rintro e w1 ⟨rfl, hb1⟩))
    go_ret2
    exact JoinPost.no HNO.out (HB0.out.trans (hb1.mono (by simp)))
  | true =>
    obtain ⟨q1, q2, q3, q4⟩ := rightB_yes hrb
    have hne := fun w => need_any len w
    have hnI : needI len = 2 + (len + 63) / 64 := by unfold needI; rw [if_neg (by omega)]
    by_cases hln : (ls.length : Int) = needI len - 2
    · have hJB : joinB ls seq len sum = joinOk ls len sum := by unfold joinB; rw [hrb, decide_eq_true hln]; simp
      rw [hrb] at hri
      rw [hnI] at hne hln
      obtain ⟨ln, rfl⟩ : ∃ k : Nat, len = (k : Int) := ⟨len.toNat, by omega⟩
      have hl1 : 0 < ls.length := by omega
      have hl2 : ls.length ≤ 2048 := by omega
      have hl3 : ln ≤ 64 * ls.length := by omega
      have hl4 : ((ls.length : Int)) + 2 = 2 + ((ln : Int) + 63) / 64 := by omega
      have e1 : ((ls.length : Int) == 2 + ((ln : Int) + 63) / 64 - 2) = true := by rw [beq_iff_eq]; omega
      have e2 : ((ls.length : Int) != 2 + ((ln : Int) + 63) / 64 - 2) = false := by simp [e1, bne]
      obtain ⟨ad, rfl, hadb, _⟩ : ∃ ad : Addr, A = some ad ∧ ad.block < w.heap.size ∧ True := by
        obtain ⟨A', c', hv', _, _, hr⟩ := HV.out
        obtain ⟨ad, hA, hb, _⟩ := hr hl1
        cases hv'
        exact ⟨ad, hA, hb, trivial⟩
      unfold headV at hri ⊢
      have HJB := Lib.hid hJB
      have HX1 := Lib.hid (fun W (hW : Below (w.alloc (.cells #[.int .i64 seq, .int .i64 (ln : Int), .int .u32 (sum : Int)] 77)).heap.size (w.alloc (.cells #[.int .i64 seq, .int .i64 (ln : Int), .int .u32 (sum : Int)] 77)) W) => (hW.block w.heap.size (by simp)).trans HX0.out)
      clear hJB hrb hnI hln hl4
      go_enter Try.func61, Try.ntmps61
      go_wp2_with (first
        | (go_at_call 95; refine (hri _).mono ?_; rintro e w1 ⟨rfl, hb1⟩
           have hx1 := HX1.out _ hb1
           have x1 := cells_of hx1 1 _ rfl)
        | (go_at_call 53; refine (hne _).mono ?_; rintro e w2 ⟨rfl, rfl⟩))
      have hb01 := HB0.out.trans (hb1.mono (by simp))
      have HX := Lib.hid hx1
      have HB01 := Lib.hid hb01
      clear hx1 x1 hb1 hb01 e1 e2 hri hne
      go_loopg [6, 27] ls.length (fun gk x6 x27 wr => ∃ k : Nat, gk = ls.length - k ∧ k ≤ ls.length ∧ x27 = .int .i64 (k : Int) ∧ Own wr w.heap.size x6 (ls.take k).flatten ∧ (ls.take k).all (fun l => decide (l.length = 64)) = true ∧
        wr.heap[w.heap.size]? = some (.cells #[.int .i64 seq, .int .i64 (ln : Int), .int .u32 (sum : Int)] 77 (0, 0)) ∧ Below w.heap.size w wr)
      case atStart => exact ⟨0, rfl, Nat.zero_le _, rfl, Own.nil_ _ _, rfl, HX.out, HB01.out⟩
      case round =>
        clear HX HB01
        obtain ⟨k, hgk, hk, rfl, hown, hall, hx, hbel⟩ := hrel
        have HG := Lib.hid hgk
        have HX := Lib.hid hx
        have HALL := Lib.hid hall
        have HBE := Lib.hid hbel
        have hwr := hbel.size
        have hfl := flat_len hall
        rw [List.length_take, Nat.min_eq_left hk] at hfl
        clear hgk hx hall
        by_cases h : k < ls.length
        · obtain ⟨Ak, nk, ck, hcell, hnk, hc1, hc2, hbk⟩ := ((HV.out.below HBE.out)).at_ k h
          have hta := take_all ls k h
          have htf := take_flat ls k h
          have hna := not_all h
          generalize ls[k] = lk at *
          by_cases h64 : lk.length = 64
          · obtain rfl : nk = 64 := by omega
            have HBK := Lib.hid hbk
            have HTA := Lib.hid hta
            have HTF := Lib.hid htf
            have H64 := Lib.hid h64
            have HOWN := Lib.hid hown
            have hlr : (ls.take k).flatten.length + lk.length ≤ 140737488355328 := by omega
            clear hna hbk hta htf h64 hnk hfl hown
            go_wp2_with ((with_reducible show wpList _ _ _ (⟨some 36, _, _, _, _, _⟩ :: _) _ _); go_must (refine wpList_append_byt _ rfl (.tmp 34) (.tmp 35) rfl w.heap.size _ _ rfl HOWN.out _ _ lk rfl HBK.out hlr hwr ?_); intro v' w' ho' hg' _; have HO' := Lib.hid ho'; clear ho')
            go_roundg (ls.length - (k + 1))
            case measure => have := HG.out; omega
            case rel =>
              refine ⟨k + 1, rfl, by omega, by go_num, by rw [HTF.out]; exact HO'.out, by rw [HTA.out, HALL.out, H64.out]; rfl, ?_, HBE.out.grown hg' hwr (fun g hg => (HOWN.out.lt g hg).1)⟩
              exact (hg'.block w.heap.size (lt_of_block HX.out) (fun e => HOWN.out.apart HX.out (by decide) e.symm)).trans HX.out
          · have hno : joinB ls seq ln sum = false := by rw [HJB.out]; unfold joinOk; rw [hna h64]; rfl
            have HNO := Lib.hid hno
            have e3 : ((nk : Int) == 64) = false := by rw [beq_eq_false_iff_ne]; omega
            have e4 : ((nk : Int) != 64) = true := by simp; omega
            clear hno h64 hta htf hna hbk hnk hfl hown
            go_wp2
            go_ret2
            exact JoinPost.no HNO.out HBE.out
        · obtain rfl : k = ls.length := by omega
          rw [List.take_length] at hown hfl
          have hal := HALL.out
          rw [List.take_length] at hal
          have hjb := HJB.out
          unfold joinOk at hjb
          rw [hal, Bool.true_and, Int.toNat_natCast] at hjb
          clear HJB HALL hal h
          generalize hF : ls.flatten = F at *
          obtain ⟨g, cap, rfl, hgw, hcap1, hcap2⟩ : ∃ g cap, u6 = .slice (some ⟨g, 0, none⟩) F.length cap ∧ w.heap.size ≤ g ∧ F.length ≤ cap ∧ cap ≤ maxLen := by
            rcases hown.2 with ⟨_, hn⟩ | ⟨g, cap, cur, e, hb', hg, hc, hm, _⟩
            · omega
            · exact ⟨g, cap, e, hb', hc, hm⟩
          unfold maxLen at hcap2
          have hFb := hown.byt
          have x1 := cells_of HX.out 1 _ rfl
          have i1 : (0 : Int) ≤ (ln : Int) := by omega
          have i2 : (ln : Int) ≤ (F.length : Int) := by omega
          have i3 : (ln : Int) ≤ (cap : Int) := by omega
          have i4 : (F.length : Int) ≤ (cap : Int) := by omega
          have hlF : ln ≤ F.length := by omega
          have HT := Lib.hid (bytn_take ln (hown.bytn (D := fun b => w.heap.size ≤ b) (fun _ h => h)) hlF)
          have hrl : (F.drop ln).length = F.length - ln := List.length_drop
          have HF := Lib.hid hF
          have HJ := Lib.hid hjb
          have HRL := Lib.hid hrl
          clear hF hjb hown hfl hrl
          by_cases hcl : cap = ln
          · have hFl : F.length = ln := by omega
            have HFL := Lib.hid hFl
            have HFB := Lib.hid hFb
            clear hFb hFl
            obtain rfl : ln = cap := hcl.symm
            go_wp2
            go_quiet (fail)
            go_wp2
            -- tail a
            go_loopg [48] 0 (fun gk x48 wq => gk = 0 ∧ x48 = .int .i64 0 ∧ wq = wr.drewN nq)
            case atStart => exact ⟨rfl, rfl, rfl⟩
            case round =>
              obtain ⟨_, rfl, rfl⟩ := hrel
              have HZ := Lib.hid (show (F.drop ln).all (fun b => decide (b = 0)) = true by rw [List.drop_of_length_le (by omega)]; rfl)
              have hsu := fun (W : World) (hW : Below (wr.drewN nq).drew.heap.size (wr.drewN nq).drew W) => sum_any _ _ W _ ((show Byt (wr.drewN nq).drew wr.heap.size _ _ from HT.out.1).below hW)
              have hbx := fun (W : World) (hW : Below (wr.drewN nq).drew.heap.size (wr.drewN nq).drew W) => cells_of ((hW.block w.heap.size (lt_of_block HX.out)).trans HX.out) 2 _ rfl
              change ∀ W, _ → Calls _ _ _ W (fun e w' => e = .returned (.int .u32 (sumL (F.take ln) : Int)) ∧ _) at hsu
              have hjj : joinB ls seq ln sum = decide (sumL (F.take ln) = sum) := by rw [HJ.out, HZ.out]; rfl
              generalize sumL (F.take ln) = S at *
              have HSU := Lib.hid hsu
              have HBX := Lib.hid hbx
              have HJJ := Lib.hid hjj
              clear hsu hbx hjj
              go_wp2
              refine wp_region_sp (by kernel_rfl) [isS (.slice (some ⟨g, 0, none⟩) ln ln), isS (.int .u32 (S : Int)), isS (.pointer (some ⟨w.heap.size, 2, none⟩)), isS (.int .u32 (sum : Int)), isS (.bool ((S : Int) != (sum : Int)))] (by kernel_rfl) (by kernel_rfl) (fun i hi => ?_) (fun a w5 hc hs => ?_)
              · match i, hi with
                | 0, _ =>
                  intro a W hc hd
                  have z9 := hc.same 9 (by kernel_rfl)
                  simp only [List.getElem?_toArray, List.getElem?_cons_succ, List.getElem?_cons_zero, Option.getD_some] at z9
                  refine obl_val rfl (wanted_none rfl) ?_ rfl
                  go_simp
                | 1, _ =>
                  intro a W hc hd
                  have s0 : a.tmps[55]?.getD undef = (.slice (some ⟨g, 0, none⟩) ln ln) := hd 0 (by kernel_rfl)
                  refine obl_call rfl (wanted_none rfl) (by go_simp) (HSU.out W (hc.below)) ?_
                  rintro e w8 ⟨rfl, hb8⟩
                  exact ⟨_, rfl, rfl, hb8⟩
                | 2, _ =>
                  intro a W hc hd
                  have z3 := hc.same 3 (by kernel_rfl)
                  simp only [List.getElem?_toArray, List.getElem?_cons_succ, List.getElem?_cons_zero, Option.getD_some] at z3
                  refine obl_val rfl (wanted_none rfl) ?_ rfl
                  go_simp
                | 3, _ =>
                  intro a W hc hd
                  have s2 : a.tmps[57]?.getD undef = (.pointer (some ⟨w.heap.size, 2, none⟩)) := hd 2 (by kernel_rfl)
                  have q2 := HBX.out W hc.below
                  refine obl_val rfl (wanted_none rfl) ?_ rfl
                  go_simp
                | 4, _ =>
                  intro a W hc hd
                  have s1 : a.tmps[56]?.getD undef = (.int .u32 (S : Int)) := hd 1 (by kernel_rfl)
                  have s3 : a.tmps[58]?.getD undef = (.int .u32 (sum : Int)) := hd 3 (by kernel_rfl)
                  refine obl_val rfl (wanted_none rfl) ?_ rfl
                  go_simp
                | n + 5, h => exact absurd h (by simp)
              · skip
                have hfr := grow_frame hc [(55, (.slice (some ⟨g, 0, none⟩) ln ln)), (56, (.int .u32 (S : Int))), (57, (.pointer (some ⟨w.heap.size, 2, none⟩))), (58, (.int .u32 (sum : Int))), (59, (.bool ((S : Int) != (sum : Int))))] (by kernel_rfl) (fun p hp => by
                    simp only [List.mem_cons, List.not_mem_nil, or_false] at hp
                    rcases hp with rfl | rfl | rfl | rfl | rfl
                    · exact hs 0 55 (by decide) (by kernel_rfl)
                    · exact hs 1 56 (by decide) (by kernel_rfl)
                    · exact hs 2 57 (by decide) (by kernel_rfl)
                    · exact hs 3 58 (by decide) (by kernel_rfl)
                    · exact hs 4 59 (by decide) (by kernel_rfl)
                    )
                simp only [List.range, List.range.loop, List.size_toArray, List.length_cons, List.length_nil, List.map_cons, List.map_nil, List.lookup_cons, List.lookup_nil, Nat.reduceAdd, Nat.reduceBEq, Option.getD_some, Option.getD_none, List.getElem?_toArray, List.getElem?_cons_succ, List.getElem?_cons_zero] at hfr
                subst hfr
                have hb5 : Below w.heap.size w w5 := HBE.out.trans (((show Below wr.heap.size wr (wr.drewN nq).drew from ⟨rfl, rfl, rfl, Nat.le_refl _, fun _ _ => rfl⟩).trans hc.below).mono hwr)
                have HTW := Lib.hid ((show BytN (fun b => w.heap.size ≤ b) (wr.drewN nq).drew _ _ from HT.out).below hc.below)
                have HB5 := Lib.hid hb5
                clear hs hc hb5
                by_cases hS : S = sum
                · have e7 : ((S : Int) != (sum : Int)) = false := by rw [hS]; simp
                  have HYES := Lib.hid (show joinB ls seq ln sum = true by rw [HJJ.out, decide_eq_true hS])
                  rw [e7]
                  clear hS e7
                  go_wp2
                  go_ret2
                  exact JoinPost.yes HYES.out (by rw [HF.out, Int.toNat_natCast]; exact HTW.out) HB5.out
                · have e7 : ((S : Int) != (sum : Int)) = true := by simp; omega
                  have HNO := Lib.hid (show joinB ls seq ln sum = false by rw [HJJ.out, decide_eq_false hS])
                  rw [e7]
                  clear hS e7
                  go_wp2
                  go_ret2
                  exact JoinPost.no HNO.out HB5.out
            -- end a
          · have i5 : ¬ cap = ln := hcl
            have HFB := Lib.hid hFb
            clear hFb
            go_wp2
            go_quiet (fail)
            go_wp2
            -- tail b
            go_loopg [48] (F.length - ln) (fun gk x48 wq => ∃ k : Nat, gk = F.length - ln - k ∧ k ≤ F.length - ln ∧ x48 = .int .i64 (k : Int) ∧ ((F.drop ln).take k).all (fun b => decide (b = 0)) = true ∧ wq = wr.drewN nq)
            case atStart => exact ⟨0, rfl, Nat.zero_le _, rfl, rfl, rfl⟩
            case round =>
              obtain ⟨k, hgk, hk, rfl, hz, rfl⟩ := hrel
              have HG2 := Lib.hid hgk
              clear hgk
              by_cases h : k < F.length - ln
              · have hx : F[ln + k]? = some F[ln + k] := List.getElem?_eq_getElem (by omega)
                have hcx : wr.cell? ⟨g, ln + k, none⟩ = some (bV F[ln + k]) := by
                  obtain ⟨A', c', e, _, _, hrr⟩ := HFB.out
                  obtain ⟨ad', e2, _, hq⟩ := hrr (by omega)
                  cases e; cases e2
                  have := hq _ _ hx
                  rwa [addr_mk_add, Nat.zero_add] at this
                unfold bV at hcx
                have hts : (F.drop ln).take (k + 1) = (F.drop ln).take k ++ [F[ln + k]] := drop_take_snoc F ln k (by omega)
                have hnz : F[ln + k] ≠ 0 → (F.drop ln).all (fun b => decide (b = 0)) = false := fun h0 => not_zero (k := k) (by rw [HRL.out]; exact h) (by rw [List.getElem_drop]; exact h0)
                generalize F[ln + k] = x at *
                have hxb := x.toNat_lt
                have HTS := Lib.hid hts
                have HZ := Lib.hid hz
                by_cases hx0 : x = 0
                · have e5 : ((x.toNat : Int) == 0) = true := by rw [hx0]; rfl
                  have e6 : ((x.toNat : Int) != 0) = false := by rw [hx0]; rfl
                  have HX0 := Lib.hid hx0
                  clear hx hts hz hnz hx0
                  go_wp2
                  go_roundg (F.length - ln - (k + 1))
                  case measure => have := HG2.out; omega
                  case rel => exact ⟨k + 1, rfl, by omega, by go_num, by rw [HTS.out, List.all_append, HZ.out, HX0.out]; rfl, rfl⟩
                · have hn0 : x.toNat ≠ 0 := fun e => hx0 (UInt8.toNat_inj.1 (by simpa using e))
                  have e5 : ((x.toNat : Int) == 0) = false := by rw [beq_eq_false_iff_ne]; omega
                  have e6 : ((x.toNat : Int) != 0) = true := by simp; omega
                  have HNO := Lib.hid (show joinB ls seq ln sum = false by rw [HJ.out, hnz hx0]; rfl)
                  clear hx hts hz hnz hx0 hn0
                  go_wp2
                  go_ret2
                  exact JoinPost.no HNO.out (HBE.out.trans ⟨rfl, rfl, rfl, Nat.le_refl _, fun _ _ => rfl⟩)
              · obtain rfl : k = F.length - ln := by omega
                have HZ := Lib.hid (show (F.drop ln).all (fun b => decide (b = 0)) = true by rw [List.take_of_length_le (by rw [HRL.out]; exact Nat.le_refl _)] at hz; exact hz)
                clear hz h
                have hsu := fun (W : World) (hW : Below (wr.drewN nq).drew.heap.size (wr.drewN nq).drew W) => sum_any _ _ W _ ((show Byt (wr.drewN nq).drew wr.heap.size _ _ from HT.out.1).below hW)
                have hbx := fun (W : World) (hW : Below (wr.drewN nq).drew.heap.size (wr.drewN nq).drew W) => cells_of ((hW.block w.heap.size (lt_of_block HX.out)).trans HX.out) 2 _ rfl
                change ∀ W, _ → Calls _ _ _ W (fun e w' => e = .returned (.int .u32 (sumL (F.take ln) : Int)) ∧ _) at hsu
                have hjj : joinB ls seq ln sum = decide (sumL (F.take ln) = sum) := by rw [HJ.out, HZ.out]; rfl
                generalize sumL (F.take ln) = S at *
                have HSU := Lib.hid hsu
                have HBX := Lib.hid hbx
                have HJJ := Lib.hid hjj
                clear hsu hbx hjj
                go_wp2
                refine wp_region_sp (by kernel_rfl) [isS (.slice (some ⟨g, 0, none⟩) ln cap), isS (.int .u32 (S : Int)), isS (.pointer (some ⟨w.heap.size, 2, none⟩)), isS (.int .u32 (sum : Int)), isS (.bool ((S : Int) != (sum : Int)))] (by kernel_rfl) (by kernel_rfl) (fun i hi => ?_) (fun a w5 hc hs => ?_)
                · match i, hi with
                  | 0, _ =>
                    intro a W hc hd
                    have z9 := hc.same 9 (by kernel_rfl)
                    simp only [List.getElem?_toArray, List.getElem?_cons_succ, List.getElem?_cons_zero, Option.getD_some] at z9
                    refine obl_val rfl (wanted_none rfl) ?_ rfl
                    go_simp
                  | 1, _ =>
                    intro a W hc hd
                    have s0 : a.tmps[55]?.getD undef = (.slice (some ⟨g, 0, none⟩) ln cap) := hd 0 (by kernel_rfl)
                    refine obl_call rfl (wanted_none rfl) (by go_simp) (HSU.out W (hc.below)) ?_
                    rintro e w8 ⟨rfl, hb8⟩
                    exact ⟨_, rfl, rfl, hb8⟩
                  | 2, _ =>
                    intro a W hc hd
                    have z3 := hc.same 3 (by kernel_rfl)
                    simp only [List.getElem?_toArray, List.getElem?_cons_succ, List.getElem?_cons_zero, Option.getD_some] at z3
                    refine obl_val rfl (wanted_none rfl) ?_ rfl
                    go_simp
                  | 3, _ =>
                    intro a W hc hd
                    have s2 : a.tmps[57]?.getD undef = (.pointer (some ⟨w.heap.size, 2, none⟩)) := hd 2 (by kernel_rfl)
                    have q2 := HBX.out W hc.below
                    refine obl_val rfl (wanted_none rfl) ?_ rfl
                    go_simp
                  | 4, _ =>
                    intro a W hc hd
                    have s1 : a.tmps[56]?.getD undef = (.int .u32 (S : Int)) := hd 1 (by kernel_rfl)
                    have s3 : a.tmps[58]?.getD undef = (.int .u32 (sum : Int)) := hd 3 (by kernel_rfl)
                    refine obl_val rfl (wanted_none rfl) ?_ rfl
                    go_simp
                  | n + 5, h => exact absurd h (by simp)
                · skip
                  have hfr := grow_frame hc [(55, (.slice (some ⟨g, 0, none⟩) ln cap)), (56, (.int .u32 (S : Int))), (57, (.pointer (some ⟨w.heap.size, 2, none⟩))), (58, (.int .u32 (sum : Int))), (59, (.bool ((S : Int) != (sum : Int))))] (by kernel_rfl) (fun p hp => by
                      simp only [List.mem_cons, List.not_mem_nil, or_false] at hp
                      rcases hp with rfl | rfl | rfl | rfl | rfl
                      · exact hs 0 55 (by decide) (by kernel_rfl)
                      · exact hs 1 56 (by decide) (by kernel_rfl)
                      · exact hs 2 57 (by decide) (by kernel_rfl)
                      · exact hs 3 58 (by decide) (by kernel_rfl)
                      · exact hs 4 59 (by decide) (by kernel_rfl)
                      )
                  simp only [List.range, List.range.loop, List.size_toArray, List.length_cons, List.length_nil, List.map_cons, List.map_nil, List.lookup_cons, List.lookup_nil, Nat.reduceAdd, Nat.reduceBEq, Option.getD_some, Option.getD_none, List.getElem?_toArray, List.getElem?_cons_succ, List.getElem?_cons_zero] at hfr
                  subst hfr
                  have hb5 : Below w.heap.size w w5 := HBE.out.trans (((show Below wr.heap.size wr (wr.drewN nq).drew from ⟨rfl, rfl, rfl, Nat.le_refl _, fun _ _ => rfl⟩).trans hc.below).mono hwr)
                  have HTW := Lib.hid ((show BytN (fun b => w.heap.size ≤ b) (wr.drewN nq).drew _ _ from HT.out).below hc.below)
                  have HB5 := Lib.hid hb5
                  clear hs hc hb5
                  by_cases hS : S = sum
                  · have e7 : ((S : Int) != (sum : Int)) = false := by rw [hS]; simp
                    have HYES := Lib.hid (show joinB ls seq ln sum = true by rw [HJJ.out, decide_eq_true hS])
                    rw [e7]
                    clear hS e7
                    go_wp2
                    go_ret2
                    exact JoinPost.yes HYES.out (by rw [HF.out, Int.toNat_natCast]; exact HTW.out) HB5.out
                  · have e7 : ((S : Int) != (sum : Int)) = true := by simp; omega
                    have HNO := Lib.hid (show joinB ls seq ln sum = false by rw [HJJ.out, decide_eq_false hS])
                    rw [e7]
                    clear hS e7
                    go_wp2
                    go_ret2
                    exact JoinPost.no HNO.out HB5.out
            -- end b
    · have hno : joinB ls seq len sum = false := by unfold joinB; rw [decide_eq_false hln]; simp
      rw [hrb] at hri
      rw [hnI] at hne hln
      have e1 : ((ls.length : Int) == 2 + (len + 63) / 64 - 2) = false := by rw [beq_eq_false_iff_ne]; exact hln
      have e2 : ((ls.length : Int) != 2 + (len + 63) / 64 - 2) = true := by simp [e1, bne]
      unfold headV at hri ⊢
      have HNO := Lib.hid hno
      have HX1 := Lib.hid (fun W (hW : Below (w.alloc (.cells #[.int .i64 seq, .int .i64 len, .int .u32 (sum : Int)] 77)).heap.size (w.alloc (.cells #[.int .i64 seq, .int .i64 len, .int .u32 (sum : Int)] 77)) W) => (hW.block w.heap.size (by simp)).trans HX0.out)
      clear hno hrb hnI hln
      go_enter Try.func61, Try.ntmps61
      go_wp2_with (first
        | (go_at_call 95; refine (hri _).mono ?_; rintro e w1 ⟨rfl, hb1⟩
           have hx1 := HX1.out _ hb1
           have x1 := cells_of hx1 1 _ rfl)
        | (go_at_call 53; refine (hne _).mono ?_; rintro e w2 ⟨rfl, rfl⟩))
      go_ret2
      exact JoinPost.no HNO.out (HB0.out.trans (hb1.mono (by simp)))
end Go.Proofs.Ytmcjefdnkcpghaa
/- THE WALK OF octroiref10.Join. -/
namespace Go.Proofs.Ytmcjefdnkcpghaa
open Go.RowKit
set_option maxRecDepth 100000 in
set_option maxHeartbeats 4000000 in
theorem rjoin_any {w : World} {B : Nat} {v : Value} {ls : List (List UInt8)} (hv : Byts w B v ls) (seq len : Int) (sum : Nat) (_hsum : sum < 4294967296) : Calls Try.prog 62 #[v, headV seq len sum] w (JoinPost w ls seq len sum) := by
  have hri := rright_any seq len sum
  have hv' := hv.heap
  obtain ⟨A, c, rfl, hc, hm⟩ := hv.form
  unfold maxLen at hm
  clear hv
  have hx0 := heap_alloc_new w (.cells #[.int .i64 seq, .int .i64 len, .int .u32 (sum : Int)] 81 (0, 0))
  have hb0 := (Below.refl w.heap.size w).alloc (Nat.le_refl _) (.cells #[.int .i64 seq, .int .i64 len, .int .u32 (sum : Int)] 81)
  have HV := Lib.hid hv'
  have HX0 := Lib.hid hx0
  have HB0 := Lib.hid hb0
  clear hv' hx0 hb0
  cases hrb : rightB seq len with
  | false =>
    have hno : joinB ls seq len sum = false := by unfold joinB; rw [hrb]; rfl
    rw [hrb] at hri
    unfold headV at hri ⊢
    have HNO := Lib.hid hno
    clear hno hrb
    go_enter Try.func62, Try.ntmps62
    go_wp2_with (first
      | (go_at_call 99; refine (hri _).mono ?_; rintro e w1 ⟨rfl, hb1⟩))
    go_ret2
    exact JoinPost.no HNO.out (HB0.out.trans (hb1.mono (by simp)))
  | true =>
    obtain ⟨q1, q2, q3, q4⟩ := rightB_yes hrb
    have hne := fun w => rneed_any len w
    have hnI : needI len = 2 + (len + 63) / 64 := by unfold needI; rw [if_neg (by omega)]
    by_cases hln : (ls.length : Int) = needI len - 2
    · have hJB : joinB ls seq len sum = joinOk ls len sum := by unfold joinB; rw [hrb, decide_eq_true hln]; simp
      rw [hrb] at hri
      rw [hnI] at hne hln
      obtain ⟨ln, rfl⟩ : ∃ k : Nat, len = (k : Int) := ⟨len.toNat, by omega⟩
      have hl1 : 0 < ls.length := by omega
      have hl2 : ls.length ≤ 2048 := by omega
      have hl3 : ln ≤ 64 * ls.length := by omega
      have hl4 : ((ls.length : Int)) + 2 = 2 + ((ln : Int) + 63) / 64 := by omega
      have e1 : ((ls.length : Int) == 2 + ((ln : Int) + 63) / 64 - 2) = true := by rw [beq_iff_eq]; omega
      have e2 : ((ls.length : Int) != 2 + ((ln : Int) + 63) / 64 - 2) = false := by simp [e1, bne]
      obtain ⟨ad, rfl, hadb, _⟩ : ∃ ad : Addr, A = some ad ∧ ad.block < w.heap.size ∧ True := by
        obtain ⟨A', c', hv', _, _, hr⟩ := HV.out
        obtain ⟨ad, hA, hb, _⟩ := hr hl1
        cases hv'
        exact ⟨ad, hA, hb, trivial⟩
      unfold headV at hri ⊢
      have HJB := Lib.hid hJB
      have HX1 := Lib.hid (fun W (hW : Below (w.alloc (.cells #[.int .i64 seq, .int .i64 (ln : Int), .int .u32 (sum : Int)] 81)).heap.size (w.alloc (.cells #[.int .i64 seq, .int .i64 (ln : Int), .int .u32 (sum : Int)] 81)) W) => (hW.block w.heap.size (by simp)).trans HX0.out)
      clear hJB hrb hnI hln hl4
      go_enter Try.func62, Try.ntmps62
      go_wp2_with (first
        | (go_at_call 99; refine (hri _).mono ?_; rintro e w1 ⟨rfl, hb1⟩
           have hx1 := HX1.out _ hb1
           have x1 := cells_of hx1 1 _ rfl)
        | (go_at_call 54; refine (hne _).mono ?_; rintro e w2 ⟨rfl, rfl⟩))
      have hb01 := HB0.out.trans (hb1.mono (by simp))
      have HX := Lib.hid hx1
      have HB01 := Lib.hid hb01
      clear hx1 x1 hb1 hb01 e1 e2 hri hne
      go_loopg [6, 7] ls.length (fun gk x6 x7 wr => ∃ k : Nat, gk = ls.length - k ∧ k ≤ ls.length ∧ x7 = .int .i64 (k : Int) ∧ Own wr w.heap.size x6 (ls.take k).flatten ∧ (ls.take k).all (fun l => decide (l.length = 64)) = true ∧
        wr.heap[w.heap.size]? = some (.cells #[.int .i64 seq, .int .i64 (ln : Int), .int .u32 (sum : Int)] 81 (0, 0)) ∧ Below w.heap.size w wr)
      case atStart => exact ⟨0, rfl, Nat.zero_le _, rfl, Own.nil_ _ _, rfl, HX.out, HB01.out⟩
      case round =>
        clear HX HB01
        obtain ⟨k, hgk, hk, rfl, hown, hall, hx, hbel⟩ := hrel
        have HG := Lib.hid hgk
        have HX := Lib.hid hx
        have HALL := Lib.hid hall
        have HBE := Lib.hid hbel
        have hwr := hbel.size
        have hfl := flat_len hall
        rw [List.length_take, Nat.min_eq_left hk] at hfl
        clear hgk hx hall
        by_cases h : k < ls.length
        · obtain ⟨Ak, nk, ck, hcell, hnk, hc1, hc2, hbk⟩ := ((HV.out.below HBE.out)).at_ k h
          have hta := take_all ls k h
          have htf := take_flat ls k h
          have hna := not_all h
          generalize ls[k] = lk at *
          by_cases h64 : lk.length = 64
          · obtain rfl : nk = 64 := by omega
            have HBK := Lib.hid hbk
            have HTA := Lib.hid hta
            have HTF := Lib.hid htf
            have H64 := Lib.hid h64
            have HOWN := Lib.hid hown
            have hlr : (ls.take k).flatten.length + lk.length ≤ 140737488355328 := by omega
            clear hna hbk hta htf h64 hnk hfl hown
            go_wp2_with ((with_reducible show wpList _ _ _ (⟨some 38, _, _, _, _, _⟩ :: _) _ _); go_must (refine wpList_append_byt _ rfl (.tmp 33) (.tmp 37) rfl w.heap.size _ _ rfl HOWN.out _ _ lk rfl HBK.out hlr hwr ?_); intro v' w' ho' hg' _; have HO' := Lib.hid ho'; clear ho')
            go_roundg (ls.length - (k + 1))
            case measure => have := HG.out; omega
            case rel =>
              refine ⟨k + 1, rfl, by omega, by go_num, by rw [HTF.out]; exact HO'.out, by rw [HTA.out, HALL.out, H64.out]; rfl, ?_, HBE.out.grown hg' hwr (fun g hg => (HOWN.out.lt g hg).1)⟩
              exact (hg'.block w.heap.size (lt_of_block HX.out) (fun e => HOWN.out.apart HX.out (by decide) e.symm)).trans HX.out
          · have hno : joinB ls seq ln sum = false := by rw [HJB.out]; unfold joinOk; rw [hna h64]; rfl
            have HNO := Lib.hid hno
            have e3 : ((nk : Int) == 64) = false := by rw [beq_eq_false_iff_ne]; omega
            have e4 : ((nk : Int) != 64) = true := by simp; omega
            clear hno h64 hta htf hna hbk hnk hfl hown
            go_wp2
            go_ret2
            exact JoinPost.no HNO.out HBE.out
        · obtain rfl : k = ls.length := by omega
          rw [List.take_length] at hown hfl
          have hal := HALL.out
          rw [List.take_length] at hal
          have hjb := HJB.out
          unfold joinOk at hjb
          rw [hal, Bool.true_and, Int.toNat_natCast] at hjb
          clear HJB HALL hal h
          generalize hF : ls.flatten = F at *
          obtain ⟨g, cap, rfl, hgw, hcap1, hcap2⟩ : ∃ g cap, u6 = .slice (some ⟨g, 0, none⟩) F.length cap ∧ w.heap.size ≤ g ∧ F.length ≤ cap ∧ cap ≤ maxLen := by
            rcases hown.2 with ⟨_, hn⟩ | ⟨g, cap, cur, e, hb', hg, hc, hm, _⟩
            · omega
            · exact ⟨g, cap, e, hb', hc, hm⟩
          unfold maxLen at hcap2
          have hFb := hown.byt
          have x1 := cells_of HX.out 1 _ rfl
          have i1 : (0 : Int) ≤ (ln : Int) := by omega
          have i2 : (ln : Int) ≤ (F.length : Int) := by omega
          have i3 : (ln : Int) ≤ (cap : Int) := by omega
          have i4 : (F.length : Int) ≤ (cap : Int) := by omega
          have hlF : ln ≤ F.length := by omega
          have HT := Lib.hid (bytn_take ln (hown.bytn (D := fun b => w.heap.size ≤ b) (fun _ h => h)) hlF)
          have hrl : (F.drop ln).length = F.length - ln := List.length_drop
          have HF := Lib.hid hF
          have HJ := Lib.hid hjb
          have HRL := Lib.hid hrl
          clear hF hjb hown hfl hrl
          have HFB := Lib.hid hFb
          clear hFb
          go_wp2
          go_loopg [8] (F.length - ln) (fun gk x8 wq => ∃ k : Nat, gk = F.length - ln - k ∧ k ≤ F.length - ln ∧ x8 = .int .i64 ((ln + k : Nat) : Int) ∧ ((F.drop ln).take k).all (fun b => decide (b = 0)) = true ∧ wq = wr)
          case atStart => exact ⟨0, rfl, Nat.zero_le _, rfl, rfl, rfl⟩
          case round =>
            obtain ⟨k, hgk, hk, rfl, hz, rfl⟩ := hrel
            have HG2 := Lib.hid hgk
            clear hgk
            by_cases h : k < F.length - ln
            · have hx : F[ln + k]? = some F[ln + k] := List.getElem?_eq_getElem (by omega)
              have hcx : wr.cell? ⟨g, ln + k, none⟩ = some (bV F[ln + k]) := by
                obtain ⟨A', c', e, _, _, hrr⟩ := HFB.out
                obtain ⟨ad', e2, _, hq⟩ := hrr (by omega)
                cases e; cases e2
                have := hq _ _ hx
                rwa [addr_mk_add, Nat.zero_add] at this
              unfold bV at hcx
              have hts : (F.drop ln).take (k + 1) = (F.drop ln).take k ++ [F[ln + k]] := drop_take_snoc F ln k (by omega)
              have hnz : F[ln + k] ≠ 0 → (F.drop ln).all (fun b => decide (b = 0)) = false := fun h0 => not_zero (k := k) (by rw [HRL.out]; exact h) (by rw [List.getElem_drop]; exact h0)
              generalize F[ln + k] = x at *
              have hxb := x.toNat_lt
              have HTS := Lib.hid hts
              have HZ := Lib.hid hz
              have i6 : ln + k < F.length := by omega
              by_cases hx0 : x = 0
              · have e5 : ((x.toNat : Int) == 0) = true := by rw [hx0]; rfl
                have e6 : ((x.toNat : Int) != 0) = false := by rw [hx0]; rfl
                have HX0 := Lib.hid hx0
                clear hx hts hz hnz hx0
                go_wp2
                go_roundg (F.length - ln - (k + 1))
                case measure => have := HG2.out; omega
                case rel => exact ⟨k + 1, rfl, by omega, by go_num, by rw [HTS.out, List.all_append, HZ.out, HX0.out]; rfl, rfl⟩
              · have hn0 : x.toNat ≠ 0 := fun e => hx0 (UInt8.toNat_inj.1 (by simpa using e))
                have e5 : ((x.toNat : Int) == 0) = false := by rw [beq_eq_false_iff_ne]; omega
                have e6 : ((x.toNat : Int) != 0) = true := by simp; omega
                have HNO := Lib.hid (show joinB ls seq ln sum = false by rw [HJ.out, hnz hx0]; rfl)
                clear hx hts hz hnz hx0 hn0
                go_wp2
                go_ret2
                exact JoinPost.no HNO.out HBE.out
            · have HZ := Lib.hid (show (F.drop ln).all (fun b => decide (b = 0)) = true by rw [List.take_of_length_le (by rw [HRL.out]; omega)] at hz; exact hz)
              have i6 : F.length ≤ ln + k := by omega
              clear hz h
              have hsu := fun (W : World) (hW : Below wr.drew.heap.size wr.drew W) => rsum_any _ _ W _ ((show Byt wr.drew wr.heap.size _ _ from HT.out.1).below hW)
              have hbx := fun (W : World) (hW : Below wr.drew.heap.size wr.drew W) => (show W.cell? ⟨w.heap.size, 1, none⟩ = some (.int .i64 (ln : Int)) ∧ W.cell? ⟨w.heap.size, 2, none⟩ = some (.int .u32 (sum : Int)) from ⟨cells_of ((hW.block w.heap.size (lt_of_block HX.out)).trans HX.out) 1 _ rfl, cells_of ((hW.block w.heap.size (lt_of_block HX.out)).trans HX.out) 2 _ rfl⟩)
              change ∀ W, _ → Calls _ _ _ W (fun e w' => e = .returned (.int .u32 (sumL (F.take ln) : Int)) ∧ _) at hsu
              have hjj : joinB ls seq ln sum = decide (sumL (F.take ln) = sum) := by rw [HJ.out, HZ.out]; rfl
              generalize sumL (F.take ln) = S at *
              have HSU := Lib.hid hsu
              have HBX := Lib.hid hbx
              have HJJ := Lib.hid hjj
              clear hsu hbx hjj
              go_wp2
              -- region 15
              refine wp_region_sp (by kernel_rfl) [isS (.slice (some ⟨g, 0, none⟩) F.length cap), isS (.pointer (some ⟨w.heap.size, 1, none⟩)), isS (.int .i64 (ln : Int)), isS (.slice (some ⟨g, 0, none⟩) ln cap), isS (.int .u32 (S : Int)), isS (.pointer (some ⟨w.heap.size, 2, none⟩)), isS (.int .u32 (sum : Int)), isS (.bool ((S : Int) != (sum : Int)))] (by kernel_rfl) (by kernel_rfl) (fun i hi => ?_) (fun a w5 hc hs => ?_)
              · match i, hi with
                | 0, _ =>
                  intro a W hc hd
                  have z6 := hc.same 6 (by kernel_rfl)
                  simp only [List.getElem?_toArray, List.getElem?_cons_succ, List.getElem?_cons_zero, Option.getD_some] at z6
                  refine obl_val rfl (wanted_none rfl) ?_ rfl
                  go_simp
                | 1, _ =>
                  intro a W hc hd
                  have z3 := hc.same 3 (by kernel_rfl)
                  simp only [List.getElem?_toArray, List.getElem?_cons_succ, List.getElem?_cons_zero, Option.getD_some] at z3
                  refine obl_val rfl (wanted_none rfl) ?_ rfl
                  go_simp
                | 2, _ =>
                  intro a W hc hd
                  have s1 : a.tmps[53]?.getD undef = (.pointer (some ⟨w.heap.size, 1, none⟩)) := hd 1 (by kernel_rfl)
                  obtain ⟨q1, q2⟩ := HBX.out W hc.below
                  refine obl_val rfl (wanted_none rfl) ?_ rfl
                  go_simp
                | 3, _ =>
                  intro a W hc hd
                  have s0 : a.tmps[52]?.getD undef = (.slice (some ⟨g, 0, none⟩) F.length cap) := hd 0 (by kernel_rfl)
                  have s2 : a.tmps[54]?.getD undef = (.int .i64 (ln : Int)) := hd 2 (by kernel_rfl)
                  refine obl_val rfl (wanted_none rfl) ?_ rfl
                  go_simp
                | 4, _ =>
                  intro a W hc hd
                  have s3 : a.tmps[55]?.getD undef = (.slice (some ⟨g, 0, none⟩) ln cap) := hd 3 (by kernel_rfl)
                  refine obl_call rfl (wanted_none rfl) (by go_simp) (HSU.out W (hc.below)) ?_
                  rintro e w8 ⟨rfl, rfl⟩
                  exact ⟨_, rfl, rfl, Below.refl _ _⟩
                | 5, _ =>
                  intro a W hc hd
                  have z3 := hc.same 3 (by kernel_rfl)
                  simp only [List.getElem?_toArray, List.getElem?_cons_succ, List.getElem?_cons_zero, Option.getD_some] at z3
                  refine obl_val rfl (wanted_none rfl) ?_ rfl
                  go_simp
                | 6, _ =>
                  intro a W hc hd
                  have s5 : a.tmps[57]?.getD undef = (.pointer (some ⟨w.heap.size, 2, none⟩)) := hd 5 (by kernel_rfl)
                  obtain ⟨q1, q2⟩ := HBX.out W hc.below
                  refine obl_val rfl (wanted_none rfl) ?_ rfl
                  go_simp
                | 7, _ =>
                  intro a W hc hd
                  have s4 : a.tmps[56]?.getD undef = (.int .u32 (S : Int)) := hd 4 (by kernel_rfl)
                  have s6 : a.tmps[58]?.getD undef = (.int .u32 (sum : Int)) := hd 6 (by kernel_rfl)
                  refine obl_val rfl (wanted_none rfl) ?_ rfl
                  go_simp
                | n + 8, h => exact absurd h (by simp)
              · skip
                have hfr := grow_frame hc [(52, (.slice (some ⟨g, 0, none⟩) F.length cap)), (53, (.pointer (some ⟨w.heap.size, 1, none⟩))), (54, (.int .i64 (ln : Int))), (55, (.slice (some ⟨g, 0, none⟩) ln cap)), (56, (.int .u32 (S : Int))), (57, (.pointer (some ⟨w.heap.size, 2, none⟩))), (58, (.int .u32 (sum : Int))), (59, (.bool ((S : Int) != (sum : Int))))] (by kernel_rfl) (fun p hp => by
                    simp only [List.mem_cons, List.not_mem_nil, or_false] at hp
                    rcases hp with rfl | rfl | rfl | rfl | rfl | rfl | rfl | rfl
                    · exact hs 0 52 (by decide) (by kernel_rfl)
                    · exact hs 1 53 (by decide) (by kernel_rfl)
                    · exact hs 2 54 (by decide) (by kernel_rfl)
                    · exact hs 3 55 (by decide) (by kernel_rfl)
                    · exact hs 4 56 (by decide) (by kernel_rfl)
                    · exact hs 5 57 (by decide) (by kernel_rfl)
                    · exact hs 6 58 (by decide) (by kernel_rfl)
                    · exact hs 7 59 (by decide) (by kernel_rfl)
                    )
                simp only [List.range, List.range.loop, List.size_toArray, List.length_cons, List.length_nil, List.map_cons, List.map_nil, List.lookup_cons, List.lookup_nil, Nat.reduceAdd, Nat.reduceBEq, Option.getD_some, Option.getD_none, List.getElem?_toArray, List.getElem?_cons_succ, List.getElem?_cons_zero] at hfr
                subst hfr
              -- end 15
                have hb5 : Below w.heap.size w w5 := HBE.out.trans ((show Below wr.heap.size wr wr.drew from ⟨rfl, rfl, rfl, Nat.le_refl _, fun _ _ => rfl⟩).trans hc.below |>.mono hwr)
                have HTW := Lib.hid ((show BytN (fun b => w.heap.size ≤ b) wr.drew _ _ from HT.out).below hc.below)
                have HB5 := Lib.hid hb5
                obtain ⟨z1, z2⟩ := HBX.out w5 hc.below
                clear hs hc hb5
                by_cases hS : S = sum
                · have e7 : ((S : Int) != (sum : Int)) = false := by rw [hS]; simp
                  have HYES := Lib.hid (show joinB ls seq ln sum = true by rw [HJJ.out, decide_eq_true hS])
                  rw [e7]
                  clear hS e7
                  go_wp2
                  go_ret2
                  exact JoinPost.yes HYES.out (by rw [HF.out, Int.toNat_natCast]; exact HTW.out) HB5.out
                · have e7 : ((S : Int) != (sum : Int)) = true := by simp; omega
                  have HNO := Lib.hid (show joinB ls seq ln sum = false by rw [HJJ.out, decide_eq_false hS])
                  rw [e7]
                  clear hS e7
                  go_wp2
                  go_ret2
                  exact JoinPost.no HNO.out HB5.out
    · have hno : joinB ls seq len sum = false := by unfold joinB; rw [decide_eq_false hln]; simp
      rw [hrb] at hri
      rw [hnI] at hne hln
      have e1 : ((ls.length : Int) == 2 + (len + 63) / 64 - 2) = false := by rw [beq_eq_false_iff_ne]; exact hln
      have e2 : ((ls.length : Int) != 2 + (len + 63) / 64 - 2) = true := by simp [e1, bne]
      unfold headV at hri ⊢
      have HNO := Lib.hid hno
      have HX1 := Lib.hid (fun W (hW : Below (w.alloc (.cells #[.int .i64 seq, .int .i64 len, .int .u32 (sum : Int)] 81)).heap.size (w.alloc (.cells #[.int .i64 seq, .int .i64 len, .int .u32 (sum : Int)] 81)) W) => (hW.block w.heap.size (by simp)).trans HX0.out)
      clear hno hrb hnI hln
      go_enter Try.func62, Try.ntmps62
      go_wp2_with (first
        | (go_at_call 99; refine (hri _).mono ?_; rintro e w1 ⟨rfl, hb1⟩
           have hx1 := HX1.out _ hb1
           have x1 := cells_of hx1 1 _ rfl)
        | (go_at_call 54; refine (hne _).mono ?_; rintro e w2 ⟨rfl, rfl⟩))
      go_ret2
      exact JoinPost.no HNO.out (HB0.out.trans (hb1.mono (by simp)))
end Go.Proofs.Ytmcjefdnkcpghaa
/- A BATCH'S SECTORS TELL ITS HEAD, ITS BYTES, ITS END: plainly. The walk of the law's 'same'. -/
namespace Go.Proofs.Ytmcjefdnkcpghaa
open Go.RowKit
theorem numL_beB (n : Nat) : ∀ m, n < 256 ^ m → numL (beB n m) = n := by
  have key : ∀ m a, (beB n m).foldl (fun a b => a * 256 + b.toNat) a = a * 256 ^ m + n % 256 ^ m := by
    intro m
    induction m with
    | zero => intro a; simp [beB, Nat.mod_one]
    | succ m ih =>
      intro a
      rw [beB, List.foldl_cons, ih, UInt8.toNat_ofNat']
      have h1 : n % 256 ^ (m + 1) = n / 256 ^ m % 256 * 256 ^ m + n % 256 ^ m := by
        rw [Nat.pow_succ, Nat.mod_mul, Nat.mul_comm (256 ^ m), Nat.add_comm]
      rw [h1, show (256 : Nat) ^ (m + 1) = 256 ^ m * 256 from Nat.pow_succ .., show (2 : Nat) ^ 8 = 256 from rfl]
      generalize 256 ^ m = p
      rw [Nat.add_mul, Nat.mul_assoc, Nat.mul_comm 256 p, Nat.add_assoc]
  intro m h
  have := key m 0
  rw [Nat.zero_mul, Nat.zero_add, Nat.mod_eq_of_lt h] at this
  exact this
theorem firstL_eq (a b c : Nat) : ∃ z, firstL a b c = be4 (Crc.on 0 (nats (72 :: beB a 8 ++ beB b 4 ++ beB c 4))) ++ (72 :: beB a 8 ++ beB b 4 ++ beB c 4) ++ z := by
  unfold firstL fillL wrapL; exact ⟨_, rfl⟩
theorem mid_take {α : Type} (x y z : List α) (i n : Nat) (hx : x.length = i) (hy : y.length = n) : ((x ++ y ++ z).drop i).take n = y := by
  rw [List.append_assoc, List.drop_append_of_le_length (by omega), List.drop_of_length_le (by omega), List.nil_append, List.take_append_of_le_length (by omega), List.take_of_length_le (by omega)]
theorem hd_firstL {a b c : Nat} (ha : a < 256 ^ 8) (hb : b < 256 ^ 4) (hc : c < 256 ^ 4) : hdS (firstL a b c) = a ∧ hdL (firstL a b c) = b ∧ hdC (firstL a b c) = c := by
  obtain ⟨z, hz⟩ := firstL_eq a b c
  have h4 : ∀ s, (be4 s).length = 4 := fun s => rfl
  refine ⟨?_, ?_, ?_⟩
  · unfold hdS
    rw [hz, show be4 (Crc.on 0 (nats (72 :: beB a 8 ++ beB b 4 ++ beB c 4))) ++ (72 :: beB a 8 ++ beB b 4 ++ beB c 4) ++ z = (be4 (Crc.on 0 (nats (72 :: beB a 8 ++ beB b 4 ++ beB c 4))) ++ [72]) ++ beB a 8 ++ (beB b 4 ++ beB c 4 ++ z) by simp]
    rw [mid_take _ _ _ 5 8 (by simp [h4]) (beB_len _ _), numL_beB _ _ ha]
  · unfold hdL
    rw [hz, show be4 (Crc.on 0 (nats (72 :: beB a 8 ++ beB b 4 ++ beB c 4))) ++ (72 :: beB a 8 ++ beB b 4 ++ beB c 4) ++ z = (be4 (Crc.on 0 (nats (72 :: beB a 8 ++ beB b 4 ++ beB c 4))) ++ (72 :: beB a 8)) ++ beB b 4 ++ (beB c 4 ++ z) by simp]
    rw [mid_take _ _ _ 13 4 (by simp [h4, beB_len]) (beB_len _ _), numL_beB _ _ hb]
  · unfold hdC
    rw [hz, show be4 (Crc.on 0 (nats (72 :: beB a 8 ++ beB b 4 ++ beB c 4))) ++ (72 :: beB a 8 ++ beB b 4 ++ beB c 4) ++ z = (be4 (Crc.on 0 (nats (72 :: beB a 8 ++ beB b 4 ++ beB c 4))) ++ (72 :: beB a 8 ++ beB b 4)) ++ beB c 4 ++ z by simp]
    rw [mid_take _ _ _ 17 4 (by simp [h4, beB_len]) (beB_len _ _), numL_beB _ _ hc]
theorem sumL_lt (l : List UInt8) : sumL l < 4294967296 := on0_lt l
theorem begin_first {sq n s : Nat} (h : rightB (sq : Int) (n : Int) = true) (hs : s < 4294967296) : beginB (firstL sq n s) = true ∧ beginV (firstL sq n s) = headV sq n s := by
  obtain ⟨q1, q2, q3, q4⟩ := rightB_yes h
  obtain ⟨e1, e2, e3⟩ := hd_firstL (a := sq) (b := n) (c := s) (by omega) (by omega) (by omega)
  have hb : beginB (firstL sq n s) = true := by
    unfold beginB
    rw [e1, e2, e3, firstL_len, h]; simp
  refine ⟨hb, ?_⟩
  unfold beginV
  rw [hb, if_pos rfl, e1, e2, e3]
theorem cutsL_all (l : List UInt8) : ∀ m ∈ cutsL l, m.length = 64 := by
  have key : ∀ (n : Nat) (l : List UInt8), l.length ≤ n → ∀ m ∈ cutsL l, m.length = 64 := by
    intro n
    induction n with
    | zero =>
      intro l h m hm
      obtain rfl : l = [] := List.eq_nil_of_length_eq_zero (by omega)
      rw [cutsL_nil] at hm; cases hm
    | succ n ih =>
      intro l h m hm
      by_cases h0 : l = []
      · subst h0; rw [cutsL_nil] at hm; cases hm
      · rw [cutsL_cons h0] at hm
        rcases List.mem_cons.1 hm with rfl | hm
        · exact fillL_len _ (List.length_take_le _ _)
        · have hp : 0 < l.length := List.length_pos_iff.2 h0
          exact ih _ (by rw [List.length_drop]; omega) m hm
  exact key l.length l (Nat.le_refl _)
theorem cutsL_flat (l : List UInt8) : ∃ k, (cutsL l).flatten = l ++ List.replicate k 0 := by
  have key : ∀ (n : Nat) (l : List UInt8), l.length ≤ n → ∃ k, (cutsL l).flatten = l ++ List.replicate k 0 := by
    intro n
    induction n with
    | zero =>
      intro l h
      obtain rfl : l = [] := List.eq_nil_of_length_eq_zero (by omega)
      rw [cutsL_nil]; exact ⟨0, rfl⟩
    | succ n ih =>
      intro l h
      by_cases h0 : l = []
      · subst h0; rw [cutsL_nil]; exact ⟨0, rfl⟩
      · have hp : 0 < l.length := List.length_pos_iff.2 h0
        rw [cutsL_cons h0, List.flatten_cons]
        by_cases h64 : 64 ≤ l.length
        · obtain ⟨k, hk⟩ := ih (l.drop 64) (by rw [List.length_drop]; omega)
          refine ⟨k, ?_⟩
          rw [hk]
          unfold fillL
          rw [List.length_take, Nat.min_eq_left h64, Nat.sub_self, List.replicate_zero, List.append_nil, ← List.append_assoc, List.take_append_drop]
        · rw [List.drop_of_length_le (by omega), cutsL_nil, List.take_of_length_le (by omega)]
          exact ⟨_, by simp [fillL]; rfl⟩
  exact key l.length l (Nat.le_refl _)
theorem join_cuts {sq : Nat} {l : List UInt8} (h : rightB (sq : Int) (l.length : Int) = true) : joinB (cutsL l) sq l.length (sumL l) = true ∧ joinL (cutsL l) sq l.length (sumL l) = l := by
  obtain ⟨q1, q2, q3, q4⟩ := rightB_yes h
  obtain ⟨k, hk⟩ := cutsL_flat l
  have hb : joinB (cutsL l) sq l.length (sumL l) = true := by
    unfold joinB joinOk
    rw [h, hk, Int.toNat_natCast, List.take_left', List.drop_left']
    · rw [decide_eq_true (show ((cutsL l).length : Int) = needI l.length - 2 from by
        rw [cutsL_len _ l (Nat.le_refl _)]; unfold needI; rw [if_neg (by omega)]; omega)]
      simp only [Bool.true_and, decide_true, Bool.and_true, Bool.and_eq_true, List.all_eq_true, decide_eq_true_eq]
      exact ⟨fun m hm => cutsL_all l m hm, fun b hb => (List.mem_replicate.1 hb).2⟩
    · rfl
    · rfl
  refine ⟨hb, ?_⟩
  unfold joinL
  rw [hb, if_pos rfl, hk, Int.toNat_natCast, List.take_left' rfl]
theorem end_last {sq s : Nat} (h1 : 1 ≤ sq) (h2 : sq ≤ 4611686018427387904) : endB (lastL sq s) sq s = true := by
  rw [endB_yes h1 h2]; simp
theorem blank_first (a b c : Nat) : blankB (firstL a b c) = false := by
  unfold blankB
  rw [decide_eq_false_iff_not]
  intro h
  obtain ⟨z, hz⟩ := firstL_eq a b c
  have h4 := congrArg (fun l => l[4]?) h
  simp only [hz] at h4
  simp [be4, fillL] at h4
/-- some of the elements -/
theorem Byts.mid {w : World} {B : Nat} {ad : Addr} {c : Nat} {ls : List (List UInt8)} (i j : Nat) (h : Byts w B (.slice (some ad) ls.length c) ls) (hij : i ≤ j) (hj : j ≤ ls.length) : Byts w B (.slice (some (ad.add i)) (j - i) (c - i)) ((ls.drop i).take (j - i)) := by
  obtain ⟨A', c', hv, hc, hm, hr⟩ := h
  simp only [Value.slice.injEq, true_and] at hv
  obtain ⟨hA, rfl⟩ := hv
  refine ⟨some (ad.add i), c - i, by rw [List.length_take, List.length_drop, Nat.min_eq_left (by omega)], by rw [List.length_take, List.length_drop]; omega, by omega, fun h0 => ?_⟩
  rw [List.length_take, List.length_drop] at h0
  obtain ⟨ad', e, hb, hx⟩ := hr (by omega)
  rw [← hA] at e
  cases e
  refine ⟨ad.add i, rfl, by rw [addr_add_block]; exact hb, fun k x hk => ?_⟩
  rw [addr_add_add]
  rw [List.getElem?_take] at hk
  split at hk
  · rw [List.getElem?_drop] at hk; exact hx _ x hk
  · cases hk
theorem Byts.drew {w : World} {B : Nat} {v : Value} {ls : List (List UInt8)} (h : Byts w B v ls) (n : Nat) : Byts (w.drewN n) B v ls := h.keep fun _ _ => rfl
end Go.Proofs.Ytmcjefdnkcpghaa
/- THE WALK OF the law's 'same'. -/
namespace Go.Proofs.Ytmcjefdnkcpghaa
open Go.RowKit
theorem bsA_bne (l m : List UInt8) : ((bsA l).toList != (bsA m).toList) = !decide (l = m) := by
  rw [ByteArray.toList_eq, ByteArray.toList_eq, bsA_list, bsA_list]
  by_cases h : l = m
  · subst h; simp
  · simp [h]
theorem drewN_below (w : World) (n : Nat) : Below w.heap.size w (w.drewN n) := ⟨rfl, rfl, rfl, Nat.le_refl _, fun _ _ => rfl⟩
theorem Byts.atv {w : World} {B : Nat} {A : Option Addr} {c : Nat} {ls : List (List UInt8)} (h : Byts w B (.slice A ls.length c) ls) (k : Nat) (hk : k < ls.length) : ∃ ad u, A = some ad ∧ ad.block < B ∧ w.cell? (ad.add k) = some u ∧ Byt w B u ls[k] := by
  obtain ⟨A', c', hv, _, _, hr⟩ := h
  obtain ⟨ad', hA, hb, hx⟩ := hr (by omega)
  cases hv
  subst hA
  obtain ⟨u, hu, hb2⟩ := hx k _ (List.getElem?_eq_getElem hk)
  exact ⟨ad', u, rfl, hb, hu, hb2⟩
set_option maxRecDepth 100000 in
set_option maxHeartbeats 2000000 in
theorem lsame_any {w : World} {B1 B2 : Nat} {a b : Value} {la lb : List (List UInt8)} (ha : Byts w B1 a la) (hb : Byts w B2 b lb) (hl : la.length ≤ 100000) : Calls Try.prog 52 #[a, b] w fun e w' => e = .returned (.bool (decide (la = lb))) ∧ Below w.heap.size w w' := by
  obtain ⟨A1, c1, rfl, hc1, hm1⟩ := ha.form
  obtain ⟨A2, c2, rfl, hc2, hm2⟩ := hb.form
  unfold maxLen at hm1 hm2
  by_cases hlen : la.length = lb.length
  · have e1 : decide (la.length = lb.length) = true := decide_eq_true hlen
    have hle : la.length ≤ lb.length := by omega
    have hge : lb.length ≤ la.length := by omega
    have HA := Lib.hid ha
    have HB := Lib.hid hb
    have HLEN := Lib.hid hlen
    clear ha hb hlen e1
    go_enter Try.func52, Try.ntmps52
    go_wp2
    go_loopg [5, 13] la.length (fun gk x5 x13 wr => ∃ k : Nat, gk = la.length - k ∧ k ≤ la.length ∧ x13 = .int .i64 (k : Int) ∧ la.take k = lb.take k ∧ Below w.heap.size w wr)
    case atStart => exact ⟨0, rfl, Nat.zero_le _, rfl, rfl, Below.refl _ _⟩
    case round =>
      obtain ⟨k, hgk, hk, rfl, htk, hbel⟩ := hrel
      have HG := Lib.hid hgk
      have HTK := Lib.hid htk
      have HBE := Lib.hid hbel
      clear hgk htk
      by_cases h : k < la.length
      · obtain ⟨ad1, u1, rfl, _, hc1', hb1⟩ := (HA.out.heap.below HBE.out).atv k h
        obtain ⟨ad2, u2, rfl, _, hc2', hb2⟩ := (HB.out.heap.below HBE.out).atv k (by omega)
        have q1 : ∀ n, (convert 23 9 u1).run Try.prog (wr.drewN n) = .ok (.string (bsA la[k])) (wr.drewN n) := fun n => (show Byt (wr.drewN n) w.heap.size u1 _ from hb1).strA
        have q2 : ∀ n, (convert 23 9 u2).run Try.prog (wr.drewN n) = .ok (.string (bsA lb[k])) (wr.drewN n) := fun n => (show Byt (wr.drewN n) w.heap.size u2 _ from hb2).strA
        have ht1 : la.take (k + 1) = la.take k ++ [la[k]] := List.take_succ_eq_append_getElem h
        have ht2 : lb.take (k + 1) = lb.take k ++ [lb[k]] := List.take_succ_eq_append_getElem (by omega)
        have hne : la[k] ≠ lb[k] → la ≠ lb := fun h1 e => h1 (by subst e; rfl)
        have i1 : (0 : Int) ≤ (k : Int) := by omega
        have i2 : (k : Int) < (la.length : Int) := by omega
        have i3 : (k : Int) < (lb.length : Int) := by omega
        have i4 : k < lb.length := by omega
        by_cases hx : la[k] = lb[k]
        · have HT := Lib.hid (show la.take (k + 1) = lb.take (k + 1) by rw [ht1, ht2, HTK.out, hx])
          rw [hx] at q1
          clear ht1 ht2 hne hx hb1 hb2
          generalize bsA lb[k] = sk at *
          go_wp2
          go_quiet (fail)
          go_wp2
          go_roundg (la.length - (k + 1))
          case measure => have := HG.out; omega
          case rel => exact ⟨k + 1, rfl, by omega, by go_num, HT.out, HBE.out.trans ((drewN_below wr nq).mono HBE.out.size)⟩
        · have HNE := Lib.hid (decide_eq_false (hne hx))
          have e5 : ((bsA la[k]).toList == (bsA lb[k]).toList) = false := by
            have := bsA_bne la[k] lb[k]
            rw [decide_eq_false hx] at this
            unfold bne at this
            simpa using this
          have e6 : ((bsA la[k]).toList != (bsA lb[k]).toList) = true := by rw [bsA_bne, decide_eq_false hx]; rfl
          clear ht1 ht2 hne hx hb1 hb2
          generalize bsA la[k] = s1 at *
          generalize bsA lb[k] = s2 at *
          go_wp2
          go_quiet (fail)
          go_wp2
          go_ret
          exact ⟨ret_bool HNE.out.symm, HBE.out.trans ((drewN_below wr nq).mono HBE.out.size)⟩
      · have heq : la = lb := by
          have := HTK.out
          rw [List.take_of_length_le (by omega), List.take_of_length_le (by omega)] at this
          exact this
        have HEQ := Lib.hid heq
        clear heq
        go_wp2
        go_ret
        exact ⟨ret_bool (decide_eq_true HEQ.out).symm, HBE.out⟩
  · have HNE := Lib.hid (show decide (la = lb) = false from decide_eq_false fun e => hlen (by rw [e]))
    have e1 : decide (la.length = lb.length) = false := decide_eq_false hlen
    have e2 : ((la.length : Int) == (lb.length : Int)) = false := by rw [beq_eq_false_iff_ne]; omega
    have e3 : ((la.length : Int) != (lb.length : Int)) = true := by simp; omega
    have e4 : (la.length == lb.length) = false := by rw [beq_eq_false_iff_ne]; exact hlen
    clear hlen ha hb
    go_enter Try.func52, Try.ntmps52
    go_wp2
    go_ret
    exact ⟨ret_bool HNE.out.symm, Below.refl _ _⟩
end Go.Proofs.Ytmcjefdnkcpghaa
/- Regions that draw their order, as in Grow; here an edge that binds in one mode only may point behind. -/
namespace Go.Proofs.Ytmcjefdnkcpghaa.Q
open Go.RowKit
def growB (ops : Array Oper) : Bool :=
  (List.range ops.size).all fun i =>
    match ops[i]? with
    | none => true
    | some o => (o.after.all fun e => !Region.binds .any e || decide (e.on < i)) &&
        (List.range ops.size).all fun j => (!depB ops i j || (o.after.any fun e => Region.binds .any e && e.on == j)) &&
          (j == i || dstOf ops i == none || dstOf ops i != dstOf ops j)
theorem growB_spec {ops : Array Oper} (h : growB ops = true) {i : Nat} {o : Oper} (hi : ops[i]? = some o) :
    (∀ e ∈ o.after, Region.binds .any e = true → e.on < i) ∧ (∀ j, j < ops.size → depB ops i j = true → ∃ e ∈ o.after, Region.binds .any e = true ∧ e.on = j) ∧
    (∀ j, j < ops.size → j ≠ i → dstOf ops i = none ∨ dstOf ops i ≠ dstOf ops j) := by
  have hlt : i < ops.size := (Array.getElem?_eq_some_iff.1 hi).1
  have h1 := List.all_eq_true.1 h i (List.mem_range.2 hlt)
  simp only [hi, Bool.and_eq_true] at h1
  obtain ⟨h2, h3⟩ := h1
  have h4 := List.all_eq_true.1 h3
  refine ⟨fun e he hbd => ?_, fun j hj hd => ?_, fun j hj hne => ?_⟩
  · have := (Array.all_eq_true_iff_forall_mem.1 h2) e he
    simpa [hbd] using this
  · have := h4 j (List.mem_range.2 hj)
    simp only [Bool.and_eq_true, Bool.or_eq_true, Bool.not_eq_true'] at this
    rcases this.1 with h5 | h5
    · rw [hd] at h5; cases h5
    · obtain ⟨e, he, hb⟩ := Array.any_eq_true'.1 h5
      simp only [Bool.and_eq_true, beq_iff_eq] at hb
      exact ⟨e, he, hb.1, hb.2⟩
  · have := h4 j (List.mem_range.2 hj)
    simp only [Bool.and_eq_true, Bool.or_eq_true, beq_iff_eq, bne_iff_ne] at this
    rcases this.2 with (h5 | h5) | h5
    · exact absurd h5 hne
    · exact .inl h5
    · exact .inr h5
section
variable {P : Program} {ops : Array Oper} {Q : Exit → Act → World → Prop} {a0 : Act} {w0 : World} {sp : Nat → Value → World → Prop}
theorem wpAny_grow (hB : growB ops = true) (hfit : ∀ i d, dstOf ops i = some d → d < a0.tmps.size) (hst : ∀ i v w w', sp i v w → Below w.heap.size w w' → sp i v w')
    (hob : ∀ i, i < ops.size → Oblig P ops Q a0 w0 sp i)
    (hfin : ∀ a w, GrowCtx ops a0 w0 a w → (∀ j d, j < ops.size → dstOf ops j = some d → sp j (a.tmps[d]?.getD undef) w) → Q .normal a w) :
    ∀ (fuel : Nat) (listed : Array Bool) (a : Act) (w : World), listed.size = ops.size → (List.range ops.size).countP (fun i => listed.getD i true == false) ≤ fuel → GrowCtx ops a0 w0 a w →
      (∀ j d, listed.getD j false = true → dstOf ops j = some d → sp j (a.tmps[d]?.getD undef) w) → wpAny P .any ops Q fuel listed a w := by
  -- if nothing may come up, all have come up
  have hall : ∀ listed : Array Bool, listed.size = ops.size → Region.ready .any ops listed = [] → ∀ j, j < ops.size → listed.getD j false = true := by
    intro listed hsz hr
    have key : ∀ n j, j ≤ n → j < ops.size → listed.getD j false = true := by
      intro n
      induction n with
      | zero =>
        intro j hj hjs
        obtain rfl : j = 0 := by omega
        cases hl : listed.getD 0 false with
        | true => rfl
        | false =>
          exfalso
          have hm : 0 ∈ Region.ready .any ops listed := by
            refine mem_ready.2 ⟨getD_in (by omega) hl, ops[0], Array.getElem?_eq_getElem hjs, fun e he hbd => ?_⟩
            have := (growB_spec hB (Array.getElem?_eq_getElem hjs)).1 e he hbd
            omega
          rw [hr] at hm; cases hm
      | succ n ih =>
        intro j hj hjs
        by_cases hjn : j ≤ n
        · exact ih j hjn hjs
        · cases hl : listed.getD j false with
          | true => rfl
          | false =>
            exfalso
            have hm : j ∈ Region.ready .any ops listed := by
              refine mem_ready.2 ⟨getD_in (by omega) hl, ops[j], Array.getElem?_eq_getElem hjs, fun e he hbd => ?_⟩
              have := (growB_spec hB (Array.getElem?_eq_getElem hjs)).1 e he hbd
              exact ih e.on (by omega) (by omega)
            rw [hr] at hm; cases hm
    exact fun j hj => key j j (Nat.le_refl _) hj
  have hdone : ∀ (listed : Array Bool) (a : Act) (w : World), listed.size = ops.size → GrowCtx ops a0 w0 a w →
      (∀ j d, listed.getD j false = true → dstOf ops j = some d → sp j (a.tmps[d]?.getD undef) w) → Region.ready .any ops listed = [] → Q .normal a w :=
    fun listed a w hsz hc hs hr => hfin a w hc fun j d hj hd => hs j d (hall listed hsz hr j hj) hd
  intro fuel
  induction fuel with
  | zero =>
    intro listed a w hsz hcnt hc hs
    have hr : Region.ready .any ops listed = [] := by
      apply List.eq_nil_iff_forall_not_mem.2
      intro i hi
      obtain ⟨h1, o, ho, _⟩ := mem_ready.1 hi
      have hlt : i < ops.size := (Array.getElem?_eq_some_iff.1 ho).1
      have : 0 < (List.range ops.size).countP (fun i => listed.getD i true == false) :=
        List.countP_pos_iff.2 ⟨i, List.mem_range.2 hlt, by simpa using h1⟩
      omega
    exact ⟨hr, hdone listed a w hsz hc hs hr⟩
  | succ fuel ih =>
    intro listed a w hsz hcnt hc hs
    refine ⟨hdone listed a w hsz hc hs, fun i hi => ?_⟩
    obtain ⟨h1, o, ho, hrdy⟩ := mem_ready.1 hi
    have hlt : i < ops.size := (Array.getElem?_eq_some_iff.1 ho).1
    obtain ⟨hb1, hb2, hb3⟩ := growB_spec hB ho
    refine wpOp_mono (fun a' w' hK => ?_) (hob i hlt a w hc (fun j hj => ?_))
    · obtain ⟨v, rfl, hv, hgrow⟩ := hK
      have hsz' : (listed.setIfInBounds i true).size = ops.size := by simpa using hsz
      refine ih _ _ _ hsz' ?_ ⟨hc.below.trans (hgrow.mono hc.below.size), (put_defs _ _ _).trans hc.defers, (put_size _ _ _).trans hc.size, fun t ht => ?_⟩ ?_
      · -- one less
        have hlt2 : (List.range ops.size).countP (fun k => (listed.setIfInBounds i true).getD k true == false) < (List.range ops.size).countP (fun k => listed.getD k true == false) := by
          have hsub : ∀ k, ((listed.setIfInBounds i true).getD k true == false) = true → (listed.getD k true == false) = true := by
            intro k hk
            by_cases hik : i = k
            · subst hik
              simp [show i < listed.size by omega] at hk
            · rw [getD_set_ne true hik] at hk; exact hk
          have hnot : ((listed.setIfInBounds i true).getD i true == false) = false := by simp [show i < listed.size by omega]
          have hmem : i ∈ List.range ops.size := List.mem_range.2 hlt
          have h1' : (listed.getD i true == false) = true := by simpa using h1
          clear hcnt ih hdone hall hob hfin hs hc
          generalize List.range ops.size = L at hmem
          induction L with
          | nil => cases hmem
          | cons x L ihL =>
            rw [List.countP_cons, List.countP_cons]
            have hmono : L.countP (fun k => (listed.setIfInBounds i true).getD k true == false) ≤ L.countP (fun k => listed.getD k true == false) :=
              List.countP_mono_left (fun k _ hk => hsub k hk)
            rcases List.mem_cons.1 hmem with e | hm
            · subst e
              rw [if_neg (by rw [hnot]; decide), if_pos h1']
              omega
            · have h2 := ihL hm
              by_cases hx : ((listed.setIfInBounds i true).getD x true == false) = true
              · rw [if_pos hx, if_pos (hsub x hx)]; omega
              · rw [if_neg hx]; omega
        omega
      · rw [put_slot _ _ _ _ (fun e => ?_)]
        · exact hc.same t ht
        · have h2 := List.all_eq_true.1 ht i (List.mem_range.2 hlt)
          simp only [bne_iff_ne] at h2
          exact h2 e
      · intro j d hl hd
        by_cases hji : j = i
        · subst hji
          rw [hd, put_self _ _ _ (by rw [hc.size]; exact hfit _ _ hd)]
          exact hv
        · have hl' : listed.getD j false = true := by rwa [getD_set_ne false (fun e => hji e.symm)] at hl
          have hjs : j < ops.size := by
            rcases Nat.lt_or_ge j ops.size with h | h
            · exact h
            · rw [Array.getD_eq_getD_getElem?, Array.getElem?_eq_none (by omega)] at hl'; simp at hl'
          rw [put_slot _ _ _ _ (fun e => ?_)]
          · exact hst _ _ _ _ (hs j d hl' hd) hgrow
          · rcases hb3 j hjs hji with h | h
            · rw [h] at e; cases e
            · exact h (e.trans hd.symm)
    · -- what it looks at has come up
      have hjd : ∃ d, dstOf ops j = some d := by
        unfold depB at hj
        rw [ho] at hj
        cases hd : dstOf ops j with
        | none => rw [hd] at hj; cases hj
        | some d => exact ⟨d, rfl⟩
      obtain ⟨d, hd⟩ := hjd
      have hjs : j < ops.size := by
        unfold dstOf at hd
        cases hoj : ops[j]? with
        | none => rw [hoj] at hd; cases hd
        | some oj => exact (Array.getElem?_eq_some_iff.1 hoj).1
      obtain ⟨e, he, hbd, hon⟩ := hb2 j hjs hj
      have hl := hrdy e he hbd
      rw [hon] at hl
      have := hs j d hl hd
      unfold slotOf
      rw [hd]
      exact this
theorem wp_region_grow {id : Nat} {w : World} (hm : P.follows .mixedOrders = true) (sp : Nat → Value → World → Prop) (hB : growB ops = true) (hfit : ∀ i d, dstOf ops i = some d → d < a0.tmps.size)
    (hst : ∀ i v w w', sp i v w → Below w.heap.size w w' → sp i v w')
    (hob : ∀ i, i < ops.size → Oblig P ops Q a0 w.drew sp i)
    (hfin : ∀ a w', GrowCtx ops a0 w.drew a w' → (∀ j d, j < ops.size → dstOf ops j = some d → sp j (a.tmps[d]?.getD undef) w') → Q .normal a w') :
    (Code.region id ops true).wp P Q a0 w := by
  refine wp_region_any hm (wpAny_grow (w0 := w.drew) hB hfit hst hob hfin _ _ _ _ (by simp) ?_ ⟨Below.refl _ _, rfl, rfl, fun _ _ => rfl⟩ (fun j d hl _ => ?_))
  · exact Nat.le_trans (List.countP_le_length) (by simp)
  · rw [getD_replicate_false] at hl; cases hl
end
theorem wp_region_sp {P : Program} {ops : Array Oper} {Q : Exit → Act → World → Prop} {a0 : Act} {id : Nat} {w : World} (hm : P.follows .mixedOrders = true) (l : List Sp) (hB : growB ops = true) (hfit : slotFitB ops a0.tmps.size = true)
    (hob : ∀ i, i < ops.size → Oblig P ops Q a0 w.drew (spOf l) i)
    (hfin : ∀ a w', GrowCtx ops a0 w.drew a w' → (∀ j d, j < ops.size → dstOf ops j = some d → spOf l j (a.tmps[d]?.getD undef) w') → Q .normal a w') :
    (Code.region id ops true).wp P Q a0 w := wp_region_grow hm (spOf l) hB (fit_of hfit) (spOf_st l) hob hfin
end Go.Proofs.Ytmcjefdnkcpghaa.Q
/- THE WALK OF octroilaw10.lives. -/
namespace Go.Proofs.Ytmcjefdnkcpghaa
open Go.RowKit
/-- what Join answers: bytes, and whether they are -/
def joinS (l : List UInt8) (b : Bool) : Sp := ⟨fun x w => ∃ v, x = .tuple #[v, .bool b] ∧ Byt w w.heap.size v l, fun x w w' h hb => by
  obtain ⟨v, h1, h2⟩ := h; exact ⟨v, h1, (h2.below hb).heap⟩⟩
def abL : List UInt8 := [97, 98]
theorem ab_len : abL.length = 2 := rfl
theorem ab_right : rightB ((3 : Nat) : Int) (abL.length : Int) = true := by decide
theorem ab_pages : pagesR 3 abL = (pagesL 3 abL, 0) := by
  unfold pagesR
  rw [show rightB 3 (abL.length : Int) = true from by decide, if_pos rfl]; rfl
theorem ab_cuts : cutsL abL = [fillL abL] := by
  rw [cutsL_cons (by decide), show abL.drop 64 = [] from rfl, cutsL_nil]; rfl
theorem ab_pagesL : pagesL 3 abL = [firstL 3 abL.length (sumL abL), fillL abL, lastL 3 (sumL abL)] := by
  unfold pagesL; rw [ab_cuts]; rfl
theorem ab_str : (bsA abL == (⟨#[97, 98]⟩ : ByteArray)) = true := by rfl
theorem add_zero (a : Addr) : a.add 0 = a := by simp [Addr.add]
theorem byt_frozen (w : World) (l : List UInt8) (hl : l.length ≤ maxLen) (m : Nat × Nat) : Byt (w.alloc (.cells (l.map bV).toArray 5 m)) (w.heap.size + 1) (.slice (some ⟨w.heap.size, 0, none⟩) l.length l.length) l := by
  refine ⟨_, _, rfl, Nat.le_refl _, hl, fun _ => ⟨_, rfl, by simp, fun j x hj => ?_⟩⟩
  rw [addr_mk_add, cell_of_row _ _ _ _ 5 m (heap_alloc_new w _)]
  simp [hj]
set_option maxRecDepth 100000 in
set_option maxHeartbeats 4000000 in
theorem lives10_any (w : World) : Calls Try.prog 49 #[] w fun e w' => e = .returned (.bool true) ∧ Below w.heap.size w w' := by
  have hown := byt_frozen w abL (by simp [abL, maxLen]) (2, 3)
  have hab : Below w.heap.size w (w.alloc (.cells (abL.map bV).toArray 5 (2, 3))) := (Below.refl _ _).alloc (Nat.le_refl _) _
  have hpg := pages_any 3 _ abL _ hown (by decide)
  unfold PagesPost at hpg
  rw [ab_pages] at hpg
  simp only at hpg
  have HAB := Lib.hid hab
  clear hown hab
  have kc := fun (w : World) (C : Array Value) (n c : Nat) => Lib.run_convert_bytes_const (P := Try.prog) w 23 5 C n c Try.underlying23 Try.underlying5
  go_enter Try.func49, Try.ntmps49
  go_wp2_with fail
  refine hpg.mono ?_
  rintro e w1 ⟨v1, rfl, ho1, hb1⟩
  have hb01 := HAB.out.trans (hb1.mono (by simp))
  have hby := ho1.byts
  rw [ab_pagesL] at hby
  have hSl := sumL_lt abL
  have hbeg := begin_first (s := sumL abL) ab_right hSl
  have hjoi := join_cuts (l := abL) ab_right
  rw [ab_cuts] at hjoi
  have hend := fun (W : World) (B : Nat) (v : Value) (h : Byt W B v (lastL 3 (sumL abL))) => end_any h 3 2 (sumL abL) hSl
  have hend' : endB (lastL 3 (sumL abL)) 3 (sumL abL) = true := end_last (by omega) (by omega)
  have hjo := fun (W : World) (v : Value) (h : Byts W W.heap.size v [fillL abL]) => join_any h 3 2 (sumL abL) hSl
  unfold JoinPost at hjo
  rw [ab_len] at hbeg hjoi
  change joinB _ 3 2 _ = true ∧ joinL _ 3 2 _ = _ at hjoi
  rw [hjoi.1, hjoi.2] at hjo
  rw [hend'] at hend
  unfold headV at hend hjo
  rw [ab_len] at hby
  generalize sumL abL = S at *
  obtain ⟨A, c, rfl, hc3, hm3⟩ := hby.form
  obtain ⟨ad, u0, rfl, hadb, hc0, hu0⟩ := hby.atv 0 (by simp)
  obtain ⟨ad', u1, e1, _, hc1, hu1⟩ := hby.atv 1 (by simp)
  cases e1
  obtain ⟨ad', u2, e2, _, hc2, hu2⟩ := hby.atv 2 (by simp)
  cases e2
  rw [add_zero] at hc0
  change Byt w1 _ u0 (firstL 3 2 S) at hu0
  change Byt w1 _ u1 (fillL abL) at hu1
  change Byt w1 _ u2 (lastL 3 S) at hu2
  change w1.cell? ⟨ad.block, ad.off + 1, none⟩ = _ at hc1
  change w1.cell? ⟨ad.block, ad.off + 2, none⟩ = _ at hc2
  have hbg := begin_any hu0
  unfold BeginPost at hbg
  rw [hbeg.1, hbeg.2] at hbg
  unfold headV at hbg
  simp only [List.length_cons, List.length_nil, Nat.zero_add, Nat.reduceAdd] at hc3 hby
  unfold maxLen at hm3
  have HEN := Lib.hid hend
  have HJO := Lib.hid hjo
  have HBY := Lib.hid hby
  have HC1 := Lib.hid hc1
  have HC2 := Lib.hid hc2
  have HC0 := Lib.hid hc0
  have HU2 := Lib.hid hu2
  have HB01 := Lib.hid hb01
  clear hbeg hjoi hend hend' hjo ho1 hu0 hu1 hu2 hb01 hb1 hpg hby hc1 hc2
  go_wp2_with ((with_reducible refine hbg.mono ?_); rintro e w2 ⟨rfl, hb2⟩)
  have hbx := fun (W : World) (hW : Below (w2.alloc (.cells #[.int .i64 3, .int .i64 2, .int .u32 (S : Int)] 77)).drew.heap.size (w2.alloc (.cells #[.int .i64 3, .int .i64 2, .int .u32 (S : Int)] 77)).drew W) => (show (W.cell? ⟨w2.heap.size, 0, none⟩ = some (.int .i64 3) ∧ W.cell? ⟨w2.heap.size, 1, none⟩ = some (.int .i64 2) ∧ W.cell? ⟨w2.heap.size, 2, none⟩ = some (.int .u32 (S : Int))) ∧ W.cell? ad = some u0 ∧ W.cell? ⟨ad.block, ad.off + 1, none⟩ = some u1 ∧ W.cell? ⟨ad.block, ad.off + 2, none⟩ = some u2 ∧ Byts W w1.heap.size (.slice (some ad) 3 c) [firstL 3 2 S, fillL abL, lastL 3 S] ∧ Byt W w1.heap.size u2 (lastL 3 S) ∧ Below w.heap.size w W from by
    have hb12 : Below w1.heap.size w1 (w2.alloc (.cells #[.int .i64 3, .int .i64 2, .int .u32 (S : Int)] 77)) := hb2.alloc hb2.size _
    have hW1 := hb12.drew.trans (hW.mono hb12.size)
    have h6 := (hW.block w2.heap.size (lt_of_block (heap_alloc_new w2 _))).trans (heap_alloc_new w2 _)
    exact ⟨⟨cells_of h6 0 _ rfl, cells_of h6 1 _ rfl, cells_of h6 2 _ rfl⟩, (hW1.cell hadb).trans HC0.out, (hW1.cell (p := ⟨ad.block, ad.off + 1, none⟩) hadb).trans HC1.out, (hW1.cell (p := ⟨ad.block, ad.off + 2, none⟩) hadb).trans HC2.out, HBY.out.below hW1, HU2.out.below hW1, HB01.out.trans (hW1.mono HB01.out.size)⟩)
  have HBX := Lib.hid hbx
  have HMID := Lib.hid (show ∀ W, Byts W w1.heap.size (.slice (some ad) 3 c) [firstL 3 2 S, fillL abL, lastL 3 S] → Byts W W.heap.size (.slice (some ⟨ad.block, ad.off + 1, none⟩) 1 (c - 1)) [fillL abL] from fun W h => Byts.mid (ls := [firstL 3 2 S, fillL abL, lastL 3 S]) 1 2 h.heap (by decide) (by show 2 ≤ 3; decide))
  have i1 : (2 : Int) ≤ (c : Int) := by omega
  have i2 : ¬ c = 1 := by omega
  clear hbx hb2
  -- region 5
  refine Q.wp_region_sp (by kernel_rfl) [isS (.slice (some ad) 3 c), isS (.slice (some ⟨ad.block, ad.off + 1, none⟩) 1 (c - 1)), isS (.agg #[.int .i64 3, .int .i64 2, .int .u32 (S : Int)]), joinS abL true, joinS abL true, bytS abL, isS (.bool true), bytS abL, isS (.bool true)] (by kernel_rfl) (by kernel_rfl) (fun i hi => ?_) (fun a w5 hc hs => ?_)
  · match i, hi with
    | 0, _ =>
      intro a W hc hd
      have z1 := hc.same 1 (by kernel_rfl)
      simp only [List.getElem?_toArray, List.getElem?_cons_succ, List.getElem?_cons_zero, Option.getD_some] at z1
      refine obl_val rfl (wanted_none rfl) ?_ rfl
      go_simp
    | 1, _ =>
      intro a W hc hd
      have s0 : a.tmps[28]?.getD undef = (.slice (some ad) 3 c) := hd 0 (by kernel_rfl)
      refine obl_val rfl (wanted_none rfl) ?_ rfl
      go_simp
    | 2, _ =>
      intro a W hc hd
      have z3 := hc.same 3 (by kernel_rfl)
      simp only [List.getElem?_toArray, List.getElem?_cons_succ, List.getElem?_cons_zero, Option.getD_some] at z3
      obtain ⟨⟨y0, y1, y2⟩, q0, q1, q2, hB, hU, qb⟩ := HBX.out W hc.below
      refine obl_val rfl (wanted_none rfl) ?_ rfl
      go_simp
    | 3, _ =>
      intro a W hc hd
      have s1 : a.tmps[29]?.getD undef = (.slice (some ⟨ad.block, ad.off + 1, none⟩) 1 (c - 1)) := hd 1 (by kernel_rfl)
      have s2 : a.tmps[30]?.getD undef = (.agg #[.int .i64 3, .int .i64 2, .int .u32 (S : Int)]) := hd 2 (by kernel_rfl)
      obtain ⟨⟨y0, y1, y2⟩, q0, q1, q2, hB, hU, qb⟩ := HBX.out W hc.below
      refine obl_call rfl (wanted_none rfl) (by go_simp) (HJO.out W _ (HMID.out W hB)) ?_
      rintro e w8 ⟨v8, rfl, hv8, hb8⟩
      exact ⟨_, rfl, ⟨v8, rfl, hv8.1⟩, hb8⟩
    | 4, _ =>
      intro a W hc hd
      have s3 : (joinS abL true).f (a.tmps[31]?.getD undef) W := hd 3 (by kernel_rfl)
      obtain ⟨v4, h4, hb4⟩ := s3
      refine obl_val rfl (wanted_none rfl) ?_ ⟨v4, rfl, hb4⟩
      go_simp
    | 5, _ =>
      intro a W hc hd
      have s4 : (joinS abL true).f (a.tmps[27]?.getD undef) W := hd 4 (by kernel_rfl)
      obtain ⟨v4, h4, hb4⟩ := s4
      refine obl_val rfl (wanted_none rfl) ?_ hb4
      go_simp
    | 6, _ =>
      intro a W hc hd
      have s4 : (joinS abL true).f (a.tmps[27]?.getD undef) W := hd 4 (by kernel_rfl)
      obtain ⟨v4, h4, hb4⟩ := s4
      refine obl_val rfl (wanted_none rfl) ?_ rfl
      go_simp
    | 7, _ =>
      intro a W hc hd
      have s5 : (bytS abL).f (a.tmps[32]?.getD undef) W := hd 5 (by kernel_rfl)
      refine obl_val rfl (wanted_none rfl) ?_ s5
      go_simp
    | 8, _ =>
      intro a W hc hd
      have s6 : a.tmps[33]?.getD undef = (.bool true) := hd 6 (by kernel_rfl)
      refine obl_val rfl (wanted_none rfl) ?_ rfl
      go_simp
    | n + 9, h => exact absurd h (by simp)
  · skip
    have hj5 : Byt w5 w5.heap.size (a.tmps[5]?.getD undef) abL := hs 7 5 (by decide) (by kernel_rfl)
    have hfr := grow_frame hc [(28, (.slice (some ad) 3 c)), (29, (.slice (some ⟨ad.block, ad.off + 1, none⟩) 1 (c - 1))), (30, (.agg #[.int .i64 3, .int .i64 2, .int .u32 (S : Int)])), (31, a.tmps[31]?.getD undef), (27, a.tmps[27]?.getD undef), (32, a.tmps[32]?.getD undef), (33, (.bool true)), (5, a.tmps[5]?.getD undef), (6, (.bool true))] (by kernel_rfl) (fun p hp => by
        simp only [List.mem_cons, List.not_mem_nil, or_false] at hp
        rcases hp with rfl | rfl | rfl | rfl | rfl | rfl | rfl | rfl | rfl
        · exact hs 0 28 (by decide) (by kernel_rfl)
        · exact hs 1 29 (by decide) (by kernel_rfl)
        · exact hs 2 30 (by decide) (by kernel_rfl)
        · rfl
        · rfl
        · rfl
        · exact hs 6 33 (by decide) (by kernel_rfl)
        · rfl
        · exact hs 8 6 (by decide) (by kernel_rfl)
        )
    generalize a.tmps[31]?.getD undef = z31 at hfr
    generalize a.tmps[27]?.getD undef = z27 at hfr
    generalize a.tmps[32]?.getD undef = z32 at hfr
    generalize a.tmps[5]?.getD undef = z5 at hfr hj5
    simp only [List.range, List.range.loop, List.size_toArray, List.length_cons, List.length_nil, List.map_cons, List.map_nil, List.lookup_cons, List.lookup_nil, Nat.reduceAdd, Nat.reduceBEq, Option.getD_some, Option.getD_none, List.getElem?_toArray, List.getElem?_cons_succ, List.getElem?_cons_zero] at hfr
    subst hfr
  -- end 5
    have HJ5 := Lib.hid hj5
    have HB5 := Lib.hid hc.below.drew
    clear hj5 hs hc
    generalize w2.heap.size = b3 at *
    go_wp2_with fail
    -- region 6
    refine Q.wp_region_sp (by kernel_rfl) [isS (.bool true), isS (.bool true), isS (.bool true), isS (.bool true), isS (.bool true), isS z5, isS (.string (bsA abL)), isS (.bool true), isS (.bool true), isS (.bool true), isS (.slice (some ad) 3 c), isS (.pointer (some ⟨ad.block, ad.off + 2, none⟩)), isS u2, isS (.agg #[.int .i64 3, .int .i64 2, .int .u32 (S : Int)]), isS (.bool true), isS (.bool true), isS (.bool true), isS (.pointer (some ⟨b3, 0, none⟩)), isS (.int .i64 3), isS (.bool true), isS (.bool true), isS (.bool true), isS (.int .i64 3), isS (.bool true), isS (.bool true), isS (.bool true), isS (.int .i64 4), isS (.bool true), isS (.bool true), isS (.bool true)] (by kernel_rfl) (by kernel_rfl) (fun i hi => ?_) (fun a w6 hc hs => ?_)
    · match i, hi with
      | 0, _ =>
        intro a W hc hd
        have z4 := hc.same 4 (by kernel_rfl)
        simp only [List.getElem?_toArray, List.getElem?_cons_succ, List.getElem?_cons_zero, Option.getD_some] at z4
        refine obl_val rfl (wanted_none rfl) ?_ rfl
        go_simp
      | 1, _ =>
        intro a W hc hd
        have s0 : a.tmps[34]?.getD undef = (.bool true) := hd 0 (by kernel_rfl)
        refine obl_val rfl (wanted_none rfl) ?_ rfl
        go_simp
      | 2, _ =>
        intro a W hc hd
        have z6 := hc.same 6 (by kernel_rfl)
        have s1 : a.tmps[35]?.getD undef = (.bool true) := hd 1 (by kernel_rfl)
        simp only [List.getElem?_toArray, List.getElem?_cons_succ, List.getElem?_cons_zero, Option.getD_some] at z6
        refine obl_val rfl (wanted_some rfl rfl s1) ?_ rfl
        go_simp
      | 3, _ =>
        intro a W hc hd
        have s1 : a.tmps[35]?.getD undef = (.bool true) := hd 1 (by kernel_rfl)
        have s2 : a.tmps[36]?.getD undef = (.bool true) := hd 2 (by kernel_rfl)
        refine obl_val rfl (wanted_none rfl) ?_ rfl
        go_simp
      | 4, _ =>
        intro a W hc hd
        have s3 : a.tmps[37]?.getD undef = (.bool true) := hd 3 (by kernel_rfl)
        refine obl_val rfl (wanted_none rfl) ?_ rfl
        go_simp
      | 5, _ =>
        intro a W hc hd
        have z5 := hc.same 5 (by kernel_rfl)
        have s4 : a.tmps[38]?.getD undef = (.bool true) := hd 4 (by kernel_rfl)
        simp only [List.getElem?_toArray, List.getElem?_cons_succ, List.getElem?_cons_zero, Option.getD_some] at z5
        refine obl_val rfl (wanted_some rfl rfl s4) ?_ rfl
        go_simp
      | 6, _ =>
        intro a W hc hd
        have s5 : a.tmps[39]?.getD undef = z5 := hd 5 (by kernel_rfl)
        have s4 : a.tmps[38]?.getD undef = (.bool true) := hd 4 (by kernel_rfl)
        have e := (HJ5.out.drew.below hc.below).strA
        refine obl_val rfl (wanted_some rfl rfl s4) ?_ rfl
        go_simp
      | 7, _ =>
        intro a W hc hd
        have s6 : a.tmps[40]?.getD undef = (.string (bsA abL)) := hd 6 (by kernel_rfl)
        have s4 : a.tmps[38]?.getD undef = (.bool true) := hd 4 (by kernel_rfl)
        refine obl_val rfl (wanted_some rfl rfl s4) (v := .bool (bsA abL == ⟨#[97, 98]⟩)) ?_ (by rw [ab_str]; rfl)
        exact exec_eqstr rfl (eval_tmp s6) rfl
      | 8, _ =>
        intro a W hc hd
        have s4 : a.tmps[38]?.getD undef = (.bool true) := hd 4 (by kernel_rfl)
        have s7 : a.tmps[41]?.getD undef = (.bool true) := hd 7 (by kernel_rfl)
        refine obl_val rfl (wanted_none rfl) ?_ rfl
        go_simp
      | 9, _ =>
        intro a W hc hd
        have s8 : a.tmps[42]?.getD undef = (.bool true) := hd 8 (by kernel_rfl)
        refine obl_val rfl (wanted_none rfl) ?_ rfl
        go_simp
      | 10, _ =>
        intro a W hc hd
        have z1 := hc.same 1 (by kernel_rfl)
        have s9 : a.tmps[43]?.getD undef = (.bool true) := hd 9 (by kernel_rfl)
        simp only [List.getElem?_toArray, List.getElem?_cons_succ, List.getElem?_cons_zero, Option.getD_some] at z1
        refine obl_val rfl (wanted_some rfl rfl s9) ?_ rfl
        go_simp
      | 11, _ =>
        intro a W hc hd
        have s10 : a.tmps[44]?.getD undef = (.slice (some ad) 3 c) := hd 10 (by kernel_rfl)
        have s9 : a.tmps[43]?.getD undef = (.bool true) := hd 9 (by kernel_rfl)
        refine obl_val rfl (wanted_some rfl rfl s9) ?_ rfl
        go_simp
      | 12, _ =>
        intro a W hc hd
        have s11 : a.tmps[45]?.getD undef = (.pointer (some ⟨ad.block, ad.off + 2, none⟩)) := hd 11 (by kernel_rfl)
        have s9 : a.tmps[43]?.getD undef = (.bool true) := hd 9 (by kernel_rfl)
        obtain ⟨⟨y0, y1, y2⟩, q0, q1, q2, hB, hU, qb⟩ := HBX.out W (HB5.out.trans (hc.below.mono HB5.out.size))
        refine obl_val rfl (wanted_some rfl rfl s9) ?_ rfl
        go_simp
      | 13, _ =>
        intro a W hc hd
        have z3 := hc.same 3 (by kernel_rfl)
        have s9 : a.tmps[43]?.getD undef = (.bool true) := hd 9 (by kernel_rfl)
        simp only [List.getElem?_toArray, List.getElem?_cons_succ, List.getElem?_cons_zero, Option.getD_some] at z3
        obtain ⟨⟨y0, y1, y2⟩, q0, q1, q2, hB, hU, qb⟩ := HBX.out W (HB5.out.trans (hc.below.mono HB5.out.size))
        refine obl_val rfl (wanted_some rfl rfl s9) ?_ rfl
        go_simp
      | 14, _ =>
        intro a W hc hd
        have s12 : a.tmps[46]?.getD undef = u2 := hd 12 (by kernel_rfl)
        have s13 : a.tmps[47]?.getD undef = (.agg #[.int .i64 3, .int .i64 2, .int .u32 (S : Int)]) := hd 13 (by kernel_rfl)
        have s9 : a.tmps[43]?.getD undef = (.bool true) := hd 9 (by kernel_rfl)
        obtain ⟨⟨y0, y1, y2⟩, q0, q1, q2, hB, hU, qb⟩ := HBX.out W (HB5.out.trans (hc.below.mono HB5.out.size))
        refine obl_call rfl (wanted_some rfl rfl s9) (by go_simp) (HEN.out W _ _ hU) ?_
        rintro e w8 ⟨rfl, hb8⟩
        exact ⟨_, rfl, rfl, hb8⟩
      | 15, _ =>
        intro a W hc hd
        have s9 : a.tmps[43]?.getD undef = (.bool true) := hd 9 (by kernel_rfl)
        have s14 : a.tmps[48]?.getD undef = (.bool true) := hd 14 (by kernel_rfl)
        refine obl_val rfl (wanted_none rfl) ?_ rfl
        go_simp
      | 16, _ =>
        intro a W hc hd
        have s15 : a.tmps[49]?.getD undef = (.bool true) := hd 15 (by kernel_rfl)
        refine obl_val rfl (wanted_none rfl) ?_ rfl
        go_simp
      | 17, _ =>
        intro a W hc hd
        have z3 := hc.same 3 (by kernel_rfl)
        have s16 : a.tmps[50]?.getD undef = (.bool true) := hd 16 (by kernel_rfl)
        simp only [List.getElem?_toArray, List.getElem?_cons_succ, List.getElem?_cons_zero, Option.getD_some] at z3
        refine obl_val rfl (wanted_some rfl rfl s16) ?_ rfl
        go_simp
      | 18, _ =>
        intro a W hc hd
        have s17 : a.tmps[51]?.getD undef = (.pointer (some ⟨b3, 0, none⟩)) := hd 17 (by kernel_rfl)
        have s16 : a.tmps[50]?.getD undef = (.bool true) := hd 16 (by kernel_rfl)
        obtain ⟨⟨y0, y1, y2⟩, q0, q1, q2, hB, hU, qb⟩ := HBX.out W (HB5.out.trans (hc.below.mono HB5.out.size))
        refine obl_val rfl (wanted_some rfl rfl s16) ?_ rfl
        go_simp
      | 19, _ =>
        intro a W hc hd
        have s18 : a.tmps[52]?.getD undef = (.int .i64 3) := hd 18 (by kernel_rfl)
        have s16 : a.tmps[50]?.getD undef = (.bool true) := hd 16 (by kernel_rfl)
        refine obl_val rfl (wanted_some rfl rfl s16) ?_ rfl
        go_simp
      | 20, _ =>
        intro a W hc hd
        have s16 : a.tmps[50]?.getD undef = (.bool true) := hd 16 (by kernel_rfl)
        have s19 : a.tmps[53]?.getD undef = (.bool true) := hd 19 (by kernel_rfl)
        refine obl_val rfl (wanted_none rfl) ?_ rfl
        go_simp
      | 21, _ =>
        intro a W hc hd
        have s20 : a.tmps[54]?.getD undef = (.bool true) := hd 20 (by kernel_rfl)
        refine obl_val rfl (wanted_none rfl) ?_ rfl
        go_simp
      | 22, _ =>
        intro a W hc hd
        have s21 : a.tmps[55]?.getD undef = (.bool true) := hd 21 (by kernel_rfl)
        refine obl_call rfl (wanted_some rfl rfl s21) (by go_simp) (need_any 1 W) ?_
        rintro e w8 ⟨rfl, rfl⟩
        exact ⟨_, rfl, by rw [show needI 1 = 3 from rfl]; rfl, Below.refl _ _⟩
      | 23, _ =>
        intro a W hc hd
        have s22 : a.tmps[56]?.getD undef = (.int .i64 3) := hd 22 (by kernel_rfl)
        have s21 : a.tmps[55]?.getD undef = (.bool true) := hd 21 (by kernel_rfl)
        refine obl_val rfl (wanted_some rfl rfl s21) ?_ rfl
        go_simp
      | 24, _ =>
        intro a W hc hd
        have s21 : a.tmps[55]?.getD undef = (.bool true) := hd 21 (by kernel_rfl)
        have s23 : a.tmps[57]?.getD undef = (.bool true) := hd 23 (by kernel_rfl)
        refine obl_val rfl (wanted_none rfl) ?_ rfl
        go_simp
      | 25, _ =>
        intro a W hc hd
        have s24 : a.tmps[58]?.getD undef = (.bool true) := hd 24 (by kernel_rfl)
        refine obl_val rfl (wanted_none rfl) ?_ rfl
        go_simp
      | 26, _ =>
        intro a W hc hd
        have s25 : a.tmps[59]?.getD undef = (.bool true) := hd 25 (by kernel_rfl)
        refine obl_call rfl (wanted_some rfl rfl s25) (by go_simp) (need_any 65 W) ?_
        rintro e w8 ⟨rfl, rfl⟩
        exact ⟨_, rfl, by rw [show needI 65 = 4 from rfl]; rfl, Below.refl _ _⟩
      | 27, _ =>
        intro a W hc hd
        have s26 : a.tmps[60]?.getD undef = (.int .i64 4) := hd 26 (by kernel_rfl)
        have s25 : a.tmps[59]?.getD undef = (.bool true) := hd 25 (by kernel_rfl)
        refine obl_val rfl (wanted_some rfl rfl s25) ?_ rfl
        go_simp
      | 28, _ =>
        intro a W hc hd
        have s25 : a.tmps[59]?.getD undef = (.bool true) := hd 25 (by kernel_rfl)
        have s27 : a.tmps[61]?.getD undef = (.bool true) := hd 27 (by kernel_rfl)
        refine obl_val rfl (wanted_none rfl) ?_ rfl
        go_simp
      | 29, _ =>
        intro a W hc hd
        have s28 : a.tmps[62]?.getD undef = (.bool true) := hd 28 (by kernel_rfl)
        refine obl_val rfl (wanted_none rfl) ?_ rfl
        go_simp
      | n + 30, h => exact absurd h (by simp)
    · have h29 : a.tmps[0]?.getD undef = .bool true := hs 29 0 (by decide) (by kernel_rfl)
      go_wp2_with fail
      refine bodyPost_ret (v := .bool true) (by simp [results, Try.results49, go_sem, h29]) hc.defers ?_
      exact ⟨rfl, (HBX.out w6 (HB5.out.trans (hc.below.mono HB5.out.size))).2.2.2.2.2.2⟩
    -- end 6
end Go.Proofs.Ytmcjefdnkcpghaa
/- append OF make, ONTO A ROW OF THE CALL'S OWN. -/
namespace Go.Proofs.Ytmcjefdnkcpghaa
open Go.RowKit
theorem zero_cells (k : Nat) : Builtin.zeroCells (Value.int .u8 0).cells k = ((List.replicate k (0 : UInt8)).map bV).toArray := by
  apply Array.ext
  · simp [Builtin.zeroCells, Value.cells]
  · intro i h1 h2
    simp [Builtin.zeroCells, Value.cells, bV, Nat.mod_one]
theorem run_append_zeros_own (w : World) (base : Nat) (ty : TypeId) (v : Value) (l : List UInt8) (hown : Own w base v l) (hv : v ≠ .slice none 0 0) (k : Nat) (hk : l.length + k ≤ 140737488355328) (hbase : base ≤ w.heap.size) :
    ∃ v' w', (Builtin.append_ #[23, 3] ty #[v, .int .i64 k]).run Try.prog w = .ok v' w' ∧ Own w' base v' (l ++ List.replicate k 0) ∧ w.grownBy w' v.ownBlock := by
  obtain ⟨i, hi, hz, hs, hby⟩ := info_parts Try.byteInfo
  have ht := Try.underlying23
  have htn := Try.underlying3
  have hw : IntKind.i64.wrap (k : Int) = k := by rw [IntKind.wrap_i64]; omega
  have hneg : ¬ ((k : Int) < 0) := by omega
  have h48i : ¬ (281474976710656 < (k : Int) * (i.bytes : Int)) := by rw [hby]; omega
  have hlen : ((l ++ List.replicate k 0).map bV).length = l.length + k := by simp
  rcases hown.2 with ⟨rfl, _⟩ | ⟨g, cap, cur, rfl, hbg, hg, hnc, hcm, hcs, htake⟩
  · exact absurd rfl hv
  by_cases hroom : l.length + k ≤ cap
  · by_cases h0 : k = 0
    · subst h0
      refine ⟨.slice (some ⟨g, 0, none⟩) l.length cap, w, ?_, by simpa using hown, World.grownBy.refl w _⟩
      simp [Builtin.append_, run_underlying ht, run_underlying htn, sizeOf, typeInfo, hi, asInt, asIntOf, hnc, storeCells, IntKind.wrap_i64]
    · have hst := run_storeCells_at Try.prog g (l.length * i.size) 5 ((List.replicate k (0 : UInt8)).map bV) 0 cur w hg (by rw [hs, hcs]; simp; omega) (by intro u hu; rw [List.mem_map] at hu; obtain ⟨x, _, rfl⟩ := hu; rfl)
      simp only [Nat.add_zero, hs, Nat.mul_one, List.length_map, List.length_replicate] at hst
      refine ⟨.slice (some ⟨g, 0, none⟩) (l.length + k) cap, w.setRow g (cur.toList.take l.length ++ (List.replicate k (0 : UInt8)).map bV ++ cur.toList.drop (l.length + k)).toArray, ?_, ?_, ⟨rfl, rfl, rfl, by simp, fun j _ hj => setRow_other w g j _ (fun e => hj (by simp [Value.ownBlock, e]))⟩⟩
      · simp [Builtin.append_, run_underlying ht, run_underlying htn, sizeOf, typeInfo, zeroValue, hi, hz, hs, asInt, asIntOf, hw, hroom, hneg, h48i, h0, zero_cells, Addr.add_lit]
        simp at hst
        rw [hst]; rfl
      · unfold Own
        rw [show (l ++ List.replicate k (0 : UInt8)).length = l.length + k from by simp]
        refine ⟨by simp, .inr ⟨g, cap, _, rfl, hbg, setRow_heap w g cur _ 5 _ hg, hroom, hcm, ?_, ?_⟩⟩
        · simp only [List.size_toArray, List.length_append, List.length_take, List.length_drop, Array.length_toList, List.length_map, List.length_replicate]
          omega
        · rw [Nat.mul_one] at htake ⊢
          rw [htake, List.map_append]
          rw [List.take_append_of_le_length (by simp), List.take_of_length_le (by simp)]
  · have hx : ∀ j u, (l.map bV)[j]? = some u → w.cell? ((⟨g, 0, none⟩ : Addr).add j) = some u := (show w.ownsRow base 5 1 (.slice (some ⟨g, 0, none⟩) l.length cap) l.length (l.map bV) from hown).cells (g := g) rfl
    have hold := run_firstCells_some (P := Try.prog) w.drew i.size l.length ⟨g, 0, none⟩ l.length cap (l.map bV) (by simp [hs]) hx
    have hr := Lib.run_append_grow_zeros (P := Try.prog) w 23 3 ty 5 i (.int .u8 0) .i64 .i64 ht htn hi hz (some ⟨g, 0, none⟩) l.length cap (l.map bV) hold k (by omega) (by omega) (by omega) (by omega) (by rw [hby]; omega) (growslice_fits (by omega) (by rw [hby]; omega))
    refine ⟨_, _, hr, ?_, ⟨rfl, rfl, rfl, by simp, fun j hj _ => heap_alloc_old w.drew _ hj⟩⟩
    unfold Own
    rw [show (l ++ List.replicate k (0 : UInt8)).length = l.length + k from by simp]
    refine ⟨by simp, .inr ⟨w.heap.size, _, _, rfl, hbase, heap_alloc_new w.drew _, grownCap_ge w _ _ _, grownCap_le_maxLen w _ _ _ (by simp only [maxLen]; omega), ?_, ?_⟩⟩
    · have hge := grownCap_ge w (l.length + k) cap 5
      simp only [Array.size_append, List.size_toArray, size_zeroCells, List.length_map, Value.cells]
      simp
      omega
    · simp only [Array.toList_append, zero_cells, List.append_assoc]
      rw [← List.append_assoc, ← List.map_append, Nat.mul_one, List.take_append_of_le_length (by simp), List.take_of_length_le (by simp)]
theorem Own.block {w : World} {base : Nat} {v : Value} {l : List UInt8} (h : Own w base v l) (g : Nat) (hg : v.ownBlock = some g) : base ≤ g := by
  rcases h.2 with ⟨rfl, _⟩ | ⟨g', cap, cur, rfl, hbg, _⟩
  · cases hg
  · cases hg; exact hbg
theorem byt_take3 {w : World} {B : Nat} {ad : Addr} {c : Nat} {l : List UInt8} (j : Nat) (h : Byt w B (.slice (some ad) l.length c) l) (hj : j ≤ l.length) : Byt w B (.slice (some ad) j c) (l.take j) := by
  have := byt_mid 0 j h (Nat.zero_le _) hj
  rwa [List.drop_zero, Nat.sub_zero, Nat.sub_zero, show ad.add 0 = ad by simp [Addr.add]] at this
end Go.Proofs.Ytmcjefdnkcpghaa
