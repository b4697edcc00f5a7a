/- THE WALK OF octroiref07.Forms. -/
import Derived.Test.YtnfpmobmfcgfnaaPi
namespace Go.Proofs.Ytnfpmobmfcgfnaa
open Go.RowKit
theorem frm_len (c : List UInt8) : ∀ k, (frmUp c k).2.2.length ≤ k := by
 intro k
 induction k with
 | zero => exact Nat.le_refl _
 | succ k ih =>
  show (frmStep c (lst.getD k 0) (frmUp c k)).2.2.length ≤ k + 1
  unfold frmStep
  split
  ·exact Nat.le_succ_of_le ih
  ·simp only
   split
   ·exact Nat.le_succ_of_le ih
   ·split
    ·rw [List.length_append]; simp; exact ih
    ·exact Nat.le_succ_of_le ih
theorem frm_wd (c : List UInt8) : ∀ k, (frmUp c k).2.1.length ≤ k := by
 intro k
 induction k with
 | zero => exact Nat.le_refl _
 | succ k ih =>
  show (frmStep c (lst.getD k 0) (frmUp c k)).2.1.length ≤ k + 1
  unfold frmStep
  split
  ·rw [List.length_append]; simp; exact ih
  ·simp
theorem bsA_size (l : List UInt8) : (bsA l).size = l.length := by simp [bsA, ByteArray.size]
theorem frm_other {c : List UInt8} {b : UInt8} {st w : List UInt8} {out : List (List UInt8)} (h1 : b ≠ 32) (h2 : b ≠ 59) : frmStep c b (st, w, out) = (st, w ++ [b], out) := by
 unfold frmStep; rw [if_pos ⟨h1, h2⟩]
theorem frm_32a {c w : List UInt8} {out : List (List UInt8)} : frmStep c 32 ([], w, out) = (w, [], out) := rfl
theorem frm_59a {c w : List UInt8} {out : List (List UInt8)} : frmStep c 59 ([], w, out) = ([], [], out) := rfl
theorem frm_32b {c st w : List UInt8} {out : List (List UInt8)} (h0 : st ≠ []) (hc : st = c) : frmStep c 32 (st, w, out) = (st, [], out ++ [w]) := by
 subst hc; unfold frmStep; rw [if_neg (by simp)]; simp [h0]
theorem frm_59b {c st w : List UInt8} {out : List (List UInt8)} (h0 : st ≠ []) (hc : st = c) : frmStep c 59 (st, w, out) = ([], [], out ++ [w]) := by
 subst hc; unfold frmStep; rw [if_neg (by simp)]; simp [h0]
theorem frm_32c {c st w : List UInt8} {out : List (List UInt8)} (h0 : st ≠ []) (hc : st ≠ c) : frmStep c 32 (st, w, out) = (st, [], out) := by
 unfold frmStep; rw [if_neg (by simp)]; simp [h0, hc]
theorem frm_59c {c st w : List UInt8} {out : List (List UInt8)} (h0 : st ≠ []) (hc : st ≠ c) : frmStep c 59 (st, w, out) = ([], [], out) := by
 unfold frmStep; rw [if_neg (by simp)]; simp [h0, hc]
theorem bsA_append (a b : List UInt8) : bsA a ++ bsA b = bsA (a ++ b) := by
 rw [bsA_inj, ByteArray.data_append]; simp [bsA]
theorem frm_done (c : List UInt8) (h : memB c = true) : (frmUp c 479).2.2 = formsT c := frmUp_all c (by unfold memB at h; simpa using h)
set_option maxRecDepth 100000 in
set_option maxHeartbeats 4000000 in
theorem rforms_any (c : ByteArray) (w : World) : Calls Try.prog 81 #[.string c] w (NewSl (formsT c.data.toList) w) := by
  have hM := fun w => rmember_any c w
  cases h1 : memB c.data.toList with
  | false =>
    have HF := Lib.hid (formsT_none h1)
    rw [h1] at hM
    clear h1
    go_enter Try.func81, Try.ntmps81
    go_wp2_with (go_at_call 59; refine (hM _).mono ?_; rintro e w1 ⟨rfl, hb1⟩)
    go_ret
    exact ⟨_, rfl, by rw [HF.out]; exact Sl.nil_ _ _ _, hb1⟩
  | true =>
    have HD := Lib.hid (frm_done _ h1)
    rw [h1] at hM
    clear h1
    go_enter Try.func81, Try.ntmps81
    obtain ⟨C, hC⟩ : ∃ C : ByteArray, C = litC := ⟨_, rfl⟩
    have hC2 := hC
    unfold litC at hC2
    rw [← hC2]
    clear hC2
    have hCs : C.size = 479 := by rw [hC]; exact litC_size
    have HA : ∀ (k : Nat) (h : k < C.size), C[k] = lst.getD k 0 := by subst hC; exact litC_at
    have HX : ∀ (k : Nat) (h : k < C.size), C.extract k (k + 1) = bsA [C[k]] := fun k h => by
      rw [extract_bs, Nat.add_sub_cancel_left]
      congr 1
      have e : C.data.toList.length = C.size := Array.length_toList
      have hk : k < C.data.toList.length := by omega
      rw [List.drop_eq_getElem_cons hk, List.take_succ_cons, List.take_zero]
      rfl
    clear hC
    replace HA := Lib.hid HA
    replace HX := Lib.hid HX
    have hC479 : 479 ≤ C.size := by omega
    have hC480 : C.size ≤ 479 := by omega
    clear hCs
    go_wp2_with (go_at_call 59; refine (hM _).mono ?_; rintro e w1 ⟨rfl, hb1⟩)
    have hsz := hb1.size
    go_loopg [3, 4, 5, 6] 479 (fun g x3 x4 x5 x6 wr => ∃ (k : Nat) (st wd : List UInt8) (out : List (List UInt8)), k ≤ 479 ∧ g = 479 - k ∧ x6 = .int .i64 (k : Int) ∧ frmUp c.data.toList k = (st, wd, out) ∧ x4 = .string (bsA st) ∧ x5 = .string (bsA wd) ∧ Ow strK wr w1.heap.size x3 (out.map bsA) ∧ Below w1.heap.size w1 wr)
    case atStart => exact ⟨0, [], [], [], by omega, rfl, rfl, rfl, rfl, rfl, Ow.nil_ _ _ _, Below.refl _ _⟩
    case round =>
      obtain ⟨k, st, wd, out, hk, hg, rfl, hup, rfl, rfl, hown, hbel⟩ := hrel
      have HG := Lib.hid hg
      have hlen := frm_len c.data.toList k
      have hwd := frm_wd c.data.toList k
      rw [hup] at hlen hwd
      simp only at hlen hwd
      rw [← bsA_size] at hwd
      have HU := Lib.hid hup
      clear hg hup
      by_cases h : k < 479
      · have hkC : k < C.size := by omega
        have HM : Hid (frmUp c.data.toList (k + 1) = frmStep c.data.toList C[k] (st, wd, out)) := Lib.hid (by rw [HA.out k hkC, ← HU.out]; rfl)
        have hX := HX.out k hkC
        have hbase := hbel.size
        have HXk := Lib.hid hX
        clear hX
        by_cases b1 : C[k] = 32
        · have v : (C[k].toNat : Int) = 32 := by rw [b1]; rfl
          rw [b1] at HM HXk
          clear b1
          by_cases q0 : st = []
          · have s0 : (bsA st).toList = [] := by rw [ByteArray.toList_eq, bsA_list]; exact q0
            have s0' : (bsA st).toList.isEmpty = true := by rw [s0]; rfl
            subst q0
            replace HM := Lib.hid (HM.out.trans frm_32a)
            go_wp2
            go_roundg (479 - (k + 1))
            case measure => have := HG.out; omega
            case rel => exact ⟨k + 1, _, _, _, by omega, rfl, by go_num, HM.out, rfl, rfl, hown, hbel⟩
          · by_cases q1 : st = c.data.toList
            · have s0' : (bsA st).toList.isEmpty = false := by rw [ByteArray.toList_eq, bsA_list]; simpa using q0
              have s1 : ((bsA st).toList == c.toList) = true := by rw [str_eq, decide_eq_true_eq, eq_comm, bsA_inj]; exact q1.symm
              replace HM := Lib.hid (HM.out.trans (frm_32b q0 q1))
              clear q0 q1
              go_wp2_with (first
                | (at_builtin; go_must (refine wpList_append_sl strK _ rfl (.tmp 34) (.tmp 36) 39 rfl Try.underlying39 w1.heap.size u3 (out.map bsA) rfl (hown.alloc _) _ _ [bsA wd] rfl (sl_one strK _ _) (by simp; omega) (by decide) (by simp; omega) ?_)
                   intro v5 w5 hown5 hg5 _))
              go_roundg (479 - (k + 1))
              case measure => have := HG.out; omega
              case rel => exact ⟨k + 1, _, _, _, by omega, rfl, by go_num, HM.out, rfl, rfl, by rw [List.map_append]; exact hown5, (hbel.alloc hbel.size _).grown hg5 (by simp; omega) (fun b hb => ((hown.alloc (.cells #[Value.string (bsA wd)] 9)).lt b hb).1)⟩
            · have s0' : (bsA st).toList.isEmpty = false := by rw [ByteArray.toList_eq, bsA_list]; simpa using q0
              have s1 : ((bsA st).toList == c.toList) = false := by rw [str_eq, decide_eq_false_iff_not, eq_comm, bsA_inj]; exact fun e => q1 e.symm
              replace HM := Lib.hid (HM.out.trans (frm_32c q0 q1))
              clear q0 q1
              go_wp2
              go_roundg (479 - (k + 1))
              case measure => have := HG.out; omega
              case rel => exact ⟨k + 1, _, _, _, by omega, rfl, by go_num, HM.out, rfl, rfl, hown, hbel⟩
        · have n1 : ((C[k].toNat : Int) == 32) = false := toNat_ne (k := 32) (by decide) b1
          have n1' : ((C[k].toNat : Int) != 32) = true := by simp only [bne, n1]; rfl
          by_cases b2 : C[k] = 59
          · have v : (C[k].toNat : Int) = 59 := by rw [b2]; rfl
            rw [b2] at HM HXk
            clear b1 b2 n1 n1'
            by_cases q0 : st = []
            · have s0 : (bsA st).toList = [] := by rw [ByteArray.toList_eq, bsA_list]; exact q0
              have s0' : (bsA st).toList.isEmpty = true := by rw [s0]; rfl
              subst q0
              replace HM := Lib.hid (HM.out.trans frm_59a)
              go_wp2
              go_roundg (479 - (k + 1))
              case measure => have := HG.out; omega
              case rel => exact ⟨k + 1, _, _, _, by omega, rfl, by go_num, HM.out, rfl, rfl, hown, hbel⟩
            · by_cases q1 : st = c.data.toList
              · have s0' : (bsA st).toList.isEmpty = false := by rw [ByteArray.toList_eq, bsA_list]; simpa using q0
                have s1 : ((bsA st).toList == c.toList) = true := by rw [str_eq, decide_eq_true_eq, eq_comm, bsA_inj]; exact q1.symm
                replace HM := Lib.hid (HM.out.trans (frm_59b q0 q1))
                clear q0 q1
                go_wp2_with (first
                  | (at_builtin; go_must (refine wpList_append_sl strK _ rfl (.tmp 34) (.tmp 36) 39 rfl Try.underlying39 w1.heap.size u3 (out.map bsA) rfl (hown.alloc _) _ _ [bsA wd] rfl (sl_one strK _ _) (by simp; omega) (by decide) (by simp; omega) ?_)
                     intro v5 w5 hown5 hg5 _))
                go_roundg (479 - (k + 1))
                case measure => have := HG.out; omega
                case rel => exact ⟨k + 1, _, _, _, by omega, rfl, by go_num, HM.out, rfl, rfl, by rw [List.map_append]; exact hown5, (hbel.alloc hbel.size _).grown hg5 (by simp; omega) (fun b hb => ((hown.alloc (.cells #[Value.string (bsA wd)] 9)).lt b hb).1)⟩
              · have s0' : (bsA st).toList.isEmpty = false := by rw [ByteArray.toList_eq, bsA_list]; simpa using q0
                have s1 : ((bsA st).toList == c.toList) = false := by rw [str_eq, decide_eq_false_iff_not, eq_comm, bsA_inj]; exact fun e => q1 e.symm
                replace HM := Lib.hid (HM.out.trans (frm_59c q0 q1))
                clear q0 q1
                go_wp2
                go_roundg (479 - (k + 1))
                case measure => have := HG.out; omega
                case rel => exact ⟨k + 1, _, _, _, by omega, rfl, by go_num, HM.out, rfl, rfl, hown, hbel⟩
          · have n2 : ((C[k].toNat : Int) == 59) = false := toNat_ne (k := 59) (by decide) b2
            have n2' : ((C[k].toNat : Int) != 59) = true := by simp only [bne, n2]; rfl
            replace HM := Lib.hid (HM.out.trans (frm_other b1 b2))
            clear b1 b2
            go_wp2
            go_roundg (479 - (k + 1))
            case measure => have := HG.out; omega
            case rel => exact ⟨k + 1, _, _, _, by omega, rfl, by go_num, HM.out, rfl, by rw [← bsA_append, ← HXk.out], hown, hbel⟩
      · obtain rfl : k = 479 := by omega
        have HO : Hid (out = formsT c.data.toList) := Lib.hid (by rw [← HD.out, HU.out])
        go_wp2
        go_ret
        exact ⟨_, rfl, by rw [← HO.out]; exact hown.sl, hb1.trans (hbel.mono hsz)⟩
end Go.Proofs.Ytnfpmobmfcgfnaa

/- THE WALK OF octroiref07.Right. -/
namespace Go.Proofs.Ytnfpmobmfcgfnaa
open Go.RowKit
def okRel (s num : ByteArray) (k : Nat) (ok : Bool) : Prop :=
 (ok = true → s.size = num.size ∧ allFit (s.data.toList.take k) (num.data.toList.take k) = true) ∧ (ok = false → allFit s.data.toList num.data.toList = false)
theorem okRel_start (s num : ByteArray) : okRel s num 0 (decide (s.size = num.size)) := by
 have es : s.data.toList.length = s.size := Array.length_toList
 have en : num.data.toList.length = num.size := Array.length_toList
 refine ⟨fun h => ⟨of_decide_eq_true h, rfl⟩, fun h => allFit_len _ _ ?_⟩
 rw [es, en]; exact of_decide_eq_false h
theorem okRel_succ {s num : ByteArray} {k : Nat} (h : okRel s num k true) (h1 : k < s.size) (h2 : k < num.size) : okRel s num (k + 1) (fitB s[k] num[k]) := by
 have es : s.data.toList.length = s.size := Array.length_toList
 have en : num.data.toList.length = num.size := Array.length_toList
 obtain ⟨ha, hb⟩ := h.1 rfl
 refine ⟨fun hf => ⟨ha, allFit_snoc _ _ k (by omega) (by omega) hb (by rw [byte_at s k h1, byte_at num k h2]; exact hf)⟩, fun hf => allFit_take _ _ k (by omega) (by omega) hb (by rw [byte_at s k h1, byte_at num k h2]; exact hf)⟩
theorem okRel_end {s num : ByteArray} {k : Nat} {ok : Bool} (h : okRel s num k ok) (hk : ok = true → num.size ≤ k) : allFit s.data.toList num.data.toList = ok := by
 have es : s.data.toList.length = s.size := Array.length_toList
 have en : num.data.toList.length = num.size := Array.length_toList
 cases ok with
 | false => exact h.2 rfl
 | true =>
  obtain ⟨ha, hb⟩ := h.1 rfl
  have := hk rfl
  rwa [List.take_of_length_le (by omega), List.take_of_length_le (by omega)] at hb
set_option maxRecDepth 100000 in
set_option maxHeartbeats 8000000 in
theorem rright_any (c num : ByteArray) (hnum : num.size ≤ 9223372036854775807) (w : World) : Calls Try.prog 42 #[.string c, .string num] w (RightPost c num w) := by
 have hC := fun w => rcountry_any c w
 have hM := fun w => rmember_any c w
 have hF := fun w => rforms_any c w
 have hfl := formsT_len c.data.toList
 have en : num.data.toList.length = num.size := Array.length_toList
 have EN := Lib.hid en
 clear en
 cases h1 : countryL c.data.toList with
 | false =>
  have HR := Lib.hid (right_noc (n := num.data.toList) h1)
  rw [h1] at hC
  clear h1 hM hF
  go_enter Try.func42, Try.ntmps42
  go_wp2_with (go_at_call 41; refine (hC _).mono ?_; rintro e w1 ⟨rfl, rfl⟩)
  go_ret
  exact ⟨ret_bool HR.out.symm, Below.refl _ _⟩
 | true =>
  rw [h1] at hC
  cases h2 : memB c.data.toList with
  | true =>
   have HR := Lib.hid (right_mem (n := num.data.toList) h1 h2)
   rw [h2] at hM
   clear h1 h2
   go_enter Try.func42, Try.ntmps42
   go_wp2_with (first
    | (go_at_call 41; refine (hC _).mono ?_; rintro e w1 ⟨rfl, rfl⟩)
    | (go_at_call 59; refine (hM _).mono ?_; rintro e w2 ⟨rfl, hb2⟩)
    | (go_at_call 81; refine (hF _).mono ?_; rintro e w3 ⟨v3, rfl, hs3, hb3⟩))
   have hb0 := hb2.trans (hb3.mono hb2.size)
   have HBK := Lib.hid (map_back (formsT c.data.toList))
   have hll : ((formsT c.data.toList).map bsA).length ≤ 10 := by rw [List.length_map]; exact hfl
   clear hfl hb2 hb3 hC hM hF
   obtain ⟨ls, hls⟩ : ∃ ls, ls = (formsT c.data.toList).map bsA := ⟨_, rfl⟩
   rw [← hls] at hs3 hll HBK
   clear hls
   have hs0 := hb0.size
   obtain ⟨A, cp, rfl, hc, hm, hr⟩ := hs3
   unfold maxLen at hm
   have HRow := Lib.hid hr
   clear hr
   go_loopg [7, 8, 9] ls.length (fun g x7 x8 x9 wr => ∃ i : Nat, i ≤ ls.length ∧ g = ls.length - i ∧ x7 = .int .i64 (i : Int) ∧ fitsUp ls num i ∧ Below w3.heap.size w3 wr)
   case atStart => exact ⟨0, Nat.zero_le _, rfl, rfl, fun j hj => by omega, Below.refl _ _⟩
   case round =>
    obtain ⟨i, hi, hg, rfl, hup, hbel⟩ := hrel
    have HG := Lib.hid hg
    have HU := Lib.hid hup
    clear hg hup
    by_cases h : i < ls.length
    ·obtain ⟨ad, rfl, hadB, hrow⟩ := HRow.out (by omega)
     have hat : wr.cell? (ad.add i) = some (.string ls[i]) := (hbel.cell (p := ad.add i) (by rw [addr_add_block]; exact hadB)).trans (hrow i ls[i] (List.getElem?_eq_getElem h))
     have HK := Lib.hid (List.getElem?_eq_getElem h)
     have hi0 : (0 : Int) ≤ (i : Int) := by omega
     have hi1 : (i : Int) < (ls.length : Int) := by omega
     clear hrow
     generalize ls[i] = s at *
     have hst := okRel_start s num
     have HB := Lib.hid (show ((s.size : Int) == (num.size : Int)) = decide (s.size = num.size) by rw [Bool.eq_iff_iff, beq_iff_eq, decide_eq_true_eq]; omega)
     generalize decide (s.size = num.size) = ok0 at *
     obtain ⟨wo, rfl⟩ : ∃ wo : World, wo = wr := ⟨_, rfl⟩
     go_wp2
     go_loopg [8, 9] num.size (fun g x8 x9 w2 => ∃ (k : Nat) (ok : Bool), k ≤ num.size ∧ g = num.size - k ∧ x9 = .int .i64 (k : Int) ∧ x8 = .bool ok ∧ okRel s num k ok ∧ Below wo.heap.size wo w2)
     case atStart => exact ⟨0, ok0, Nat.zero_le _, rfl, rfl, by rw [HB.out], hst, Below.refl _ _⟩
     case round =>
      obtain ⟨k, ok, hk, hg2, rfl, rfl, hok, hbel2⟩ := hrel
      have HG2 := Lib.hid hg2
      have HO := Lib.hid hok
      have hat2 : wr.cell? (ad.add i) = some (.string s) := (hbel2.cell (p := ad.add i) (World.block_lt_of_cell? _ _ hat)).trans hat
      clear hg2 hok
      by_cases hlt : k < num.size
      ·cases ok with
       | true =>
        have hsn : k < s.size := by have := (HO.out.1 rfl).1; omega
        have hk0 : (0 : Int) ≤ (k : Int) := by omega
        have hk1 : (k : Int) < (s.size : Int) := by omega
        have hk2 : (k : Int) < (num.size : Int) := by omega
        have HN := Lib.hid (okRel_succ HO.out hsn hlt)
        go_wp2
        go_region_with ((go_at_call 82; refine (rfit_any _ _ _).mono ?_; rintro e w8 ⟨rfl, rfl⟩))
        all_goals go_wp2
        all_goals go_roundg (num.size - (k + 1))
        all_goals first
         | (have := HG2.out; omega)
         | exact ⟨k + 1, _, by omega, rfl, by go_num, rfl, HN.out, hbel2.drew⟩
       | false =>
        have HE := Lib.hid (okRel_end HO.out (fun e => by cases e))
        have HN := Lib.hid (fitsUp_succ HU.out HK.out HE.out)
        go_wp2
        go_roundg (ls.length - (i + 1))
        case measure => have := HG.out; omega
        case rel => exact ⟨i + 1, by omega, rfl, by go_num, HN.out, hbel.trans (hbel2.mono hbel.size)⟩
      ·obtain rfl : k = num.size := by omega
       have HE := Lib.hid (okRel_end HO.out (fun _ => Nat.le_refl _))
       cases ok with
       | true =>
        have HN := Lib.hid (fits_t HK.out HE.out)
        go_wp2
        go_ret
        refine ⟨ret_bool ?_, hb0.trans ((hbel.trans (hbel2.mono hbel.size)).mono hs0)⟩
        rw [HR.out, ← HBK.out, HN.out]
       | false =>
        have HN := Lib.hid (fitsUp_succ HU.out HK.out HE.out)
        go_wp2
        go_roundg (ls.length - (i + 1))
        case measure => have := HG.out; omega
        case rel => exact ⟨i + 1, by omega, rfl, by go_num, HN.out, hbel.trans (hbel2.mono hbel.size)⟩
    ·obtain rfl : i = ls.length := by omega
     have HN := Lib.hid (fits_f HU.out)
     go_wp2
     go_ret
     refine ⟨ret_bool ?_, hb0.trans (hbel.mono hs0)⟩
     rw [HR.out, ← HBK.out, HN.out]
  | false =>
   have HR := Lib.hid (right_third (n := num.data.toList) h1 h2)
   rw [h2] at hM
   clear h1 h2 hF
   go_enter Try.func42, Try.ntmps42
   go_wp2_with (first
    | (go_at_call 41; refine (hC _).mono ?_; rintro e w1 ⟨rfl, rfl⟩)
    | (go_at_call 59; refine (hM _).mono ?_; rintro e w2 ⟨rfl, hb2⟩))
   go_loopg [5] num.size (fun g x5 wr => w2 = wr ∧ ∃ i : Nat, i ≤ num.size ∧ g = num.size - i ∧ x5 = .int .i64 (i : Int) ∧ (num.data.toList.take i).all (fun b => letB b || digB b) = true)
   case atStart => exact ⟨rfl, 0, Nat.zero_le _, rfl, rfl, rfl⟩
   case round =>
    obtain ⟨rfl, i, hi, hg, rfl, hall⟩ := hrel
    have HG := Lib.hid hg
    have HA := Lib.hid hall
    clear hg hall
    by_cases hlt : i < num.size
    ·have b1 := Lib.hid (byte_at num i hlt)
     have hi1 : (i : Int) < (num.size : Int) := by omega
     have hL := fun w => rletter_any num[i] w
     have hD := fun w => rdigit_any num[i] w
     have HT := Lib.hid (fun h : (letB num[i] || digB num[i]) = true => all_take_succ (fun b => letB b || digB b) _ i (by rw [EN.out]; exact hlt) HA.out (by rw [b1.out]; exact h))
     have HN := Lib.hid (fun h : (letB num[i] || digB num[i]) = false => all_take_no (fun b => letB b || digB b) _ i (by rw [EN.out]; exact hlt) (by rw [b1.out]; exact h))
     clear b1
     generalize letB num[i] = vl at *
     generalize digB num[i] = vd at *
     cases vl <;> cases vd
     ·replace HN := Lib.hid (HN.out rfl)
      go_wp2_with (first
       | (go_at_call 79; refine (hL _).mono ?_; rintro e w' ⟨rfl, rfl⟩)
       | (go_at_call 80; refine (hD _).mono ?_; rintro e w' ⟨rfl, rfl⟩))
      go_ret
      refine ⟨ret_bool ?_, hb2⟩
      rw [HR.out, HN.out, Bool.and_false]
     all_goals
      replace HT := Lib.hid (HT.out rfl)
      go_wp2_with (first
       | (go_at_call 79; refine (hL _).mono ?_; rintro e w' ⟨rfl, rfl⟩)
       | (go_at_call 80; refine (hD _).mono ?_; rintro e w' ⟨rfl, rfl⟩))
      go_roundg (num.size - (i + 1))
      case measure => have := HG.out; omega
      case rel => exact ⟨rfl, i + 1, by omega, rfl, by go_num, HT.out⟩
    ·obtain rfl : i = num.size := by omega
     have HN : Hid (num.data.toList.all (fun b => letB b || digB b) = true) := Lib.hid (by
      have := HA.out
      rwa [List.take_of_length_le (by rw [EN.out]; exact Nat.le_refl _)] at this)
     by_cases z1 : 1 ≤ num.size
     ·by_cases z2 : num.size ≤ 20
      ·have y1 : (1 : Int) ≤ (num.size : Int) := by omega
       have y2 : (num.size : Int) ≤ 20 := by omega
       go_wp2
       go_ret
       refine ⟨ret_bool ?_, hb2⟩
       rw [HR.out, HN.out, decide_eq_true (by rw [EN.out]; exact z1), decide_eq_true (by rw [EN.out]; exact z2)]; rfl
      ·have y1 : (1 : Int) ≤ (num.size : Int) := by omega
       have y2 : decide ((num.size : Int) ≤ 20) = false := decide_eq_false (by omega)
       go_wp2
       go_ret
       refine ⟨ret_bool ?_, hb2⟩
       rw [HR.out, HN.out, decide_eq_false (p := num.data.toList.length ≤ 20) (by rw [EN.out]; exact z2), Bool.and_false, Bool.false_and]
     ·have y1 : decide ((1 : Int) ≤ (num.size : Int)) = false := decide_eq_false (by omega)
      go_wp2
      go_ret
      refine ⟨ret_bool ?_, hb2⟩
      rw [HR.out, HN.out, decide_eq_false (p := 1 ≤ num.data.toList.length) (by rw [EN.out]; exact z1), Bool.false_and, Bool.false_and]
end Go.Proofs.Ytnfpmobmfcgfnaa

