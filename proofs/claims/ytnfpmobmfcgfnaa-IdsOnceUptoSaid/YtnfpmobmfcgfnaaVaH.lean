/- THE WALK OF octroiref07.Forms. -/
import Derived.Test.YtnfpmobmfcgfnaaVaG
namespace Go.Proofs.Ytnfpmobmfcgfnaa
open Go.RowKit
theorem frm_len (c : List UInt8) : ∀ k, (frmUp c k).2.2.length ≤ k := by
  intro k
  induction k with
  | zero => exact Nat.le_refl _
  | succ k ih =>
    show (frmStep c (lst.getD k 0) (frmUp c k)).2.2.length ≤ k + 1
    unfold frmStep
    split
    · exact Nat.le_succ_of_le ih
    · simp only
      split
      · exact Nat.le_succ_of_le ih
      · split
        · rw [List.length_append]; simp; exact ih
        · exact Nat.le_succ_of_le ih
theorem frm_wd (c : List UInt8) : ∀ k, (frmUp c k).2.1.length ≤ k := by
  intro k
  induction k with
  | zero => exact Nat.le_refl _
  | succ k ih =>
    show (frmStep c (lst.getD k 0) (frmUp c k)).2.1.length ≤ k + 1
    unfold frmStep
    split
    · rw [List.length_append]; simp; exact ih
    · simp
theorem bsA_size (l : List UInt8) : (bsA l).size = l.length := by simp [bsA, ByteArray.size]
theorem frm_other {c : List UInt8} {b : UInt8} {st w : List UInt8} {out : List (List UInt8)} (h1 : b ≠ 32) (h2 : b ≠ 59) : frmStep c b (st, w, out) = (st, w ++ [b], out) := by
  unfold frmStep; rw [if_pos ⟨h1, h2⟩]
theorem frm_32a {c w : List UInt8} {out : List (List UInt8)} : frmStep c 32 ([], w, out) = (w, [], out) := rfl
theorem frm_59a {c w : List UInt8} {out : List (List UInt8)} : frmStep c 59 ([], w, out) = ([], [], out) := rfl
theorem frm_32b {c st w : List UInt8} {out : List (List UInt8)} (h0 : st ≠ []) (hc : st = c) : frmStep c 32 (st, w, out) = (st, [], out ++ [w]) := by
  subst hc; unfold frmStep; rw [if_neg (by simp)]; simp [h0]
theorem frm_59b {c st w : List UInt8} {out : List (List UInt8)} (h0 : st ≠ []) (hc : st = c) : frmStep c 59 (st, w, out) = ([], [], out ++ [w]) := by
  subst hc; unfold frmStep; rw [if_neg (by simp)]; simp [h0]
theorem frm_32c {c st w : List UInt8} {out : List (List UInt8)} (h0 : st ≠ []) (hc : st ≠ c) : frmStep c 32 (st, w, out) = (st, [], out) := by
  unfold frmStep; rw [if_neg (by simp)]; simp [h0, hc]
theorem frm_59c {c st w : List UInt8} {out : List (List UInt8)} (h0 : st ≠ []) (hc : st ≠ c) : frmStep c 59 (st, w, out) = ([], [], out) := by
  unfold frmStep; rw [if_neg (by simp)]; simp [h0, hc]
theorem bsA_append (a b : List UInt8) : bsA a ++ bsA b = bsA (a ++ b) := by
  rw [bsA_inj, ByteArray.data_append]; simp [bsA]
theorem frm_done (c : List UInt8) (h : memB c = true) : (frmUp c 479).2.2 = formsT c := frmUp_all c (by unfold memB at h; simpa using h)
set_option maxRecDepth 100000 in
set_option maxHeartbeats 4000000 in
theorem rforms_any (c : ByteArray) (w : World) : Calls Try.prog 81 #[.string c] w (NewSl (formsT c.data.toList) w) := by
  have hM := fun w => rmember_any c w
  cases h1 : memB c.data.toList with
  | false =>
    have HF := Lib.hid (formsT_none h1)
    rw [h1] at hM
    clear h1
    go_enter Try.func81, Try.ntmps81
    go_wp2_with (go_at_call 59; refine (hM _).mono ?_; rintro e w1 ⟨rfl, hb1⟩)
    go_ret
    exact ⟨_, rfl, by rw [HF.out]; exact Sl.nil_ _ _ _, hb1⟩
  | true =>
    have HD := Lib.hid (frm_done _ h1)
    rw [h1] at hM
    clear h1
    go_enter Try.func81, Try.ntmps81
    obtain ⟨C, hC⟩ : ∃ C : ByteArray, C = litC := ⟨_, rfl⟩
    have hC2 := hC
    unfold litC at hC2
    rw [← hC2]
    clear hC2
    have hCs : C.size = 479 := by rw [hC]; exact litC_size
    have HA : ∀ (k : Nat) (h : k < C.size), C[k] = lst.getD k 0 := by subst hC; exact litC_at
    have HX : ∀ (k : Nat) (h : k < C.size), C.extract k (k + 1) = bsA [C[k]] := fun k h => by
      rw [extract_bs, Nat.add_sub_cancel_left]
      congr 1
      have e : C.data.toList.length = C.size := Array.length_toList
      have hk : k < C.data.toList.length := by omega
      rw [List.drop_eq_getElem_cons hk, List.take_succ_cons, List.take_zero]
      rfl
    clear hC
    replace HA := Lib.hid HA
    replace HX := Lib.hid HX
    have hC479 : 479 ≤ C.size := by omega
    have hC480 : C.size ≤ 479 := by omega
    clear hCs
    go_wp2_with (go_at_call 59; refine (hM _).mono ?_; rintro e w1 ⟨rfl, hb1⟩)
    have hsz := hb1.size
    go_loopg [3, 4, 5, 6] 479 (fun g x3 x4 x5 x6 wr => ∃ (k : Nat) (st wd : List UInt8) (out : List (List UInt8)), k ≤ 479 ∧ g = 479 - k ∧ x6 = .int .i64 (k : Int) ∧ frmUp c.data.toList k = (st, wd, out) ∧ x4 = .string (bsA st) ∧ x5 = .string (bsA wd) ∧ Ow strK wr w1.heap.size x3 (out.map bsA) ∧ Below w1.heap.size w1 wr)
    case atStart => exact ⟨0, [], [], [], by omega, rfl, rfl, rfl, rfl, rfl, Ow.nil_ _ _ _, Below.refl _ _⟩
    case round =>
      obtain ⟨k, st, wd, out, hk, hg, rfl, hup, rfl, rfl, hown, hbel⟩ := hrel
      have HG := Lib.hid hg
      have hlen := frm_len c.data.toList k
      have hwd := frm_wd c.data.toList k
      rw [hup] at hlen hwd
      simp only at hlen hwd
      rw [← bsA_size] at hwd
      have HU := Lib.hid hup
      clear hg hup
      by_cases h : k < 479
      · have hkC : k < C.size := by omega
        have HM : Hid (frmUp c.data.toList (k + 1) = frmStep c.data.toList C[k] (st, wd, out)) := Lib.hid (by rw [HA.out k hkC, ← HU.out]; rfl)
        have hX := HX.out k hkC
        have hbase := hbel.size
        have HXk := Lib.hid hX
        clear hX
        by_cases b1 : C[k] = 32
        · have v : (C[k].toNat : Int) = 32 := by rw [b1]; rfl
          rw [b1] at HM HXk
          clear b1
          by_cases q0 : st = []
          · have s0 : (bsA st).toList = [] := by rw [ByteArray.toList_eq, bsA_list]; exact q0
            have s0' : (bsA st).toList.isEmpty = true := by rw [s0]; rfl
            subst q0
            replace HM := Lib.hid (HM.out.trans frm_32a)
            go_wp2
            go_roundg (479 - (k + 1))
            case measure => have := HG.out; omega
            case rel => exact ⟨k + 1, _, _, _, by omega, rfl, by go_num, HM.out, rfl, rfl, hown, hbel⟩
          · by_cases q1 : st = c.data.toList
            · have s0' : (bsA st).toList.isEmpty = false := by rw [ByteArray.toList_eq, bsA_list]; simpa using q0
              have s1 : ((bsA st).toList == c.toList) = true := by rw [str_eq, decide_eq_true_eq, eq_comm, bsA_inj]; exact q1.symm
              replace HM := Lib.hid (HM.out.trans (frm_32b q0 q1))
              clear q0 q1
              go_wp2_with (first
                | (at_builtin; go_must (refine wpList_append_sl strK _ rfl (.tmp 34) (.tmp 36) 39 rfl Try.underlying39 w1.heap.size u3 (out.map bsA) rfl (hown.alloc _) _ _ [bsA wd] rfl (sl_one strK _ _) (by simp; omega) (by decide) (by simp; omega) ?_)
                   intro v5 w5 hown5 hg5 _))
              go_roundg (479 - (k + 1))
              case measure => have := HG.out; omega
              case rel => exact ⟨k + 1, _, _, _, by omega, rfl, by go_num, HM.out, rfl, rfl, by rw [List.map_append]; exact hown5, (hbel.alloc hbel.size _).grown hg5 (by simp; omega) (fun b hb => ((hown.alloc (.cells #[Value.string (bsA wd)] 9)).lt b hb).1)⟩
            · have s0' : (bsA st).toList.isEmpty = false := by rw [ByteArray.toList_eq, bsA_list]; simpa using q0
              have s1 : ((bsA st).toList == c.toList) = false := by rw [str_eq, decide_eq_false_iff_not, eq_comm, bsA_inj]; exact fun e => q1 e.symm
              replace HM := Lib.hid (HM.out.trans (frm_32c q0 q1))
              clear q0 q1
              go_wp2
              go_roundg (479 - (k + 1))
              case measure => have := HG.out; omega
              case rel => exact ⟨k + 1, _, _, _, by omega, rfl, by go_num, HM.out, rfl, rfl, hown, hbel⟩
        · have n1 : ((C[k].toNat : Int) == 32) = false := toNat_ne (k := 32) (by decide) b1
          have n1' : ((C[k].toNat : Int) != 32) = true := by simp only [bne, n1]; rfl
          by_cases b2 : C[k] = 59
          · have v : (C[k].toNat : Int) = 59 := by rw [b2]; rfl
            rw [b2] at HM HXk
            clear b1 b2 n1 n1'
            by_cases q0 : st = []
            · have s0 : (bsA st).toList = [] := by rw [ByteArray.toList_eq, bsA_list]; exact q0
              have s0' : (bsA st).toList.isEmpty = true := by rw [s0]; rfl
              subst q0
              replace HM := Lib.hid (HM.out.trans frm_59a)
              go_wp2
              go_roundg (479 - (k + 1))
              case measure => have := HG.out; omega
              case rel => exact ⟨k + 1, _, _, _, by omega, rfl, by go_num, HM.out, rfl, rfl, hown, hbel⟩
            · by_cases q1 : st = c.data.toList
              · have s0' : (bsA st).toList.isEmpty = false := by rw [ByteArray.toList_eq, bsA_list]; simpa using q0
                have s1 : ((bsA st).toList == c.toList) = true := by rw [str_eq, decide_eq_true_eq, eq_comm, bsA_inj]; exact q1.symm
                replace HM := Lib.hid (HM.out.trans (frm_59b q0 q1))
                clear q0 q1
                go_wp2_with (first
                  | (at_builtin; go_must (refine wpList_append_sl strK _ rfl (.tmp 34) (.tmp 36) 39 rfl Try.underlying39 w1.heap.size u3 (out.map bsA) rfl (hown.alloc _) _ _ [bsA wd] rfl (sl_one strK _ _) (by simp; omega) (by decide) (by simp; omega) ?_)
                     intro v5 w5 hown5 hg5 _))
                go_roundg (479 - (k + 1))
                case measure => have := HG.out; omega
                case rel => exact ⟨k + 1, _, _, _, by omega, rfl, by go_num, HM.out, rfl, rfl, by rw [List.map_append]; exact hown5, (hbel.alloc hbel.size _).grown hg5 (by simp; omega) (fun b hb => ((hown.alloc (.cells #[Value.string (bsA wd)] 9)).lt b hb).1)⟩
              · have s0' : (bsA st).toList.isEmpty = false := by rw [ByteArray.toList_eq, bsA_list]; simpa using q0
                have s1 : ((bsA st).toList == c.toList) = false := by rw [str_eq, decide_eq_false_iff_not, eq_comm, bsA_inj]; exact fun e => q1 e.symm
                replace HM := Lib.hid (HM.out.trans (frm_59c q0 q1))
                clear q0 q1
                go_wp2
                go_roundg (479 - (k + 1))
                case measure => have := HG.out; omega
                case rel => exact ⟨k + 1, _, _, _, by omega, rfl, by go_num, HM.out, rfl, rfl, hown, hbel⟩
          · have n2 : ((C[k].toNat : Int) == 59) = false := toNat_ne (k := 59) (by decide) b2
            have n2' : ((C[k].toNat : Int) != 59) = true := by simp only [bne, n2]; rfl
            replace HM := Lib.hid (HM.out.trans (frm_other b1 b2))
            clear b1 b2
            go_wp2
            go_roundg (479 - (k + 1))
            case measure => have := HG.out; omega
            case rel => exact ⟨k + 1, _, _, _, by omega, rfl, by go_num, HM.out, rfl, by rw [← bsA_append, ← HXk.out], hown, hbel⟩
      · obtain rfl : k = 479 := by omega
        have HO : Hid (out = formsT c.data.toList) := Lib.hid (by rw [← HD.out, HU.out])
        go_wp2
        go_ret
        exact ⟨_, rfl, by rw [← HO.out]; exact hown.sl, hb1.trans (hbel.mono hsz)⟩
end Go.Proofs.Ytnfpmobmfcgfnaa
