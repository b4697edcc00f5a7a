/- THE WALKS OF octroiref07's LIST: Members, Member, Forms, Same. -/
import Derived.Test.YtnfpmobmfcgfnaaVaB
import Derived.Lib.Strings
namespace Go.Proofs.Ytnfpmobmfcgfnaa
open Go.RowKit
def litC : ByteArray := { data := ((([65, 84, 32, 85, 57, 57, 57, 57, 57, 57, 57, 57, 59, 66, 69, 32, 48, 57, 57, 57, 57, 57, 57, 57, 57, 57, 32, 49, 57, 57, 57, 57, 57, 57, 57, 57, 57, 59, 66, 71, 32, 57, 57, 57, 57, 57, 57, 57, 57, 57, 32, 57, 57, 57, 57, 57, 57, 57, 57].append [57, 57, 59, 67, 89, 32, 57, 57, 57, 57, 57, 57, 57, 57, 65, 59, 67, 90, 32, 57, 57, 57, 57, 57, 57, 57, 57, 32, 57, 57, 57, 57, 57, 57, 57, 57, 57, 32, 57, 57, 57, 57, 57, 57, 57, 57, 57, 57, 59, 68, 69, 32, 57, 57, 57, 57, 57, 57, 57, 57]).append ([57, 59, 68, 75, 32, 57, 57, 57, 57, 57, 57, 57, 57, 59, 69, 69, 32, 57, 57, 57, 57, 57, 57, 57, 57, 57, 59, 69, 76, 32, 57, 57, 57, 57, 57, 57, 57, 57, 57, 59, 69, 83, 32, 88, 57, 57, 57, 57, 57, 57, 57, 88, 59, 70, 73, 32, 57, 57, 57, 57].append [57, 57, 57, 57, 59, 70, 82, 32, 88, 88, 57, 57, 57, 57, 57, 57, 57, 57, 57, 59, 72, 82, 32, 57, 57, 57, 57, 57, 57, 57, 57, 57, 57, 57, 59, 72, 85, 32, 57, 57, 57, 57, 57, 57, 57, 57, 59, 73, 69, 32, 57, 43, 57, 57, 57, 57, 57, 65, 32, 57])).append (([57, 57, 57, 57, 57, 57, 65, 65, 59, 73, 84, 32, 57, 57, 57, 57, 57, 57, 57, 57, 57, 57, 57, 59, 76, 84, 32, 57, 57, 57, 57, 57, 57, 57, 57, 57, 32, 57, 57, 57, 57, 57, 57, 57, 57, 57, 57, 57, 57, 59, 76, 85, 32, 57, 57, 57, 57, 57, 57, 57].append [57, 59, 76, 86, 32, 57, 57, 57, 57, 57, 57, 57, 57, 57, 57, 57, 59, 77, 84, 32, 57, 57, 57, 57, 57, 57, 57, 57, 59, 78, 76, 32, 57, 57, 57, 57, 57, 57, 57, 57, 57, 66, 57, 57, 59, 80, 76, 32, 57, 57, 57, 57, 57, 57, 57, 57, 57, 57, 59, 80]).append ([84, 32, 57, 57, 57, 57, 57, 57, 57, 57, 57, 59, 82, 79, 32, 57, 57, 32, 57, 57, 57, 32, 57, 57, 57, 57, 32, 57, 57, 57, 57, 57, 32, 57, 57, 57, 57, 57, 57, 32, 57, 57, 57, 57, 57, 57, 57, 32, 57, 57, 57, 57, 57, 57, 57, 57, 32, 57, 57, 57].append [57, 57, 57, 57, 57, 57, 32, 57, 57, 57, 57, 57, 57, 57, 57, 57, 57, 59, 83, 69, 32, 57, 57, 57, 57, 57, 57, 57, 57, 57, 57, 57, 57, 59, 83, 73, 32, 57, 57, 57, 57, 57, 57, 57, 57, 59, 83, 75, 32, 57, 57, 57, 57, 57, 57, 57, 57, 57, 57, 59]))).toArray }
theorem litC_list : litC.data.toList = lst := by decide +kernel
theorem litC_size : litC.size = 479 := by decide +kernel
theorem litC_at (k : Nat) (h : k < litC.size) : litC[k] = lst.getD k 0 := by rw [← byte_at litC k h, litC_list]
theorem eq59 (b : UInt8) : ((b.toNat : Int) == 59) = (b == 59) := by
  rw [Bool.eq_iff_iff, beq_iff_eq, beq_iff_eq, ← UInt8.toNat_inj]
  show (b.toNat : Int) = 59 ↔ b.toNat = 59
  omega
theorem memUp_room : ∀ i, i < 479 → (memUp i).2 = true → i + 2 ≤ 479 := by
  have h : (List.range 479).all (fun i => !(memUp i).2 || decide (i + 2 ≤ 479)) = true := by decide +kernel
  intro i hi hm
  have := List.all_eq_true.1 h i (List.mem_range.2 hi)
  rw [hm] at this
  simpa using this
theorem extract_bs (s : ByteArray) (a b : Nat) : s.extract a b = bsA ((s.data.toList.drop a).take (b - a)) := by
  rw [bsA_inj, ← ByteArray.toList_eq]; exact Lib.extract_toList s a b
set_option maxRecDepth 100000 in
set_option maxHeartbeats 2000000 in
theorem rmembers_any (w : World) : Calls Try.prog 91 #[] w (NewStrs mems w) := by
  go_enter Try.func91, Try.ntmps91
  obtain ⟨C, hC⟩ : ∃ C : ByteArray, C = litC := ⟨_, rfl⟩
  have hC2 := hC
  unfold litC at hC2
  rw [← hC2]
  clear hC2
  have hCs : C.size = 479 := by rw [hC]; exact litC_size
  have HA : ∀ (k : Nat) (h : k < C.size), C[k] = lst.getD k 0 := by subst hC; exact litC_at
  have HX : ∀ k, C.extract k (k + 2) = bsA ((lst.drop k).take 2) := fun k => by rw [extract_bs, hC, litC_list, Nat.add_sub_cancel_left]
  clear hC
  replace HA := Lib.hid HA
  replace HX := Lib.hid HX
  have hC479 : 479 ≤ C.size := by omega
  have hC480 : C.size ≤ 479 := by omega
  clear hCs
  go_wp2
  go_loopg [1, 2, 3] 479 (fun g x1 x2 x3 wr => ∃ k : Nat, k ≤ 479 ∧ g = 479 - k ∧ x3 = .int .i64 (k : Int) ∧ x2 = .bool (memUp k).2 ∧ Ow strK wr w.heap.size x1 ((memUp k).1.map bsA) ∧ Below w.heap.size w wr)
  case atStart => exact ⟨0, by omega, rfl, rfl, rfl, Ow.nil_ _ _ _, Below.refl _ _⟩
  case round =>
    obtain ⟨k, hk, hg, rfl, rfl, hown, hbel⟩ := hrel
    have HG := Lib.hid hg
    clear hg
    by_cases h : k < 479
    · have hkC : k < C.size := by omega
      have hroom := memUp_room k h
      have hlen := memUp_len k h
      have HM := Lib.hid (show memUp (k + 1) = memStep k (memUp k) from rfl)
      have HC := Lib.hid (HA.out k hkC)
      have HXk := Lib.hid (HX.out k)
      have hbase := hbel.size
      generalize memUp k = st at *
      obtain ⟨out, b⟩ := st
      simp only at hroom hlen hown HM ⊢
      cases b with
      | true =>
        have hk2 := hroom rfl
        clear hroom
        go_wp2_with (first
          | (at_builtin; go_must (refine wpList_append_sl strK _ rfl (.tmp 9) (.tmp 14) 39 rfl Try.underlying39 w.heap.size u1 (out.map bsA) rfl (hown.alloc _) _ _ [C.extract k (k + 2)] rfl (sl_one strK _ _) (by simp; omega) (by decide) (by simp; omega) ?_)
             intro v5 w5 hown5 hg5 _))
        go_roundg (479 - (k + 1))
        case measure => have := HG.out; omega
        case rel =>
          refine ⟨k + 1, by omega, rfl, by go_num, ?_, ?_, ?_⟩
          · rw [HM.out]; show Value.bool _ = Value.bool (lst.getD k 0 == 59); rw [← HC.out, eq59]
          · rw [HM.out]; show Ow strK w5 w.heap.size v5 ((out ++ [(lst.drop k).take 2]).map bsA); rw [List.map_append, List.map_cons, List.map_nil, ← HXk.out]; exact hown5
          · exact (hbel.alloc hbel.size _).grown hg5 (by simp; omega) (fun b hb => ((hown.alloc (.cells #[Value.string (C.extract k (k + 2))] 9)).lt b hb).1)
      | false =>
        go_wp2
        go_roundg (479 - (k + 1))
        case measure => have := HG.out; omega
        case rel =>
          refine ⟨k + 1, by omega, rfl, by go_num, ?_, ?_, hbel⟩
          · rw [HM.out]; show Value.bool _ = Value.bool (lst.getD k 0 == 59); rw [← HC.out, eq59]
          · rw [HM.out]; exact hown
    · obtain rfl : k = 479 := by omega
      go_wp2
      go_ret
      exact ⟨_, rfl, by rw [memUp_all] at hown; exact hown, hbel⟩
end Go.Proofs.Ytnfpmobmfcgfnaa
