/- THE WALKS OF vatid.Right AND octroiref07.Right. -/
import Derived.Test.YtnfpmobmfcgfnaaVaF
namespace Go.Proofs.Ytnfpmobmfcgfnaa
open Go.RowKit
theorem formsT_len (c : List UInt8) : (formsT c).length ≤ 10 := by
  have h : tab.all (fun p => decide (p.2.length ≤ 10)) = true := by decide +kernel
  unfold formsT
  cases hl : tab.lookup c with
  | none => simp
  | some l =>
    have : ∀ (t : List (List UInt8 × List (List UInt8))), t.all (fun p => decide (p.2.length ≤ 10)) = true → t.lookup c = some l → l.length ≤ 10 := by
      intro t
      induction t with
      | nil => intro _ h; cases h
      | cons p t ih =>
        intro h1 h2
        rw [List.all_cons, Bool.and_eq_true, decide_eq_true_eq] at h1
        rw [List.lookup_cons] at h2
        split at h2
        · cases h2; exact h1.1
        · exact ih h1.2 h2
    exact this tab h hl
theorem map_back (l : List (List UInt8)) : (l.map bsA).map (fun x => x.data.toList) = l := by
  rw [List.map_map, show ((fun x : ByteArray => x.data.toList) ∘ bsA) = id from funext fun x => bsA_list x, List.map_id]
theorem map_back2 (l : List (List UInt8)) : l.map ((fun x : ByteArray => x.data.toList) ∘ bsA) = l := by
  rw [show ((fun x : ByteArray => x.data.toList) ∘ bsA) = id from funext fun x => bsA_list x, List.map_id]
theorem right_noc {c n : List UInt8} (h : countryL c = false) : rightL c n = false := by unfold rightL; rw [h, Bool.false_and]
theorem right_mem {c n : List UInt8} (h : countryL c = true) (hm : memB c = true) : rightL c n = fitsL (formsT c) n := by unfold rightL; rw [h, Bool.true_and, if_pos hm]
theorem right_third {c n : List UInt8} (h : countryL c = true) (hm : memB c = false) : rightL c n = (decide (1 ≤ n.length) && decide (n.length ≤ 20) && n.all fun b => letB b || digB b) := by
  unfold rightL; rw [h, Bool.true_and, if_neg (by rw [hm]; simp)]
theorem all_take_succ (p : UInt8 → Bool) (l : List UInt8) (k : Nat) (h : k < l.length) (ha : (l.take k).all p = true) (hp : p (l.getD k 0) = true) : (l.take (k + 1)).all p = true := by
  rw [List.take_succ_eq_append_getElem h, List.all_append, ha]
  rw [List.getD_eq_getElem?_getD, List.getElem?_eq_getElem h] at hp
  simpa using hp
theorem all_take_no (p : UInt8 → Bool) (l : List UInt8) (k : Nat) (h : k < l.length) (hp : p (l.getD k 0) = false) : l.all p = false := by
  rw [List.all_eq_false]
  rw [List.getD_eq_getElem?_getD, List.getElem?_eq_getElem h] at hp
  exact ⟨l[k], List.getElem_mem h, by simpa using hp⟩
def RightPost (c num : ByteArray) (w : World) (e : Ending) (w' : World) : Prop := e = .returned (.bool (rightL c.data.toList num.data.toList)) ∧ Below w.heap.size w w'
set_option maxHeartbeats 4000000 in
theorem right_any (c num : ByteArray) (hc : c.size ≤ 9223372036854775807) (hnum : num.size ≤ 9223372036854775807) (w : World) : Calls Try.prog 53 #[.string c, .string num] w (RightPost c num w) := by
  have hC := fun w => country_any c w
  have hM := fun w => member_any c w
  have hF := fun w => formsF_any c (by unfold maxLen; omega) w
  have hfl := formsT_len c.data.toList
  have en : num.data.toList.length = num.size := Array.length_toList
  have EN := Lib.hid en
  clear en
  cases h1 : countryL c.data.toList with
  | false =>
    have HR := Lib.hid (right_noc (n := num.data.toList) h1)
    rw [h1] at hC
    clear h1 hM hF
    go_enter Try.func53, Try.ntmps53
    go_wp2_with (go_at_call 60; refine (hC _).mono ?_; rintro e w1 ⟨rfl, rfl⟩)
    go_ret
    exact ⟨ret_bool HR.out.symm, Below.refl _ _⟩
  | true =>
    rw [h1] at hC
    cases h2 : memB c.data.toList with
    | true =>
      have HR := Lib.hid (right_mem (n := num.data.toList) h1 h2)
      rw [h2] at hM
      clear h1 h2
      go_enter Try.func53, Try.ntmps53
      go_wp2_with (first
        | (go_at_call 60; refine (hC _).mono ?_; rintro e w1 ⟨rfl, rfl⟩)
        | (go_at_call 49; refine (hM _).mono ?_; rintro e w2 ⟨rfl, hb2⟩)
        | (go_at_call 86; refine (hF _).mono ?_; rintro e w3 ⟨v3, rfl, hs3, hb3⟩)
        | (go_at_call 85; refine (fits_any _ _ num _ _ hs3 (by simp; omega) hnum).mono ?_; rintro e w4 ⟨rfl, hb4⟩))
      go_ret
      refine ⟨ret_bool ?_, (hb2.trans (hb3.mono hb2.size)).trans (hb4.mono (Nat.le_trans hb2.size hb3.size))⟩
      rw [HR.out, map_back2]
    | false =>
      have HR := Lib.hid (right_third (n := num.data.toList) h1 h2)
      rw [h2] at hM
      clear h1 h2 hF
      by_cases hz : 1 ≤ num.size ∧ num.size ≤ 20
      · obtain ⟨z1, z2⟩ := hz
        have y1 : decide ((num.size : Int) < 1) = false := decide_eq_false (by omega)
        have y2 : decide ((20 : Int) < (num.size : Int)) = false := decide_eq_false (by omega)
        go_enter Try.func53, Try.ntmps53
        go_wp2_with (first
          | (go_at_call 60; refine (hC _).mono ?_; rintro e w1 ⟨rfl, rfl⟩)
          | (go_at_call 49; refine (hM _).mono ?_; rintro e w2 ⟨rfl, hb2⟩))
        go_loopg [5, 28] num.size (fun g x5 x28 wr => ∃ i : Nat, i ≤ num.size ∧ g = num.size - i ∧ x28 = .int .i64 (i : Int) ∧ (num.data.toList.take i).all (fun b => letB b || digB b) = true ∧ Below w.heap.size w wr)
        case atStart => exact ⟨0, Nat.zero_le _, rfl, rfl, rfl, hb2⟩
        case round =>
          obtain ⟨i, hi, hg, rfl, hall, hbel⟩ := hrel
          have HG := Lib.hid hg
          have HA := Lib.hid hall
          clear hg hall
          by_cases hlt : i < num.size
          · have b1 := Lib.hid (byte_at num i hlt)
            have hi1 : (i : Int) < (num.size : Int) := by omega
            generalize hq : (letB num[i] || digB num[i]) = q
            have HQ := Lib.hid hq
            clear hq
            cases q with
            | false =>
              have HN := Lib.hid (all_take_no (fun b => letB b || digB b) _ i (by rw [EN.out]; exact hlt) (by rw [b1.out]; exact HQ.out))
              go_wp2_with (go_at_call 87; refine (stands_any 88 _ _).mono ?_; rintro e w8 ⟨rfl, hb8⟩; rw [show fitB 88 num[i] = _ from HQ.out])
              go_ret
              refine ⟨ret_bool ?_, hbel.trans (hb8.mono hbel.size)⟩
              rw [HR.out, HN.out, Bool.and_false]
            | true =>
              have HN := Lib.hid (all_take_succ (fun b => letB b || digB b) _ i (by rw [EN.out]; exact hlt) HA.out (by rw [b1.out]; exact HQ.out))
              go_wp2_with (go_at_call 87; refine (stands_any 88 _ _).mono ?_; rintro e w8 ⟨rfl, hb8⟩; rw [show fitB 88 num[i] = _ from HQ.out])
              go_roundg (num.size - (i + 1))
              case measure => have := HG.out; omega
              case rel => exact ⟨i + 1, by omega, rfl, by go_num, HN.out, hbel.trans (hb8.mono hbel.size)⟩
          · obtain rfl : i = num.size := by omega
            have HN : Hid (num.data.toList.all (fun b => letB b || digB b) = true) := Lib.hid (by
              have := HA.out
              rwa [List.take_of_length_le (by rw [EN.out]; exact Nat.le_refl _)] at this)
            go_wp2
            go_ret
            refine ⟨ret_bool ?_, hbel⟩
            rw [HR.out, HN.out, decide_eq_true (by rw [EN.out]; exact z1), decide_eq_true (by rw [EN.out]; exact z2)]; rfl
      · have HN : Hid ((decide (1 ≤ num.data.toList.length) && decide (num.data.toList.length ≤ 20)) = false) := Lib.hid (by
          rw [EN.out, Bool.and_eq_false_iff, decide_eq_false_iff_not, decide_eq_false_iff_not]; omega)
        by_cases z1 : num.size < 1
        · have y1 : (num.size : Int) < 1 := by omega
          go_enter Try.func53, Try.ntmps53
          go_wp2_with (first
            | (go_at_call 60; refine (hC _).mono ?_; rintro e w1 ⟨rfl, rfl⟩)
            | (go_at_call 49; refine (hM _).mono ?_; rintro e w2 ⟨rfl, hb2⟩))
          go_ret
          refine ⟨ret_bool ?_, hb2⟩
          rw [HR.out, HN.out]; rfl
        · have y1 : decide ((num.size : Int) < 1) = false := decide_eq_false (by omega)
          have y2 : (20 : Int) < (num.size : Int) := by omega
          go_enter Try.func53, Try.ntmps53
          go_wp2_with (first
            | (go_at_call 60; refine (hC _).mono ?_; rintro e w1 ⟨rfl, rfl⟩)
            | (go_at_call 49; refine (hM _).mono ?_; rintro e w2 ⟨rfl, hb2⟩))
          go_ret
          refine ⟨ret_bool ?_, hb2⟩
          rw [HR.out, HN.out]; rfl
end Go.Proofs.Ytnfpmobmfcgfnaa
