/- THE WALK OF octroiref07.Right. -/
import Derived.Test.YtnfpmobmfcgfnaaVaH
namespace Go.Proofs.Ytnfpmobmfcgfnaa
open Go.RowKit
def okRel (s num : ByteArray) (k : Nat) (ok : Bool) : Prop :=
  (ok = true → s.size = num.size ∧ allFit (s.data.toList.take k) (num.data.toList.take k) = true) ∧ (ok = false → allFit s.data.toList num.data.toList = false)
theorem okRel_start (s num : ByteArray) : okRel s num 0 (decide (s.size = num.size)) := by
  have es : s.data.toList.length = s.size := Array.length_toList
  have en : num.data.toList.length = num.size := Array.length_toList
  refine ⟨fun h => ⟨of_decide_eq_true h, rfl⟩, fun h => allFit_len _ _ ?_⟩
  rw [es, en]; exact of_decide_eq_false h
theorem okRel_succ {s num : ByteArray} {k : Nat} (h : okRel s num k true) (h1 : k < s.size) (h2 : k < num.size) : okRel s num (k + 1) (fitB s[k] num[k]) := by
  have es : s.data.toList.length = s.size := Array.length_toList
  have en : num.data.toList.length = num.size := Array.length_toList
  obtain ⟨ha, hb⟩ := h.1 rfl
  refine ⟨fun hf => ⟨ha, allFit_snoc _ _ k (by omega) (by omega) hb (by rw [byte_at s k h1, byte_at num k h2]; exact hf)⟩, fun hf => allFit_take _ _ k (by omega) (by omega) hb (by rw [byte_at s k h1, byte_at num k h2]; exact hf)⟩
theorem okRel_end {s num : ByteArray} {k : Nat} {ok : Bool} (h : okRel s num k ok) (hk : ok = true → num.size ≤ k) : allFit s.data.toList num.data.toList = ok := by
  have es : s.data.toList.length = s.size := Array.length_toList
  have en : num.data.toList.length = num.size := Array.length_toList
  cases ok with
  | false => exact h.2 rfl
  | true =>
    obtain ⟨ha, hb⟩ := h.1 rfl
    have := hk rfl
    rwa [List.take_of_length_le (by omega), List.take_of_length_le (by omega)] at hb
set_option maxRecDepth 100000 in
set_option maxHeartbeats 8000000 in
theorem rright_any (c num : ByteArray) (hnum : num.size ≤ 9223372036854775807) (w : World) : Calls Try.prog 42 #[.string c, .string num] w (RightPost c num w) := by
  have hC := fun w => rcountry_any c w
  have hM := fun w => rmember_any c w
  have hF := fun w => rforms_any c w
  have hfl := formsT_len c.data.toList
  have en : num.data.toList.length = num.size := Array.length_toList
  have EN := Lib.hid en
  clear en
  cases h1 : countryL c.data.toList with
  | false =>
    have HR := Lib.hid (right_noc (n := num.data.toList) h1)
    rw [h1] at hC
    clear h1 hM hF
    go_enter Try.func42, Try.ntmps42
    go_wp2_with (go_at_call 41; refine (hC _).mono ?_; rintro e w1 ⟨rfl, rfl⟩)
    go_ret
    exact ⟨ret_bool HR.out.symm, Below.refl _ _⟩
  | true =>
    rw [h1] at hC
    cases h2 : memB c.data.toList with
    | true =>
      have HR := Lib.hid (right_mem (n := num.data.toList) h1 h2)
      rw [h2] at hM
      clear h1 h2
      go_enter Try.func42, Try.ntmps42
      go_wp2_with (first
        | (go_at_call 41; refine (hC _).mono ?_; rintro e w1 ⟨rfl, rfl⟩)
        | (go_at_call 59; refine (hM _).mono ?_; rintro e w2 ⟨rfl, hb2⟩)
        | (go_at_call 81; refine (hF _).mono ?_; rintro e w3 ⟨v3, rfl, hs3, hb3⟩))
      have hb0 := hb2.trans (hb3.mono hb2.size)
      have HBK := Lib.hid (map_back (formsT c.data.toList))
      have hll : ((formsT c.data.toList).map bsA).length ≤ 10 := by rw [List.length_map]; exact hfl
      clear hfl hb2 hb3 hC hM hF
      obtain ⟨ls, hls⟩ : ∃ ls, ls = (formsT c.data.toList).map bsA := ⟨_, rfl⟩
      rw [← hls] at hs3 hll HBK
      clear hls
      have hs0 := hb0.size
      obtain ⟨A, cp, rfl, hc, hm, hr⟩ := hs3
      unfold maxLen at hm
      have HRow := Lib.hid hr
      clear hr
      go_loopg [7, 8, 9] ls.length (fun g x7 x8 x9 wr => ∃ i : Nat, i ≤ ls.length ∧ g = ls.length - i ∧ x7 = .int .i64 (i : Int) ∧ fitsUp ls num i ∧ Below w3.heap.size w3 wr)
      case atStart => exact ⟨0, Nat.zero_le _, rfl, rfl, fun j hj => by omega, Below.refl _ _⟩
      case round =>
        obtain ⟨i, hi, hg, rfl, hup, hbel⟩ := hrel
        have HG := Lib.hid hg
        have HU := Lib.hid hup
        clear hg hup
        by_cases h : i < ls.length
        · obtain ⟨ad, rfl, hadB, hrow⟩ := HRow.out (by omega)
          have hat : wr.cell? (ad.add i) = some (.string ls[i]) := (hbel.cell (p := ad.add i) (by rw [addr_add_block]; exact hadB)).trans (hrow i ls[i] (List.getElem?_eq_getElem h))
          have HK := Lib.hid (List.getElem?_eq_getElem h)
          have hi0 : (0 : Int) ≤ (i : Int) := by omega
          have hi1 : (i : Int) < (ls.length : Int) := by omega
          clear hrow
          generalize ls[i] = s at *
          have hst := okRel_start s num
          have HB := Lib.hid (show ((s.size : Int) == (num.size : Int)) = decide (s.size = num.size) by rw [Bool.eq_iff_iff, beq_iff_eq, decide_eq_true_eq]; omega)
          generalize decide (s.size = num.size) = ok0 at *
          obtain ⟨wo, rfl⟩ : ∃ wo : World, wo = wr := ⟨_, rfl⟩
          go_wp2
          go_loopg [8, 9] num.size (fun g x8 x9 w2 => ∃ (k : Nat) (ok : Bool), k ≤ num.size ∧ g = num.size - k ∧ x9 = .int .i64 (k : Int) ∧ x8 = .bool ok ∧ okRel s num k ok ∧ Below wo.heap.size wo w2)
          case atStart => exact ⟨0, ok0, Nat.zero_le _, rfl, rfl, by rw [HB.out], hst, Below.refl _ _⟩
          case round =>
            obtain ⟨k, ok, hk, hg2, rfl, rfl, hok, hbel2⟩ := hrel
            have HG2 := Lib.hid hg2
            have HO := Lib.hid hok
            have hat2 : wr.cell? (ad.add i) = some (.string s) := (hbel2.cell (p := ad.add i) (World.block_lt_of_cell? _ _ hat)).trans hat
            clear hg2 hok
            by_cases hlt : k < num.size
            · cases ok with
              | true =>
                have hsn : k < s.size := by have := (HO.out.1 rfl).1; omega
                have hk0 : (0 : Int) ≤ (k : Int) := by omega
                have hk1 : (k : Int) < (s.size : Int) := by omega
                have hk2 : (k : Int) < (num.size : Int) := by omega
                have HN := Lib.hid (okRel_succ HO.out hsn hlt)
                go_wp2
                go_region_with ((go_at_call 82; refine (rfit_any _ _ _).mono ?_; rintro e w8 ⟨rfl, rfl⟩))
                all_goals go_wp2
                all_goals go_roundg (num.size - (k + 1))
                all_goals first
                  | (have := HG2.out; omega)
                  | exact ⟨k + 1, _, by omega, rfl, by go_num, rfl, HN.out, hbel2.drew⟩
              | false =>
                have HE := Lib.hid (okRel_end HO.out (fun e => by cases e))
                have HN := Lib.hid (fitsUp_succ HU.out HK.out HE.out)
                go_wp2
                go_roundg (ls.length - (i + 1))
                case measure => have := HG.out; omega
                case rel => exact ⟨i + 1, by omega, rfl, by go_num, HN.out, hbel.trans (hbel2.mono hbel.size)⟩
            · obtain rfl : k = num.size := by omega
              have HE := Lib.hid (okRel_end HO.out (fun _ => Nat.le_refl _))
              cases ok with
              | true =>
                have HN := Lib.hid (fits_t HK.out HE.out)
                go_wp2
                go_ret
                refine ⟨ret_bool ?_, hb0.trans ((hbel.trans (hbel2.mono hbel.size)).mono hs0)⟩
                rw [HR.out, ← HBK.out, HN.out]
              | false =>
                have HN := Lib.hid (fitsUp_succ HU.out HK.out HE.out)
                go_wp2
                go_roundg (ls.length - (i + 1))
                case measure => have := HG.out; omega
                case rel => exact ⟨i + 1, by omega, rfl, by go_num, HN.out, hbel.trans (hbel2.mono hbel.size)⟩
        · obtain rfl : i = ls.length := by omega
          have HN := Lib.hid (fits_f HU.out)
          go_wp2
          go_ret
          refine ⟨ret_bool ?_, hb0.trans (hbel.mono hs0)⟩
          rw [HR.out, ← HBK.out, HN.out]
    | false =>
      have HR := Lib.hid (right_third (n := num.data.toList) h1 h2)
      rw [h2] at hM
      clear h1 h2 hF
      go_enter Try.func42, Try.ntmps42
      go_wp2_with (first
        | (go_at_call 41; refine (hC _).mono ?_; rintro e w1 ⟨rfl, rfl⟩)
        | (go_at_call 59; refine (hM _).mono ?_; rintro e w2 ⟨rfl, hb2⟩))
      go_loopg [5] num.size (fun g x5 wr => w2 = wr ∧ ∃ i : Nat, i ≤ num.size ∧ g = num.size - i ∧ x5 = .int .i64 (i : Int) ∧ (num.data.toList.take i).all (fun b => letB b || digB b) = true)
      case atStart => exact ⟨rfl, 0, Nat.zero_le _, rfl, rfl, rfl⟩
      case round =>
        obtain ⟨rfl, i, hi, hg, rfl, hall⟩ := hrel
        have HG := Lib.hid hg
        have HA := Lib.hid hall
        clear hg hall
        by_cases hlt : i < num.size
        · have b1 := Lib.hid (byte_at num i hlt)
          have hi1 : (i : Int) < (num.size : Int) := by omega
          have hL := fun w => rletter_any num[i] w
          have hD := fun w => rdigit_any num[i] w
          have HT := Lib.hid (fun h : (letB num[i] || digB num[i]) = true => all_take_succ (fun b => letB b || digB b) _ i (by rw [EN.out]; exact hlt) HA.out (by rw [b1.out]; exact h))
          have HN := Lib.hid (fun h : (letB num[i] || digB num[i]) = false => all_take_no (fun b => letB b || digB b) _ i (by rw [EN.out]; exact hlt) (by rw [b1.out]; exact h))
          clear b1
          generalize letB num[i] = vl at *
          generalize digB num[i] = vd at *
          cases vl <;> cases vd
          · replace HN := Lib.hid (HN.out rfl)
            go_wp2_with (first
              | (go_at_call 79; refine (hL _).mono ?_; rintro e w' ⟨rfl, rfl⟩)
              | (go_at_call 80; refine (hD _).mono ?_; rintro e w' ⟨rfl, rfl⟩))
            go_ret
            refine ⟨ret_bool ?_, hb2⟩
            rw [HR.out, HN.out, Bool.and_false]
          all_goals
            replace HT := Lib.hid (HT.out rfl)
            go_wp2_with (first
              | (go_at_call 79; refine (hL _).mono ?_; rintro e w' ⟨rfl, rfl⟩)
              | (go_at_call 80; refine (hD _).mono ?_; rintro e w' ⟨rfl, rfl⟩))
            go_roundg (num.size - (i + 1))
            case measure => have := HG.out; omega
            case rel => exact ⟨rfl, i + 1, by omega, rfl, by go_num, HT.out⟩
        · obtain rfl : i = num.size := by omega
          have HN : Hid (num.data.toList.all (fun b => letB b || digB b) = true) := Lib.hid (by
            have := HA.out
            rwa [List.take_of_length_le (by rw [EN.out]; exact Nat.le_refl _)] at this)
          by_cases z1 : 1 ≤ num.size
          · by_cases z2 : num.size ≤ 20
            · have y1 : (1 : Int) ≤ (num.size : Int) := by omega
              have y2 : (num.size : Int) ≤ 20 := by omega
              go_wp2
              go_ret
              refine ⟨ret_bool ?_, hb2⟩
              rw [HR.out, HN.out, decide_eq_true (by rw [EN.out]; exact z1), decide_eq_true (by rw [EN.out]; exact z2)]; rfl
            · have y1 : (1 : Int) ≤ (num.size : Int) := by omega
              have y2 : decide ((num.size : Int) ≤ 20) = false := decide_eq_false (by omega)
              go_wp2
              go_ret
              refine ⟨ret_bool ?_, hb2⟩
              rw [HR.out, HN.out, decide_eq_false (p := num.data.toList.length ≤ 20) (by rw [EN.out]; exact z2), Bool.and_false, Bool.false_and]
          · have y1 : decide ((1 : Int) ≤ (num.size : Int)) = false := decide_eq_false (by omega)
            go_wp2
            go_ret
            refine ⟨ret_bool ?_, hb2⟩
            rw [HR.out, HN.out, decide_eq_false (p := 1 ≤ num.data.toList.length) (by rw [EN.out]; exact z1), Bool.false_and, Bool.false_and]
end Go.Proofs.Ytnfpmobmfcgfnaa
