/- THE WALKS OF octroiref07's Same AND Member. -/
import Derived.Test.YtnfpmobmfcgfnaaVaC
namespace Go.Proofs.Ytnfpmobmfcgfnaa
open Go.RowKit
def samePost (l1 l2 : List ByteArray) (w : World) (e : Ending) (w' : World) : Prop := e = .returned (.bool (decide (l1 = l2))) ∧ Below w.heap.size w w'
theorem same_f {l1 l2 : List ByteArray} {k : Nat} (h1 : k < l1.length) (h2 : k < l2.length) (h : l1[k] ≠ l2[k]) : decide (l1 = l2) = false := by
  rw [decide_eq_false_iff_not]; rintro rfl; exact h rfl
set_option maxHeartbeats 1000000 in
theorem same_any (v1 v2 : Value) (l1 l2 : List ByteArray) (w : World) (B1 B2 : Nat) (h1 : Sl strK w B1 v1 l1) (h2 : Sl strK w B2 v2 l2) :
    Calls Try.prog 21 #[v1, v2] w (samePost l1 l2 w) := by
  have h1' := h1.heap
  have h2' := h2.heap
  obtain ⟨A1, c1, rfl, hc1, hm1, hr1⟩ := id h1'
  obtain ⟨A2, c2, rfl, hc2, hm2, hr2⟩ := id h2'
  unfold maxLen at hm1 hm2
  have R1 := Lib.hid hr1
  have R2 := Lib.hid hr2
  clear h1 h2 h1' h2' hr1 hr2
  by_cases hl : l1.length = l2.length
  · have HL := Lib.hid hl
    have e1 : ((l1.length : Int) == (l2.length : Int)) = true := by rw [beq_iff_eq]; omega
    have e2 : ((l1.length : Int) != (l2.length : Int)) = false := by simp [hl]
    have hle : l2.length ≤ l1.length := by omega
    have hle' : l1.length ≤ l2.length := by omega
    clear hl
    go_enter Try.func21, Try.ntmps21
    go_wp2
    go_loopg [5] l1.length (fun g x wr => ∃ k : Nat, k ≤ l1.length ∧ g = l1.length - k ∧ x = .int .i64 (k : Int) ∧ (∀ j, j < k → l1[j]? = l2[j]?) ∧ Below w.heap.size w wr)
    case atStart => exact ⟨0, Nat.zero_le _, rfl, rfl, fun j hj => by omega, Below.refl _ _⟩
    case round =>
      obtain ⟨k, hk, hg, rfl, hall, hbel⟩ := hrel
      have HG := Lib.hid hg
      have HA := Lib.hid hall
      clear hg hall
      by_cases h : k < l1.length
      · obtain ⟨ad1, rfl, hb1, hx1⟩ := R1.out (by omega)
        obtain ⟨ad2, rfl, hb2, hx2⟩ := R2.out (by omega)
        have hat1 : wr.cell? (ad1.add k) = some (.string l1[k]) := (hbel.cell (p := ad1.add k) (by rw [addr_add_block]; exact hb1)).trans (hx1 k l1[k] (List.getElem?_eq_getElem h))
        have hat2 : wr.cell? (ad2.add k) = some (.string (l2[k]'(by omega))) := (hbel.cell (p := ad2.add k) (by rw [addr_add_block]; exact hb2)).trans (hx2 k _ (List.getElem?_eq_getElem (by omega)))
        have hk0 : (0 : Int) ≤ (k : Int) := by omega
        have hk1 : (k : Int) < (l1.length : Int) := by omega
        have hk2 : (k : Int) < (l2.length : Int) := by omega
        have HE1 := Lib.hid (List.getElem?_eq_getElem h)
        have HE2 := Lib.hid (List.getElem?_eq_getElem (show k < l2.length by omega))
        have HF := Lib.hid (fun hne : l1[k] ≠ l2[k] => same_f h (by omega) hne)
        clear hx1 hx2
        generalize l1[k] = s1 at *
        generalize l2[k] = s2 at *
        go_wp2
        go_quiet (fail)
        go_wp2
        · have hx : s1 ≠ s2 := str_f (by simpa using (by assumption : (!s1.toList == s2.toList) = true))
          go_ret
          exact ⟨ret_bool (HF.out hx).symm, below_drewN hbel _⟩
        · have hx : s1 = s2 := str_t (by simpa using (by assumption : (!s1.toList == s2.toList) = false))
          go_roundg (l1.length - (k + 1))
          case measure => have := HG.out; omega
          case rel =>
            refine ⟨k + 1, by omega, rfl, by go_num, fun j hj => ?_, below_drewN hbel _⟩
            by_cases hjk : j = k
            · subst hjk; rw [HE1.out, HE2.out, hx]
            · exact HA.out j (by omega)
      · obtain rfl : k = l1.length := by omega
        have hd : l1 = l2 := by
          apply List.ext_getElem?
          intro j
          by_cases hj : j < l1.length
          · exact HA.out j hj
          · rw [List.getElem?_eq_none (by omega), List.getElem?_eq_none (by have := HL.out; omega)]
        have HD := Lib.hid hd
        clear hd
        go_wp2
        go_ret
        exact ⟨ret_bool (decide_eq_true HD.out).symm, hbel⟩
  · have e2 : ((l1.length : Int) != (l2.length : Int)) = true := by simp; omega
    have e1 : ((l1.length : Int) == (l2.length : Int)) = false := by rw [beq_eq_false_iff_ne]; omega
    have hd : decide (l1 = l2) = false := by rw [decide_eq_false_iff_not]; rintro rfl; exact hl rfl
    unfold samePost
    rw [hd]
    clear hd hl
    go_enter Try.func21, Try.ntmps21
    go_wp2
    go_ret
    exact ⟨rfl, Below.refl _ _⟩
set_option maxHeartbeats 1000000 in
theorem rmember_any (c : ByteArray) (w : World) : Calls Try.prog 59 #[.string c] w fun e w' => e = .returned (.bool (memB c.data.toList)) ∧ Below w.heap.size w w' := by
  rw [← has_mems]
  go_enter Try.func59, Try.ntmps59
  go_wp2_with (go_at_call 91; refine (rmembers_any _).mono ?_; rintro e w1 ⟨v1, rfl, hv1, hb1⟩)
  obtain ⟨A, cp, rfl, hc, hm, hr⟩ := hv1.sl
  unfold maxLen at hm
  clear hv1
  obtain ⟨ls, hls⟩ : ∃ ls, ls = mems.map bsA := ⟨_, rfl⟩
  rw [← hls] at hc hr ⊢
  have HLs := Lib.hid hls
  clear hls
  have HR := Lib.hid hr
  clear hr
  go_loopg [4] ls.length (fun g x wr => w1 = wr ∧ ∃ k : Nat, k ≤ ls.length ∧ g = ls.length - k ∧ x = .int .i64 (k : Int) ∧ (∀ j, j < k → ls[j]? ≠ some c))
  case atStart => exact ⟨rfl, 0, Nat.zero_le _, rfl, rfl, fun j hj => by omega⟩
  case round =>
    obtain ⟨rfl, k, hk, hg, rfl, hno⟩ := hrel
    have HG := Lib.hid hg
    have HN := Lib.hid hno
    clear hg hno
    by_cases h : k < ls.length
    · obtain ⟨ad, rfl, hadB, hrow⟩ := HR.out (by omega)
      have hat : w1.cell? (ad.add k) = some (.string ls[k]) := hrow k ls[k] (List.getElem?_eq_getElem h)
      have HK := Lib.hid (List.getElem?_eq_getElem h)
      clear hrow
      generalize ls[k] = x at *
      go_wp2
      · have hx := str_t (by assumption : (x.toList == c.toList) = true)
        go_ret
        exact ⟨ret_bool (by rw [← HLs.out]; exact (has_t (hx ▸ HK.out)).symm), hb1⟩
      · have hx := str_f (by assumption : (x.toList == c.toList) = false)
        go_roundg (ls.length - (k + 1))
        case measure => have := HG.out; omega
        case rel =>
          refine ⟨rfl, k + 1, by omega, rfl, by go_num, fun j hj e => ?_⟩
          by_cases hjk : j = k
          · subst hjk
            rw [HK.out] at e
            exact hx (Option.some.inj e)
          · exact HN.out j (by omega) e
    · obtain rfl : k = ls.length := by omega
      go_wp2
      go_ret
      exact ⟨ret_bool (by rw [← HLs.out]; exact (has_f HN.out).symm), hb1⟩
end Go.Proofs.Ytnfpmobmfcgfnaa
