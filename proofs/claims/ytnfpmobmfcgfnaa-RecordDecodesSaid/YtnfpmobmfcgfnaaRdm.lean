/- THE WALK OF blob.Reader.num (printed by gennum.py: one leaf a case). -/
import Derived.Test.YtnfpmobmfcgfnaaPc
namespace Go.Proofs.Ytnfpmobmfcgfnaa
open Go.RowKit
theorem numOk_no {h : UInt8} {t : List UInt8} {many : Nat} (hm : h.toNat % 128 = many) (hx : ¬ (many ≤ 8 ∧ (h.toNat < 128 ∨ 0 < many) ∧ many ≤ t.length ∧ (many = 0 ∨ 0 < (t.headD 0).toNat ∧ (many < 8 ∨ (t.headD 0).toNat < 128)))) : rdNum (h :: t) = none := by
 refine rdNum_no fun e => hx ?_
 simp only [numOk, hm, Bool.and_eq_true, Bool.or_eq_true, decide_eq_true_eq] at e
 exact ⟨e.1.1.1, e.1.1.2, e.1.2, e.2⟩
theorem numOk_yes {h : UInt8} {t : List UInt8} {many : Nat} (hm : h.toNat % 128 = many) (hx : many ≤ 8 ∧ (h.toNat < 128 ∨ 0 < many) ∧ many ≤ t.length ∧ (many = 0 ∨ 0 < (t.headD 0).toNat ∧ (many < 8 ∨ (t.headD 0).toNat < 128))) :
  rdNum (h :: t) = some ((if h.toNat < 128 then (valL (t.take many) : Int) else -(valL (t.take many) : Int)), t.drop many) := by
 subst hm
 refine rdNum_yes ?_
 simp only [numOk, Bool.and_eq_true, Bool.or_eq_true, decide_eq_true_eq]
 exact ⟨⟨⟨hx.1, hx.2.1⟩, hx.2.2.1⟩, hx.2.2.2⟩
theorem headD_get {t : List UInt8} (h : 0 < t.length) : t.headD 0 = t[0] := by cases t with | nil => simp at h | cons a b => rfl
theorem must_false' {n c : Nat} (w : World) (_ : n ≤ c) : Calls Try.prog 120 #[.bool false] w fun e w' => e = .panicked shortP ∧ w = w' := must_false w
section
variable {w : World} {g B : Nat} {v : Value}
theorem first_of {A2 : Option Addr} {many : Nat} {t : List UInt8} (hx2 : 0 < many → ∃ ad, A2 = some ad ∧ ad.block < B ∧ ∀ (j : Nat) (x : UInt8), (t.take many)[j]? = some x → w.cell? (ad.add j) = some (bV x)) (hm0 : 0 < many) (hmt : many ≤ t.length) :
  ∃ ad, A2 = some ad ∧ w.cell? ad = some (.int .u8 ((t[0]'(by omega)).toNat : Int)) := by
 obtain ⟨ad, hA, _, hy⟩ := hx2 hm0
 refine ⟨ad, hA, ?_⟩
 have := hy 0 t[0] (by rw [List.getElem?_take, if_pos hm0, List.getElem?_eq_getElem (by omega)])
 simpa [Addr.add, bV] using this
set_option maxRecDepth 100000 in
set_option maxHeartbeats 8000000 in
theorem rdn_any {l : List UInt8} (h : Rd w g B l false v) : Calls Try.prog 103 #[.pointer (some ⟨g, 0, none⟩)] w (RdPost (fun n : Int => .int .i64 n) w g B (rdNum l)) := by
 cases l with
 | nil =>
  go_enter Try.func103, Try.ntmps103
  go_wp2_with (go_at_call 119; refine (take_short 1 h (by simp)).mono ?_; rintro e w' ⟨rfl, rfl⟩)
  exact ⟨rfl, _, _, rfl, h, Kept.refl _ _⟩
 | cons c t =>
  have htk := take_any 1 (by simp) h
  have hc := c.toNat_lt
  obtain ⟨many, hmany⟩ : ∃ m, c.toNat % 128 = m := ⟨_, rfl⟩
  have hml : many < 128 := by omega
  have hmod : (c.toNat : Int) % 128 = (many : Int) := by omega
  by_cases hm8 : many ≤ 8
  ·by_cases hc1 : c.toNat < 128
   ·skip
    by_cases hmt : many ≤ t.length
    ·by_cases hm0 : 0 < many
     ·by_cases hb0 : 0 < t[0].toNat
      ·by_cases h8 : many < 8
       ·skip
        rw [numOk_yes hmany (by rw [headD_get (by omega)]; omega)]
        rw [if_pos (by omega)]
        have hbd := valL_bound t many
        have HB := Lib.hid (fun k => hbd k hm8 hmt (fun e hl => by omega))
        have HV := Lib.hid (valL_snoc t)
        clear hbd
        have d1 : (many : Int) ≤ 8 := by omega
        have d2 : (c.toNat : Int) < 128 := by omega
        have d2b : decide (128 ≤ (c.toNat : Int)) = false := decide_eq_false (by omega)
        have d3 : ((many : Int) == 0) = false := by rw [beq_eq_false_iff_ne]; omega
        have d4 : (0 : Int) < (t[0].toNat : Int) := by omega
        have d5 : (many : Int) < 8 := by omega
        go_enter Try.func103, Try.ntmps103
        go_wp2_with (first
         | (go_at_call 119; refine (take_any many hmt hr1).mono ?_; rintro e w2 ⟨r2, v2, rfl, hb2, hr2, ho2⟩; obtain ⟨A2, c2, rfl, hc2, hm2, hx2⟩ := hb2; rw [List.length_take, Nat.min_eq_left hmt] at hx2 hc2 ⊢; obtain ⟨ad2, rfl, hcell2⟩ := first_of hx2 hm0 hmt)
         | (go_at_call 119; refine htk.mono ?_; rintro e w1 ⟨r, v1, rfl, hb1, hr1, ho1⟩; obtain ⟨ad, cc, rfl, _, _, _, hcell⟩ := byt_first hb1; rw [List.drop_one, List.tail_cons] at hr1)
         | (go_at_call 120; refine (must_true _).mono ?_; rintro e w' ⟨rfl, rfl⟩))
        go_loopg [6, 51] many (fun gk x6 x51 wr => w2 = wr ∧ ∃ k : Nat, k ≤ many ∧ gk = many - k ∧ x6 = .int .i64 ((valL (t.take k) : Nat) : Int) ∧ x51 = .int .i64 (k : Int))
        case atStart => exact ⟨rfl, 0, Nat.zero_le _, rfl, rfl, rfl⟩
        case round =>
         obtain ⟨rfl, k, hk, hgk, rfl, rfl⟩ := hrel
         have HG := Lib.hid hgk
         clear hgk
         by_cases hkm : k < many
         ·have hb9 := HB.out k hkm
          have hsn := HV.out k (by omega)
          obtain ⟨ad3, hA3, _, hy3⟩ := hx2 (by omega)
          have hcx : w2.cell? (ad3.add k) = some (.int .u8 (t[k].toNat : Int)) := hy3 k t[k] (by rw [List.getElem?_take, if_pos hkm, List.getElem?_eq_getElem (by omega)])
          rw [hsn] at hb9
          have hbk := t[k].toNat_lt
          generalize hx : valL (t.take k) = x at *
          have HX := Lib.hid hsn
          generalize t[k].toNat = b at *
          clear hsn hx hy3 hx2
          first | (cases hA3) | (subst hA3)
          go_wp2
          go_roundg (many - (k + 1))
          case measure => have := HG.out; omega
          case rel => exact ⟨rfl, k + 1, by omega, rfl, by rw [HX.out]; go_num, by go_num⟩
         ·obtain rfl : k = many := by omega
          have hb9 : valL (t.take k) < 9223372036854775808 := by
           cases k with
           | zero => simp [valL]
           | succ j => exact HB.out j (by omega)
          generalize hx : valL (t.take k) = x at hb9 ⊢
          have HX := Lib.hid hx
          clear hx
          go_wp2
          go_ret
          exact ⟨_, by rw [HX.out]; rfl, hr2, Kept.trans ho1 ho2 fun _ _ h => h⟩
       ·by_cases hs : t[0].toNat < 128
        ·skip
         rw [numOk_yes hmany (by rw [headD_get (by omega)]; omega)]
         rw [if_pos (by omega)]
         have hbd := valL_bound t many
         have HB := Lib.hid (fun k => hbd k hm8 hmt (fun e hl => by omega))
         have HV := Lib.hid (valL_snoc t)
         clear hbd
         have d1 : (many : Int) ≤ 8 := by omega
         have d2 : (c.toNat : Int) < 128 := by omega
         have d2b : decide (128 ≤ (c.toNat : Int)) = false := decide_eq_false (by omega)
         have d3 : ((many : Int) == 0) = false := by rw [beq_eq_false_iff_ne]; omega
         have d4 : (0 : Int) < (t[0].toNat : Int) := by omega
         have d5 : decide ((many : Int) < 8) = false := decide_eq_false (by omega)
         have d6 : (t[0].toNat : Int) < 128 := by omega
         go_enter Try.func103, Try.ntmps103
         go_wp2_with (first
          | (go_at_call 119; refine (take_any many hmt hr1).mono ?_; rintro e w2 ⟨r2, v2, rfl, hb2, hr2, ho2⟩; obtain ⟨A2, c2, rfl, hc2, hm2, hx2⟩ := hb2; rw [List.length_take, Nat.min_eq_left hmt] at hx2 hc2 ⊢; obtain ⟨ad2, rfl, hcell2⟩ := first_of hx2 hm0 hmt)
          | (go_at_call 119; refine htk.mono ?_; rintro e w1 ⟨r, v1, rfl, hb1, hr1, ho1⟩; obtain ⟨ad, cc, rfl, _, _, _, hcell⟩ := byt_first hb1; rw [List.drop_one, List.tail_cons] at hr1)
          | (go_at_call 120; refine (must_true _).mono ?_; rintro e w' ⟨rfl, rfl⟩))
         go_loopg [6, 51] many (fun gk x6 x51 wr => w2 = wr ∧ ∃ k : Nat, k ≤ many ∧ gk = many - k ∧ x6 = .int .i64 ((valL (t.take k) : Nat) : Int) ∧ x51 = .int .i64 (k : Int))
         case atStart => exact ⟨rfl, 0, Nat.zero_le _, rfl, rfl, rfl⟩
         case round =>
          obtain ⟨rfl, k, hk, hgk, rfl, rfl⟩ := hrel
          have HG := Lib.hid hgk
          clear hgk
          by_cases hkm : k < many
          ·have hb9 := HB.out k hkm
           have hsn := HV.out k (by omega)
           obtain ⟨ad3, hA3, _, hy3⟩ := hx2 (by omega)
           have hcx : w2.cell? (ad3.add k) = some (.int .u8 (t[k].toNat : Int)) := hy3 k t[k] (by rw [List.getElem?_take, if_pos hkm, List.getElem?_eq_getElem (by omega)])
           rw [hsn] at hb9
           have hbk := t[k].toNat_lt
           generalize hx : valL (t.take k) = x at *
           have HX := Lib.hid hsn
           generalize t[k].toNat = b at *
           clear hsn hx hy3 hx2
           first | (cases hA3) | (subst hA3)
           go_wp2
           go_roundg (many - (k + 1))
           case measure => have := HG.out; omega
           case rel => exact ⟨rfl, k + 1, by omega, rfl, by rw [HX.out]; go_num, by go_num⟩
          ·obtain rfl : k = many := by omega
           have hb9 : valL (t.take k) < 9223372036854775808 := by
            cases k with
            | zero => simp [valL]
            | succ j => exact HB.out j (by omega)
           generalize hx : valL (t.take k) = x at hb9 ⊢
           have HX := Lib.hid hx
           clear hx
           go_wp2
           go_ret
           exact ⟨_, by rw [HX.out]; rfl, hr2, Kept.trans ho1 ho2 fun _ _ h => h⟩
        ·skip
         rw [numOk_no hmany (by rw [headD_get (by omega)]; omega)]
         have d1 : (many : Int) ≤ 8 := by omega
         have d2 : (c.toNat : Int) < 128 := by omega
         have d2b : decide (128 ≤ (c.toNat : Int)) = false := decide_eq_false (by omega)
         have d3 : ((many : Int) == 0) = false := by rw [beq_eq_false_iff_ne]; omega
         have d4 : (0 : Int) < (t[0].toNat : Int) := by omega
         have d5 : decide ((many : Int) < 8) = false := decide_eq_false (by omega)
         have d6 : decide ((t[0].toNat : Int) < 128) = false := decide_eq_false (by omega)
         go_enter Try.func103, Try.ntmps103
         go_wp2_with (first
          | (go_at_call 119; refine (take_any many hmt hr1).mono ?_; rintro e w2 ⟨r2, v2, rfl, hb2, hr2, ho2⟩; obtain ⟨A2, c2, rfl, hc2, hm2, hx2⟩ := hb2; rw [List.length_take, Nat.min_eq_left hmt] at hx2 hc2 ⊢; obtain ⟨ad2, rfl, hcell2⟩ := first_of hx2 hm0 hmt)
          | (go_at_call 119; refine htk.mono ?_; rintro e w1 ⟨r, v1, rfl, hb1, hr1, ho1⟩; obtain ⟨ad, cc, rfl, _, _, _, hcell⟩ := byt_first hb1; rw [List.drop_one, List.tail_cons] at hr1)
          | (go_at_call 120; first | (refine (must_false' _ hc2).mono ?_; rintro e w' ⟨rfl, rfl⟩) | (refine (must_true _).mono ?_; rintro e w' ⟨rfl, rfl⟩)))
         exact ⟨rfl, _, _, rfl, hr2, Kept.trans ho1 ho2 fun _ _ h => h⟩
      ·skip
       rw [numOk_no hmany (by rw [headD_get (by omega)]; omega)]
       have d1 : (many : Int) ≤ 8 := by omega
       have d2 : (c.toNat : Int) < 128 := by omega
       have d2b : decide (128 ≤ (c.toNat : Int)) = false := decide_eq_false (by omega)
       have d3 : ((many : Int) == 0) = false := by rw [beq_eq_false_iff_ne]; omega
       have d4 : decide ((0 : Int) < (t[0].toNat : Int)) = false := decide_eq_false (by omega)
       go_enter Try.func103, Try.ntmps103
       go_wp2_with (first
        | (go_at_call 119; refine (take_any many hmt hr1).mono ?_; rintro e w2 ⟨r2, v2, rfl, hb2, hr2, ho2⟩; obtain ⟨A2, c2, rfl, hc2, hm2, hx2⟩ := hb2; rw [List.length_take, Nat.min_eq_left hmt] at hx2 hc2 ⊢; obtain ⟨ad2, rfl, hcell2⟩ := first_of hx2 hm0 hmt)
        | (go_at_call 119; refine htk.mono ?_; rintro e w1 ⟨r, v1, rfl, hb1, hr1, ho1⟩; obtain ⟨ad, cc, rfl, _, _, _, hcell⟩ := byt_first hb1; rw [List.drop_one, List.tail_cons] at hr1)
        | (go_at_call 120; first | (refine (must_false' _ hc2).mono ?_; rintro e w' ⟨rfl, rfl⟩) | (refine (must_true _).mono ?_; rintro e w' ⟨rfl, rfl⟩)))
       exact ⟨rfl, _, _, rfl, hr2, Kept.trans ho1 ho2 fun _ _ h => h⟩
     ·skip
      rw [numOk_yes hmany (by omega)]
      rw [if_pos (by omega)]
      have hbd := valL_bound t many
      have HB := Lib.hid (fun k => hbd k hm8 hmt (fun e hl => by omega))
      have HV := Lib.hid (valL_snoc t)
      clear hbd
      have d1 : (many : Int) ≤ 8 := by omega
      have d2 : (c.toNat : Int) < 128 := by omega
      have d2b : decide (128 ≤ (c.toNat : Int)) = false := decide_eq_false (by omega)
      have d3 : ((many : Int) == 0) = true := by rw [beq_iff_eq]; omega
      go_enter Try.func103, Try.ntmps103
      go_wp2_with (first
       | (go_at_call 119; refine (take_any many hmt hr1).mono ?_; rintro e w2 ⟨r2, v2, rfl, hb2, hr2, ho2⟩; obtain ⟨A2, c2, rfl, hc2, hm2, hx2⟩ := hb2; rw [List.length_take, Nat.min_eq_left hmt] at hx2 hc2 ⊢)
       | (go_at_call 119; refine htk.mono ?_; rintro e w1 ⟨r, v1, rfl, hb1, hr1, ho1⟩; obtain ⟨ad, cc, rfl, _, _, _, hcell⟩ := byt_first hb1; rw [List.drop_one, List.tail_cons] at hr1)
       | (go_at_call 120; refine (must_true _).mono ?_; rintro e w' ⟨rfl, rfl⟩))
      go_loopg [6, 51] many (fun gk x6 x51 wr => w2 = wr ∧ ∃ k : Nat, k ≤ many ∧ gk = many - k ∧ x6 = .int .i64 ((valL (t.take k) : Nat) : Int) ∧ x51 = .int .i64 (k : Int))
      case atStart => exact ⟨rfl, 0, Nat.zero_le _, rfl, rfl, rfl⟩
      case round =>
       obtain ⟨rfl, k, hk, hgk, rfl, rfl⟩ := hrel
       have HG := Lib.hid hgk
       clear hgk
       by_cases hkm : k < many
       ·have hb9 := HB.out k hkm
        have hsn := HV.out k (by omega)
        obtain ⟨ad3, hA3, _, hy3⟩ := hx2 (by omega)
        have hcx : w2.cell? (ad3.add k) = some (.int .u8 (t[k].toNat : Int)) := hy3 k t[k] (by rw [List.getElem?_take, if_pos hkm, List.getElem?_eq_getElem (by omega)])
        rw [hsn] at hb9
        have hbk := t[k].toNat_lt
        generalize hx : valL (t.take k) = x at *
        have HX := Lib.hid hsn
        generalize t[k].toNat = b at *
        clear hsn hx hy3 hx2
        first | (cases hA3) | (subst hA3)
        go_wp2
        go_roundg (many - (k + 1))
        case measure => have := HG.out; omega
        case rel => exact ⟨rfl, k + 1, by omega, rfl, by rw [HX.out]; go_num, by go_num⟩
       ·obtain rfl : k = many := by omega
        have hb9 : valL (t.take k) < 9223372036854775808 := by
         cases k with
         | zero => simp [valL]
         | succ j => exact HB.out j (by omega)
        generalize hx : valL (t.take k) = x at hb9 ⊢
        have HX := Lib.hid hx
        clear hx
        go_wp2
        go_ret
        exact ⟨_, by rw [HX.out]; rfl, hr2, Kept.trans ho1 ho2 fun _ _ h => h⟩
    ·skip
     rw [numOk_no hmany (by omega)]
     have d1 : (many : Int) ≤ 8 := by omega
     have d2 : (c.toNat : Int) < 128 := by omega
     have d2b : decide (128 ≤ (c.toNat : Int)) = false := decide_eq_false (by omega)
     go_enter Try.func103, Try.ntmps103
     go_wp2_with (first
      | (go_at_call 119; refine (take_short (many : Int) hr1 (by omega)).mono ?_; rintro e w' ⟨rfl, rfl⟩)
      | (go_at_call 119; refine htk.mono ?_; rintro e w1 ⟨r, v1, rfl, hb1, hr1, ho1⟩; obtain ⟨ad, cc, rfl, _, _, _, hcell⟩ := byt_first hb1; rw [List.drop_one, List.tail_cons] at hr1)
      | (go_at_call 120; refine (must_true _).mono ?_; rintro e w' ⟨rfl, rfl⟩))
     exact ⟨rfl, _, _, rfl, hr1, ho1⟩
   ·by_cases hm0 : 0 < many
    ·skip
     by_cases hmt : many ≤ t.length
     ·by_cases hb0 : 0 < t[0].toNat
      ·by_cases h8 : many < 8
       ·skip
        rw [numOk_yes hmany (by rw [headD_get (by omega)]; omega)]
        rw [if_neg (by omega)]
        have hbd := valL_bound t many
        have HB := Lib.hid (fun k => hbd k hm8 hmt (fun e hl => by omega))
        have HV := Lib.hid (valL_snoc t)
        clear hbd
        have d1 : (many : Int) ≤ 8 := by omega
        have d2 : decide ((c.toNat : Int) < 128) = false := decide_eq_false (by omega)
        have d2b : 128 ≤ (c.toNat : Int) := by omega
        have d7 : (0 : Int) < (many : Int) := by omega
        have d3 : ((many : Int) == 0) = false := by rw [beq_eq_false_iff_ne]; omega
        have d4 : (0 : Int) < (t[0].toNat : Int) := by omega
        have d5 : (many : Int) < 8 := by omega
        go_enter Try.func103, Try.ntmps103
        go_wp2_with (first
         | (go_at_call 119; refine (take_any many hmt hr1).mono ?_; rintro e w2 ⟨r2, v2, rfl, hb2, hr2, ho2⟩; obtain ⟨A2, c2, rfl, hc2, hm2, hx2⟩ := hb2; rw [List.length_take, Nat.min_eq_left hmt] at hx2 hc2 ⊢; obtain ⟨ad2, rfl, hcell2⟩ := first_of hx2 hm0 hmt)
         | (go_at_call 119; refine htk.mono ?_; rintro e w1 ⟨r, v1, rfl, hb1, hr1, ho1⟩; obtain ⟨ad, cc, rfl, _, _, _, hcell⟩ := byt_first hb1; rw [List.drop_one, List.tail_cons] at hr1)
         | (go_at_call 120; refine (must_true _).mono ?_; rintro e w' ⟨rfl, rfl⟩))
        go_loopg [6, 51] many (fun gk x6 x51 wr => w2 = wr ∧ ∃ k : Nat, k ≤ many ∧ gk = many - k ∧ x6 = .int .i64 ((valL (t.take k) : Nat) : Int) ∧ x51 = .int .i64 (k : Int))
        case atStart => exact ⟨rfl, 0, Nat.zero_le _, rfl, rfl, rfl⟩
        case round =>
         obtain ⟨rfl, k, hk, hgk, rfl, rfl⟩ := hrel
         have HG := Lib.hid hgk
         clear hgk
         by_cases hkm : k < many
         ·have hb9 := HB.out k hkm
          have hsn := HV.out k (by omega)
          obtain ⟨ad3, hA3, _, hy3⟩ := hx2 (by omega)
          have hcx : w2.cell? (ad3.add k) = some (.int .u8 (t[k].toNat : Int)) := hy3 k t[k] (by rw [List.getElem?_take, if_pos hkm, List.getElem?_eq_getElem (by omega)])
          rw [hsn] at hb9
          have hbk := t[k].toNat_lt
          generalize hx : valL (t.take k) = x at *
          have HX := Lib.hid hsn
          generalize t[k].toNat = b at *
          clear hsn hx hy3 hx2
          first | (cases hA3) | (subst hA3)
          go_wp2
          go_roundg (many - (k + 1))
          case measure => have := HG.out; omega
          case rel => exact ⟨rfl, k + 1, by omega, rfl, by rw [HX.out]; go_num, by go_num⟩
         ·obtain rfl : k = many := by omega
          have hb9 : valL (t.take k) < 9223372036854775808 := by
           cases k with
           | zero => simp [valL]
           | succ j => exact HB.out j (by omega)
          generalize hx : valL (t.take k) = x at hb9 ⊢
          have HX := Lib.hid hx
          clear hx
          go_wp2
          go_ret
          exact ⟨_, by rw [HX.out]; rfl, hr2, Kept.trans ho1 ho2 fun _ _ h => h⟩
       ·by_cases hs : t[0].toNat < 128
        ·skip
         rw [numOk_yes hmany (by rw [headD_get (by omega)]; omega)]
         rw [if_neg (by omega)]
         have hbd := valL_bound t many
         have HB := Lib.hid (fun k => hbd k hm8 hmt (fun e hl => by omega))
         have HV := Lib.hid (valL_snoc t)
         clear hbd
         have d1 : (many : Int) ≤ 8 := by omega
         have d2 : decide ((c.toNat : Int) < 128) = false := decide_eq_false (by omega)
         have d2b : 128 ≤ (c.toNat : Int) := by omega
         have d7 : (0 : Int) < (many : Int) := by omega
         have d3 : ((many : Int) == 0) = false := by rw [beq_eq_false_iff_ne]; omega
         have d4 : (0 : Int) < (t[0].toNat : Int) := by omega
         have d5 : decide ((many : Int) < 8) = false := decide_eq_false (by omega)
         have d6 : (t[0].toNat : Int) < 128 := by omega
         go_enter Try.func103, Try.ntmps103
         go_wp2_with (first
          | (go_at_call 119; refine (take_any many hmt hr1).mono ?_; rintro e w2 ⟨r2, v2, rfl, hb2, hr2, ho2⟩; obtain ⟨A2, c2, rfl, hc2, hm2, hx2⟩ := hb2; rw [List.length_take, Nat.min_eq_left hmt] at hx2 hc2 ⊢; obtain ⟨ad2, rfl, hcell2⟩ := first_of hx2 hm0 hmt)
          | (go_at_call 119; refine htk.mono ?_; rintro e w1 ⟨r, v1, rfl, hb1, hr1, ho1⟩; obtain ⟨ad, cc, rfl, _, _, _, hcell⟩ := byt_first hb1; rw [List.drop_one, List.tail_cons] at hr1)
          | (go_at_call 120; refine (must_true _).mono ?_; rintro e w' ⟨rfl, rfl⟩))
         go_loopg [6, 51] many (fun gk x6 x51 wr => w2 = wr ∧ ∃ k : Nat, k ≤ many ∧ gk = many - k ∧ x6 = .int .i64 ((valL (t.take k) : Nat) : Int) ∧ x51 = .int .i64 (k : Int))
         case atStart => exact ⟨rfl, 0, Nat.zero_le _, rfl, rfl, rfl⟩
         case round =>
          obtain ⟨rfl, k, hk, hgk, rfl, rfl⟩ := hrel
          have HG := Lib.hid hgk
          clear hgk
          by_cases hkm : k < many
          ·have hb9 := HB.out k hkm
           have hsn := HV.out k (by omega)
           obtain ⟨ad3, hA3, _, hy3⟩ := hx2 (by omega)
           have hcx : w2.cell? (ad3.add k) = some (.int .u8 (t[k].toNat : Int)) := hy3 k t[k] (by rw [List.getElem?_take, if_pos hkm, List.getElem?_eq_getElem (by omega)])
           rw [hsn] at hb9
           have hbk := t[k].toNat_lt
           generalize hx : valL (t.take k) = x at *
           have HX := Lib.hid hsn
           generalize t[k].toNat = b at *
           clear hsn hx hy3 hx2
           first | (cases hA3) | (subst hA3)
           go_wp2
           go_roundg (many - (k + 1))
           case measure => have := HG.out; omega
           case rel => exact ⟨rfl, k + 1, by omega, rfl, by rw [HX.out]; go_num, by go_num⟩
          ·obtain rfl : k = many := by omega
           have hb9 : valL (t.take k) < 9223372036854775808 := by
            cases k with
            | zero => simp [valL]
            | succ j => exact HB.out j (by omega)
           generalize hx : valL (t.take k) = x at hb9 ⊢
           have HX := Lib.hid hx
           clear hx
           go_wp2
           go_ret
           exact ⟨_, by rw [HX.out]; rfl, hr2, Kept.trans ho1 ho2 fun _ _ h => h⟩
        ·skip
         rw [numOk_no hmany (by rw [headD_get (by omega)]; omega)]
         have d1 : (many : Int) ≤ 8 := by omega
         have d2 : decide ((c.toNat : Int) < 128) = false := decide_eq_false (by omega)
         have d2b : 128 ≤ (c.toNat : Int) := by omega
         have d7 : (0 : Int) < (many : Int) := by omega
         have d3 : ((many : Int) == 0) = false := by rw [beq_eq_false_iff_ne]; omega
         have d4 : (0 : Int) < (t[0].toNat : Int) := by omega
         have d5 : decide ((many : Int) < 8) = false := decide_eq_false (by omega)
         have d6 : decide ((t[0].toNat : Int) < 128) = false := decide_eq_false (by omega)
         go_enter Try.func103, Try.ntmps103
         go_wp2_with (first
          | (go_at_call 119; refine (take_any many hmt hr1).mono ?_; rintro e w2 ⟨r2, v2, rfl, hb2, hr2, ho2⟩; obtain ⟨A2, c2, rfl, hc2, hm2, hx2⟩ := hb2; rw [List.length_take, Nat.min_eq_left hmt] at hx2 hc2 ⊢; obtain ⟨ad2, rfl, hcell2⟩ := first_of hx2 hm0 hmt)
          | (go_at_call 119; refine htk.mono ?_; rintro e w1 ⟨r, v1, rfl, hb1, hr1, ho1⟩; obtain ⟨ad, cc, rfl, _, _, _, hcell⟩ := byt_first hb1; rw [List.drop_one, List.tail_cons] at hr1)
          | (go_at_call 120; first | (refine (must_false' _ hc2).mono ?_; rintro e w' ⟨rfl, rfl⟩) | (refine (must_true _).mono ?_; rintro e w' ⟨rfl, rfl⟩)))
         exact ⟨rfl, _, _, rfl, hr2, Kept.trans ho1 ho2 fun _ _ h => h⟩
      ·skip
       rw [numOk_no hmany (by rw [headD_get (by omega)]; omega)]
       have d1 : (many : Int) ≤ 8 := by omega
       have d2 : decide ((c.toNat : Int) < 128) = false := decide_eq_false (by omega)
       have d2b : 128 ≤ (c.toNat : Int) := by omega
       have d7 : (0 : Int) < (many : Int) := by omega
       have d3 : ((many : Int) == 0) = false := by rw [beq_eq_false_iff_ne]; omega
       have d4 : decide ((0 : Int) < (t[0].toNat : Int)) = false := decide_eq_false (by omega)
       go_enter Try.func103, Try.ntmps103
       go_wp2_with (first
        | (go_at_call 119; refine (take_any many hmt hr1).mono ?_; rintro e w2 ⟨r2, v2, rfl, hb2, hr2, ho2⟩; obtain ⟨A2, c2, rfl, hc2, hm2, hx2⟩ := hb2; rw [List.length_take, Nat.min_eq_left hmt] at hx2 hc2 ⊢; obtain ⟨ad2, rfl, hcell2⟩ := first_of hx2 hm0 hmt)
        | (go_at_call 119; refine htk.mono ?_; rintro e w1 ⟨r, v1, rfl, hb1, hr1, ho1⟩; obtain ⟨ad, cc, rfl, _, _, _, hcell⟩ := byt_first hb1; rw [List.drop_one, List.tail_cons] at hr1)
        | (go_at_call 120; first | (refine (must_false' _ hc2).mono ?_; rintro e w' ⟨rfl, rfl⟩) | (refine (must_true _).mono ?_; rintro e w' ⟨rfl, rfl⟩)))
       exact ⟨rfl, _, _, rfl, hr2, Kept.trans ho1 ho2 fun _ _ h => h⟩
     ·skip
      rw [numOk_no hmany (by omega)]
      have d1 : (many : Int) ≤ 8 := by omega
      have d2 : decide ((c.toNat : Int) < 128) = false := decide_eq_false (by omega)
      have d2b : 128 ≤ (c.toNat : Int) := by omega
      have d7 : (0 : Int) < (many : Int) := by omega
      go_enter Try.func103, Try.ntmps103
      go_wp2_with (first
       | (go_at_call 119; refine (take_short (many : Int) hr1 (by omega)).mono ?_; rintro e w' ⟨rfl, rfl⟩)
       | (go_at_call 119; refine htk.mono ?_; rintro e w1 ⟨r, v1, rfl, hb1, hr1, ho1⟩; obtain ⟨ad, cc, rfl, _, _, _, hcell⟩ := byt_first hb1; rw [List.drop_one, List.tail_cons] at hr1)
       | (go_at_call 120; refine (must_true _).mono ?_; rintro e w' ⟨rfl, rfl⟩))
      exact ⟨rfl, _, _, rfl, hr1, ho1⟩
    ·skip
     rw [numOk_no hmany (by omega)]
     have d1 : (many : Int) ≤ 8 := by omega
     have d2 : decide ((c.toNat : Int) < 128) = false := decide_eq_false (by omega)
     have d2b : 128 ≤ (c.toNat : Int) := by omega
     have d7 : decide ((0 : Int) < (many : Int)) = false := decide_eq_false (by omega)
     go_enter Try.func103, Try.ntmps103
     go_wp2_with (first
      | (go_at_call 119; refine htk.mono ?_; rintro e w1 ⟨r, v1, rfl, hb1, hr1, ho1⟩; obtain ⟨ad, cc, rfl, _, _, _, hcell⟩ := byt_first hb1; rw [List.drop_one, List.tail_cons] at hr1)
      | (go_at_call 120; refine (must_false _).mono ?_; rintro e w' ⟨rfl, rfl⟩))
     exact ⟨rfl, _, _, rfl, hr1, ho1⟩
  ·skip
   rw [numOk_no hmany (by omega)]
   have d1 : decide ((many : Int) ≤ 8) = false := decide_eq_false (by omega)
   go_enter Try.func103, Try.ntmps103
   go_wp2_with (first
    | (go_at_call 119; refine htk.mono ?_; rintro e w1 ⟨r, v1, rfl, hb1, hr1, ho1⟩; obtain ⟨ad, cc, rfl, _, _, _, hcell⟩ := byt_first hb1; rw [List.drop_one, List.tail_cons] at hr1)
    | (go_at_call 120; refine (must_false _).mono ?_; rintro e w' ⟨rfl, rfl⟩))
   exact ⟨rfl, _, _, rfl, hr1, ho1⟩
end
end Go.Proofs.Ytnfpmobmfcgfnaa

