/- THE WALK OF octroiref05.Reader.Num (printed by gennumq.py: one leaf a case). -/
import Derived.Test.YtnmiodjkomgfcaaRfa
import Derived.Test.YtnmiodjkomgfcaaRdm
namespace Go.Proofs.Ytnmiodjkomgfcaa
open Go.RowKit
section
theorem add_at (ad : Addr) (n k : Nat) : ad.add (n + 1 + k) = ⟨ad.block, ad.off + (n + (k + 1)), none⟩ := by unfold Addr.add; rw [if_neg (by omega), show n + 1 + k = n + (k + 1) by omega]
theorem add_succ (ad : Addr) (n : Nat) : ad.add (n + 1) = ⟨ad.block, ad.off + (n + 1), none⟩ := by unfold Addr.add; rw [if_neg (by omega)]
variable {w w' : World} {g B : Nat} {A : Option Addr} {c : Nat} {L : List UInt8} {pos : Nat} {bad : Bool}
set_option maxRecDepth 100000 in
set_option maxHeartbeats 16000000 in
theorem qnum_any (hR : Rr w g B A c L pos bad) : Calls Try.prog 16 #[.pointer (some ⟨g, 0, none⟩)] w (QPost (fun n : Int => .int .i64 n) 0 w g B A c L bad (rdNum (L.drop pos))) := by
  have c0 := hR.c0
  have c1 := hR.c1
  have c2 := hR.c2
  have f1 := hR.f1
  have f2 := hR.f2
  have hp := hR.pos_le
  obtain ⟨hcl, hm⟩ := hR.cap
  cases bad with
  | true =>
    go_enter Try.func16, Try.ntmps16
    go_wp2_with fail
    go_quiet (fail)
    go_wp2
    go_ret
    exact ⟨_, rfl, (hR.drewN _).spoil.1, (only_drewN _ (hR.drewN _).spoil.2)⟩
  | false =>
    by_cases hlt : pos < L.length
    · obtain ⟨ad, rfl, hadg, hcell⟩ := hR.at_ pos hlt
      have hdrop : L.drop pos = L[pos] :: L.drop (pos + 1) := List.drop_eq_getElem_cons hlt
      have i0 : (0 : Int) ≤ (pos : Int) := by omega
      have i1 : (pos : Int) < (L.length : Int) := by omega
      have d1 : decide ((L.length : Int) ≤ (pos : Int)) = false := decide_eq_false (by omega)
      have hb := L[pos].toNat_lt
      have htk : ∀ k (hk : k < (L.drop (pos + 1)).length), (L.drop (pos + 1))[k].toNat = (L[pos + 1 + k]'(by rw [List.length_drop] at hk; omega)).toNat := fun k hk => by rw [List.getElem_drop]
      have ht1 : (L.drop (pos + 1)).length = L.length - (pos + 1) := List.length_drop
      obtain ⟨many, hmany⟩ : ∃ m, L[pos].toNat % 128 = m := ⟨_, rfl⟩
      have hml : many < 128 := by omega
      have hmod : (L[pos].toNat : Int) % 128 = (many : Int) := by omega
      have w1 : IntKind.i64.wrap ((L.length : Int) - (pos : Int)) = (L.length : Int) - (pos : Int) := IntWalk.i64_in _ (by omega)
      have w2 : IntKind.i64.wrap ((L.length : Int) - (pos : Int) - 1) = (L.length : Int) - (pos : Int) - 1 := IntWalk.i64_in _ (by omega)
      have w3 : IntKind.i64.wrap ((pos : Int) + 1) = (pos : Int) + 1 := IntWalk.i64_in _ (by omega)
      by_cases hm8 : many ≤ 8
      · by_cases hc1 : L[pos].toNat < 128
        · by_cases hmt : many ≤ L.length - (pos + 1)
          · by_cases hm0 : 0 < many
            · skip
              obtain ⟨ad4, hA4, _, hcell2⟩ := hR.at_ (pos + 1) (by omega)
              cases hA4
              have ht0 : ∀ h, (L.drop (pos + 1))[0]'h = L[pos + 1] := fun h => by rw [List.getElem_drop]
              have j0 : (0 : Int) ≤ (pos : Int) + 1 := by omega
              have j1 : (pos : Int) + 1 < (L.length : Int) := by omega
              have j2 : ((pos : Int) + 1).toNat = pos + 1 := by omega
              have hb2 := L[pos + 1].toNat_lt
              obtain ⟨b0, hb0⟩ : ∃ b, L[pos + 1].toNat = b := ⟨_, rfl⟩
              rw [hb0] at hcell2 hb2
              rw [add_succ] at hcell2
              by_cases hz : b0 = 0
              · skip
                rw [hdrop, numOk_no hmany (by rw [headD_get (by omega), ht0]; omega)]
                have d2 : decide ((8 : Int) < (many : Int)) = false := decide_eq_false (by omega)
                have d3 : decide ((128 : Int) ≤ (L[pos].toNat : Int)) = false := decide_eq_false (by omega)
                have d4 : ((many : Int) == 0) = false := by rw [beq_eq_false_iff_ne]; omega
                have d5 : (0 : Int) < (many : Int) := by omega
                have d6 : decide ((L.length : Int) - (pos : Int) - 1 < (many : Int)) = false := decide_eq_false (by omega)
                have d7 : ((b0 : Int) == 0) = true := by rw [beq_iff_eq]; omega
                go_enter Try.func16, Try.ntmps16
                go_wp2_with fail
                go_quiet (fail)
                go_wp2_with fail
                go_quiet (fail)
                go_wp2_with fail
                go_quiet (fail)
                go_wp2
                go_ret
                exact ⟨_, rfl, (hR.drewN _).spoil.1, (only_drewN _ (hR.drewN _).spoil.2)⟩
              · by_cases h8 : many = 8
                · by_cases hs : b0 < 128
                  · skip
                    rw [hdrop, numOk_yes hmany (by rw [headD_get (by omega), ht0]; omega)]
                    rw [if_pos (by omega)]
                    have hbd := valL_bound (L.drop (pos + 1)) many
                    have HB := Lib.hid (fun k => hbd k hm8 (by omega) (fun e hl => by rw [ht0]; omega))
                    have HV := Lib.hid (valL_snoc (L.drop (pos + 1)))
                    have HT := Lib.hid htk
                    clear hbd htk ht0
                    have d2 : decide ((8 : Int) < (many : Int)) = false := decide_eq_false (by omega)
                    have d3 : decide ((128 : Int) ≤ (L[pos].toNat : Int)) = false := decide_eq_false (by omega)
                    have d4 : ((many : Int) == 0) = false := by rw [beq_eq_false_iff_ne]; omega
                    have d5 : (0 : Int) < (many : Int) := by omega
                    have d6 : decide ((L.length : Int) - (pos : Int) - 1 < (many : Int)) = false := decide_eq_false (by omega)
                    have d7 : ((b0 : Int) == 0) = false := by rw [beq_eq_false_iff_ne]; omega
                    have d8 : ((many : Int) == 8) = true := by rw [beq_iff_eq]; omega
                    clear h8
                    have d9 : decide ((128 : Int) ≤ (b0 : Int)) = false := decide_eq_false (by omega)
                    go_enter Try.func16, Try.ntmps16
                    go_wp2_with fail
                    go_quiet (fail)
                    go_wp2_with fail
                    go_quiet (fail)
                    go_wp2_with fail
                    go_quiet (fail)
                    go_wp2
                    go_loopg [6, 7] many (fun gk x6 x7 wr => ∃ k : Nat, k ≤ many ∧ gk = many - k ∧ x6 = .int .i64 ((valL ((L.drop (pos + 1)).take k) : Nat) : Int) ∧ x7 = .int .i64 ((k : Int) + 1) ∧ Rr wr g B (some ad) c L pos false ∧ Only g w wr)
                    case atStart => exact ⟨0, Nat.zero_le _, rfl, rfl, rfl, by first | exact hR.drewN _ | exact (hR.drewN _).drewN _, by first | exact (Only.refl _ _).drewN _ | exact ((Only.refl _ _).drewN _).drewN _⟩
                    case round =>
                      obtain ⟨k, hk, hgk, rfl, rfl, hRk, hOk⟩ := hrel
                      have HG := Lib.hid hgk
                      have e0 := hRk.c0
                      have e1 := hRk.c1
                      have ef := hRk.f1
                      clear hgk
                      by_cases hkm : k < many
                      · have hb9 := HB.out k hkm
                        have hsn := HV.out k (by omega)
                        rw [HT.out k (by omega)] at hsn
                        obtain ⟨ad3, hA3, _, hcx⟩ := hRk.at_ (pos + 1 + k) (by omega)
                        cases hA3
                        rw [hsn] at hb9
                        have hbk := L[pos + 1 + k].toNat_lt
                        generalize hx : valL ((L.drop (pos + 1)).take k) = x at *
                        have HX := Lib.hid hsn
                        generalize L[pos + 1 + k].toNat = b at *
                        clear hsn hx
                        have tn : ((pos : Int) + ((k : Int) + 1)).toNat = pos + 1 + k := by omega
                        have tl : (0 : Int) ≤ (pos : Int) + ((k : Int) + 1) := by omega
                        have tu : (pos : Int) + ((k : Int) + 1) < (L.length : Int) := by omega
                        have wa : IntKind.i64.wrap ((x : Int) * 256) = (x : Int) * 256 := IntWalk.i64_in _ (by omega)
                        have wb : IntKind.i64.wrap ((pos : Int) + ((k : Int) + 1)) = (pos : Int) + ((k : Int) + 1) := IntWalk.i64_in _ (by omega)
                        have wc : IntKind.i64.wrap ((x : Int) * 256 + (b : Int)) = (x : Int) * 256 + (b : Int) := IntWalk.i64_in _ (by omega)
                        go_wp2_with fail
                        go_quiet (fail)
                        go_wp2
                        go_roundg (many - (k + 1))
                        case measure => have := HG.out; omega
                        case rel => exact ⟨k + 1, by omega, rfl, by rw [HX.out]; go_num, by go_num, hRk.drewN _, hOk.drewN _⟩
                      · obtain rfl : k = many := by omega
                        have hb9 : valL ((L.drop (pos + 1)).take k) < 9223372036854775808 := by
                          cases k with
                          | zero => simp [valL]
                          | succ j => exact HB.out j (by omega)
                        have hmv := hRk.move (pos + 1 + k) (by omega)
                        rw [show ((pos + 1 + k : Nat) : Int) = (pos : Int) + 1 + (k : Int) by omega] at hmv
                        have hdd := Lib.hid (show L.drop (pos + 1 + k) = (L.drop (pos + 1)).drop k from (List.drop_drop ..).symm)
                        generalize hx : valL ((L.drop (pos + 1)).take k) = x at hb9 ⊢
                        have HX := Lib.hid hx
                        clear hx
                        go_wp2
                        go_ret
                        exact ⟨pos + 1 + k, by rw [HX.out]; rfl, hdd.out, hmv.1, Only.trans hOk hmv.2⟩
                  · skip
                    rw [hdrop, numOk_no hmany (by rw [headD_get (by omega), ht0]; omega)]
                    have d2 : decide ((8 : Int) < (many : Int)) = false := decide_eq_false (by omega)
                    have d3 : decide ((128 : Int) ≤ (L[pos].toNat : Int)) = false := decide_eq_false (by omega)
                    have d4 : ((many : Int) == 0) = false := by rw [beq_eq_false_iff_ne]; omega
                    have d5 : (0 : Int) < (many : Int) := by omega
                    have d6 : decide ((L.length : Int) - (pos : Int) - 1 < (many : Int)) = false := decide_eq_false (by omega)
                    have d7 : ((b0 : Int) == 0) = false := by rw [beq_eq_false_iff_ne]; omega
                    have d8 : ((many : Int) == 8) = true := by rw [beq_iff_eq]; omega
                    clear h8
                    have d9 : (128 : Int) ≤ (b0 : Int) := by omega
                    go_enter Try.func16, Try.ntmps16
                    go_wp2_with fail
                    go_quiet (fail)
                    go_wp2_with fail
                    go_quiet (fail)
                    go_wp2_with fail
                    go_quiet (fail)
                    go_wp2
                    go_ret
                    exact ⟨_, rfl, (hR.drewN _).spoil.1, (only_drewN _ (hR.drewN _).spoil.2)⟩
                · skip
                  rw [hdrop, numOk_yes hmany (by rw [headD_get (by omega), ht0]; omega)]
                  rw [if_pos (by omega)]
                  have hbd := valL_bound (L.drop (pos + 1)) many
                  have HB := Lib.hid (fun k => hbd k hm8 (by omega) (fun e hl => by rw [ht0]; omega))
                  have HV := Lib.hid (valL_snoc (L.drop (pos + 1)))
                  have HT := Lib.hid htk
                  clear hbd htk ht0
                  have d2 : decide ((8 : Int) < (many : Int)) = false := decide_eq_false (by omega)
                  have d3 : decide ((128 : Int) ≤ (L[pos].toNat : Int)) = false := decide_eq_false (by omega)
                  have d4 : ((many : Int) == 0) = false := by rw [beq_eq_false_iff_ne]; omega
                  have d5 : (0 : Int) < (many : Int) := by omega
                  have d6 : decide ((L.length : Int) - (pos : Int) - 1 < (many : Int)) = false := decide_eq_false (by omega)
                  have d7 : ((b0 : Int) == 0) = false := by rw [beq_eq_false_iff_ne]; omega
                  have d8 : ((many : Int) == 8) = false := by rw [beq_eq_false_iff_ne]; omega
                  go_enter Try.func16, Try.ntmps16
                  go_wp2_with fail
                  go_quiet (fail)
                  go_wp2_with fail
                  go_quiet (fail)
                  go_wp2_with fail
                  go_quiet (fail)
                  go_wp2
                  go_loopg [6, 7] many (fun gk x6 x7 wr => ∃ k : Nat, k ≤ many ∧ gk = many - k ∧ x6 = .int .i64 ((valL ((L.drop (pos + 1)).take k) : Nat) : Int) ∧ x7 = .int .i64 ((k : Int) + 1) ∧ Rr wr g B (some ad) c L pos false ∧ Only g w wr)
                  case atStart => exact ⟨0, Nat.zero_le _, rfl, rfl, rfl, by first | exact hR.drewN _ | exact (hR.drewN _).drewN _, by first | exact (Only.refl _ _).drewN _ | exact ((Only.refl _ _).drewN _).drewN _⟩
                  case round =>
                    obtain ⟨k, hk, hgk, rfl, rfl, hRk, hOk⟩ := hrel
                    have HG := Lib.hid hgk
                    have e0 := hRk.c0
                    have e1 := hRk.c1
                    have ef := hRk.f1
                    clear hgk
                    by_cases hkm : k < many
                    · have hb9 := HB.out k hkm
                      have hsn := HV.out k (by omega)
                      rw [HT.out k (by omega)] at hsn
                      obtain ⟨ad3, hA3, _, hcx⟩ := hRk.at_ (pos + 1 + k) (by omega)
                      cases hA3
                      rw [hsn] at hb9
                      have hbk := L[pos + 1 + k].toNat_lt
                      generalize hx : valL ((L.drop (pos + 1)).take k) = x at *
                      have HX := Lib.hid hsn
                      generalize L[pos + 1 + k].toNat = b at *
                      clear hsn hx
                      have tn : ((pos : Int) + ((k : Int) + 1)).toNat = pos + 1 + k := by omega
                      have tl : (0 : Int) ≤ (pos : Int) + ((k : Int) + 1) := by omega
                      have tu : (pos : Int) + ((k : Int) + 1) < (L.length : Int) := by omega
                      have wa : IntKind.i64.wrap ((x : Int) * 256) = (x : Int) * 256 := IntWalk.i64_in _ (by omega)
                      have wb : IntKind.i64.wrap ((pos : Int) + ((k : Int) + 1)) = (pos : Int) + ((k : Int) + 1) := IntWalk.i64_in _ (by omega)
                      have wc : IntKind.i64.wrap ((x : Int) * 256 + (b : Int)) = (x : Int) * 256 + (b : Int) := IntWalk.i64_in _ (by omega)
                      go_wp2_with fail
                      go_quiet (fail)
                      go_wp2
                      go_roundg (many - (k + 1))
                      case measure => have := HG.out; omega
                      case rel => exact ⟨k + 1, by omega, rfl, by rw [HX.out]; go_num, by go_num, hRk.drewN _, hOk.drewN _⟩
                    · obtain rfl : k = many := by omega
                      have hb9 : valL ((L.drop (pos + 1)).take k) < 9223372036854775808 := by
                        cases k with
                        | zero => simp [valL]
                        | succ j => exact HB.out j (by omega)
                      have hmv := hRk.move (pos + 1 + k) (by omega)
                      rw [show ((pos + 1 + k : Nat) : Int) = (pos : Int) + 1 + (k : Int) by omega] at hmv
                      have hdd := Lib.hid (show L.drop (pos + 1 + k) = (L.drop (pos + 1)).drop k from (List.drop_drop ..).symm)
                      generalize hx : valL ((L.drop (pos + 1)).take k) = x at hb9 ⊢
                      have HX := Lib.hid hx
                      clear hx
                      go_wp2
                      go_ret
                      exact ⟨pos + 1 + k, by rw [HX.out]; rfl, hdd.out, hmv.1, Only.trans hOk hmv.2⟩
            · skip
              rw [hdrop, numOk_yes hmany (by omega)]
              rw [if_pos (by omega)]
              have hbd := valL_bound (L.drop (pos + 1)) many
              have HB := Lib.hid (fun k => hbd k hm8 (by omega) (fun e hl => by omega))
              have HV := Lib.hid (valL_snoc (L.drop (pos + 1)))
              have HT := Lib.hid htk
              clear hbd htk
              have d2 : decide ((8 : Int) < (many : Int)) = false := decide_eq_false (by omega)
              have d3 : decide ((128 : Int) ≤ (L[pos].toNat : Int)) = false := decide_eq_false (by omega)
              have d4 : ((many : Int) == 0) = true := by rw [beq_iff_eq]; omega
              have d5 : decide ((0 : Int) < (many : Int)) = false := decide_eq_false (by omega)
              have d6 : decide ((L.length : Int) - (pos : Int) - 1 < (many : Int)) = false := decide_eq_false (by omega)
              have d8 : ((many : Int) == 8) = false := by rw [beq_eq_false_iff_ne]; omega
              go_enter Try.func16, Try.ntmps16
              go_wp2_with fail
              go_quiet (fail)
              go_wp2_with fail
              go_quiet (fail)
              go_wp2_with fail
              go_quiet (fail)
              go_wp2
              go_loopg [6, 7] many (fun gk x6 x7 wr => ∃ k : Nat, k ≤ many ∧ gk = many - k ∧ x6 = .int .i64 ((valL ((L.drop (pos + 1)).take k) : Nat) : Int) ∧ x7 = .int .i64 ((k : Int) + 1) ∧ Rr wr g B (some ad) c L pos false ∧ Only g w wr)
              case atStart => exact ⟨0, Nat.zero_le _, rfl, rfl, rfl, by first | exact hR.drewN _ | exact (hR.drewN _).drewN _, by first | exact (Only.refl _ _).drewN _ | exact ((Only.refl _ _).drewN _).drewN _⟩
              case round =>
                obtain ⟨k, hk, hgk, rfl, rfl, hRk, hOk⟩ := hrel
                have HG := Lib.hid hgk
                have e0 := hRk.c0
                have e1 := hRk.c1
                have ef := hRk.f1
                clear hgk
                by_cases hkm : k < many
                · omega
                · obtain rfl : k = many := by omega
                  have hb9 : valL ((L.drop (pos + 1)).take k) < 9223372036854775808 := by
                    cases k with
                    | zero => simp [valL]
                    | succ j => exact HB.out j (by omega)
                  have hmv := hRk.move (pos + 1 + k) (by omega)
                  rw [show ((pos + 1 + k : Nat) : Int) = (pos : Int) + 1 + (k : Int) by omega] at hmv
                  have hdd := Lib.hid (show L.drop (pos + 1 + k) = (L.drop (pos + 1)).drop k from (List.drop_drop ..).symm)
                  generalize hx : valL ((L.drop (pos + 1)).take k) = x at hb9 ⊢
                  have HX := Lib.hid hx
                  clear hx
                  go_wp2
                  go_ret
                  exact ⟨pos + 1 + k, by rw [HX.out]; rfl, hdd.out, hmv.1, Only.trans hOk hmv.2⟩
          · skip
            rw [hdrop, numOk_no hmany (by omega)]
            have d2 : decide ((8 : Int) < (many : Int)) = false := decide_eq_false (by omega)
            have d3 : decide ((128 : Int) ≤ (L[pos].toNat : Int)) = false := decide_eq_false (by omega)
            have d6 : (L.length : Int) - (pos : Int) - 1 < (many : Int) := by omega
            go_enter Try.func16, Try.ntmps16
            go_wp2_with fail
            go_quiet (fail)
            go_wp2_with fail
            go_quiet (fail)
            go_wp2_with fail
            go_quiet (fail)
            go_wp2
            go_ret
            exact ⟨_, rfl, (hR.drewN _).spoil.1, (only_drewN _ (hR.drewN _).spoil.2)⟩
        · by_cases hm0 : 0 < many
          · by_cases hmt : many ≤ L.length - (pos + 1)
            · skip
              obtain ⟨ad4, hA4, _, hcell2⟩ := hR.at_ (pos + 1) (by omega)
              cases hA4
              have ht0 : ∀ h, (L.drop (pos + 1))[0]'h = L[pos + 1] := fun h => by rw [List.getElem_drop]
              have j0 : (0 : Int) ≤ (pos : Int) + 1 := by omega
              have j1 : (pos : Int) + 1 < (L.length : Int) := by omega
              have j2 : ((pos : Int) + 1).toNat = pos + 1 := by omega
              have hb2 := L[pos + 1].toNat_lt
              obtain ⟨b0, hb0⟩ : ∃ b, L[pos + 1].toNat = b := ⟨_, rfl⟩
              rw [hb0] at hcell2 hb2
              rw [add_succ] at hcell2
              by_cases hz : b0 = 0
              · skip
                rw [hdrop, numOk_no hmany (by rw [headD_get (by omega), ht0]; omega)]
                have d2 : decide ((8 : Int) < (many : Int)) = false := decide_eq_false (by omega)
                have d3 : (128 : Int) ≤ (L[pos].toNat : Int) := by omega
                have d4 : ((many : Int) == 0) = false := by rw [beq_eq_false_iff_ne]; omega
                have d5 : (0 : Int) < (many : Int) := by omega
                have d6 : decide ((L.length : Int) - (pos : Int) - 1 < (many : Int)) = false := decide_eq_false (by omega)
                have d7 : ((b0 : Int) == 0) = true := by rw [beq_iff_eq]; omega
                go_enter Try.func16, Try.ntmps16
                go_wp2_with fail
                go_quiet (fail)
                go_wp2_with fail
                go_quiet (fail)
                go_wp2_with fail
                go_quiet (fail)
                go_wp2
                go_ret
                exact ⟨_, rfl, (hR.drewN _).spoil.1, (only_drewN _ (hR.drewN _).spoil.2)⟩
              · by_cases h8 : many = 8
                · by_cases hs : b0 < 128
                  · skip
                    rw [hdrop, numOk_yes hmany (by rw [headD_get (by omega), ht0]; omega)]
                    rw [if_neg (by omega)]
                    have hbd := valL_bound (L.drop (pos + 1)) many
                    have HB := Lib.hid (fun k => hbd k hm8 (by omega) (fun e hl => by rw [ht0]; omega))
                    have HV := Lib.hid (valL_snoc (L.drop (pos + 1)))
                    have HT := Lib.hid htk
                    clear hbd htk ht0
                    have d2 : decide ((8 : Int) < (many : Int)) = false := decide_eq_false (by omega)
                    have d3 : (128 : Int) ≤ (L[pos].toNat : Int) := by omega
                    have d4 : ((many : Int) == 0) = false := by rw [beq_eq_false_iff_ne]; omega
                    have d5 : (0 : Int) < (many : Int) := by omega
                    have d6 : decide ((L.length : Int) - (pos : Int) - 1 < (many : Int)) = false := decide_eq_false (by omega)
                    have d7 : ((b0 : Int) == 0) = false := by rw [beq_eq_false_iff_ne]; omega
                    have d8 : ((many : Int) == 8) = true := by rw [beq_iff_eq]; omega
                    clear h8
                    have d9 : decide ((128 : Int) ≤ (b0 : Int)) = false := decide_eq_false (by omega)
                    go_enter Try.func16, Try.ntmps16
                    go_wp2_with fail
                    go_quiet (fail)
                    go_wp2_with fail
                    go_quiet (fail)
                    go_wp2_with fail
                    go_quiet (fail)
                    go_wp2
                    go_loopg [6, 7] many (fun gk x6 x7 wr => ∃ k : Nat, k ≤ many ∧ gk = many - k ∧ x6 = .int .i64 ((valL ((L.drop (pos + 1)).take k) : Nat) : Int) ∧ x7 = .int .i64 ((k : Int) + 1) ∧ Rr wr g B (some ad) c L pos false ∧ Only g w wr)
                    case atStart => exact ⟨0, Nat.zero_le _, rfl, rfl, rfl, by first | exact hR.drewN _ | exact (hR.drewN _).drewN _, by first | exact (Only.refl _ _).drewN _ | exact ((Only.refl _ _).drewN _).drewN _⟩
                    case round =>
                      obtain ⟨k, hk, hgk, rfl, rfl, hRk, hOk⟩ := hrel
                      have HG := Lib.hid hgk
                      have e0 := hRk.c0
                      have e1 := hRk.c1
                      have ef := hRk.f1
                      clear hgk
                      by_cases hkm : k < many
                      · have hb9 := HB.out k hkm
                        have hsn := HV.out k (by omega)
                        rw [HT.out k (by omega)] at hsn
                        obtain ⟨ad3, hA3, _, hcx⟩ := hRk.at_ (pos + 1 + k) (by omega)
                        cases hA3
                        rw [hsn] at hb9
                        have hbk := L[pos + 1 + k].toNat_lt
                        generalize hx : valL ((L.drop (pos + 1)).take k) = x at *
                        have HX := Lib.hid hsn
                        generalize L[pos + 1 + k].toNat = b at *
                        clear hsn hx
                        have tn : ((pos : Int) + ((k : Int) + 1)).toNat = pos + 1 + k := by omega
                        have tl : (0 : Int) ≤ (pos : Int) + ((k : Int) + 1) := by omega
                        have tu : (pos : Int) + ((k : Int) + 1) < (L.length : Int) := by omega
                        have wa : IntKind.i64.wrap ((x : Int) * 256) = (x : Int) * 256 := IntWalk.i64_in _ (by omega)
                        have wb : IntKind.i64.wrap ((pos : Int) + ((k : Int) + 1)) = (pos : Int) + ((k : Int) + 1) := IntWalk.i64_in _ (by omega)
                        have wc : IntKind.i64.wrap ((x : Int) * 256 + (b : Int)) = (x : Int) * 256 + (b : Int) := IntWalk.i64_in _ (by omega)
                        go_wp2_with fail
                        go_quiet (fail)
                        go_wp2
                        go_roundg (many - (k + 1))
                        case measure => have := HG.out; omega
                        case rel => exact ⟨k + 1, by omega, rfl, by rw [HX.out]; go_num, by go_num, hRk.drewN _, hOk.drewN _⟩
                      · obtain rfl : k = many := by omega
                        have hb9 : valL ((L.drop (pos + 1)).take k) < 9223372036854775808 := by
                          cases k with
                          | zero => simp [valL]
                          | succ j => exact HB.out j (by omega)
                        have hmv := hRk.move (pos + 1 + k) (by omega)
                        rw [show ((pos + 1 + k : Nat) : Int) = (pos : Int) + 1 + (k : Int) by omega] at hmv
                        have hdd := Lib.hid (show L.drop (pos + 1 + k) = (L.drop (pos + 1)).drop k from (List.drop_drop ..).symm)
                        generalize hx : valL ((L.drop (pos + 1)).take k) = x at hb9 ⊢
                        have HX := Lib.hid hx
                        clear hx
                        go_wp2
                        go_ret
                        exact ⟨pos + 1 + k, by rw [HX.out]; rfl, hdd.out, hmv.1, Only.trans hOk hmv.2⟩
                  · skip
                    rw [hdrop, numOk_no hmany (by rw [headD_get (by omega), ht0]; omega)]
                    have d2 : decide ((8 : Int) < (many : Int)) = false := decide_eq_false (by omega)
                    have d3 : (128 : Int) ≤ (L[pos].toNat : Int) := by omega
                    have d4 : ((many : Int) == 0) = false := by rw [beq_eq_false_iff_ne]; omega
                    have d5 : (0 : Int) < (many : Int) := by omega
                    have d6 : decide ((L.length : Int) - (pos : Int) - 1 < (many : Int)) = false := decide_eq_false (by omega)
                    have d7 : ((b0 : Int) == 0) = false := by rw [beq_eq_false_iff_ne]; omega
                    have d8 : ((many : Int) == 8) = true := by rw [beq_iff_eq]; omega
                    clear h8
                    have d9 : (128 : Int) ≤ (b0 : Int) := by omega
                    go_enter Try.func16, Try.ntmps16
                    go_wp2_with fail
                    go_quiet (fail)
                    go_wp2_with fail
                    go_quiet (fail)
                    go_wp2_with fail
                    go_quiet (fail)
                    go_wp2
                    go_ret
                    exact ⟨_, rfl, (hR.drewN _).spoil.1, (only_drewN _ (hR.drewN _).spoil.2)⟩
                · skip
                  rw [hdrop, numOk_yes hmany (by rw [headD_get (by omega), ht0]; omega)]
                  rw [if_neg (by omega)]
                  have hbd := valL_bound (L.drop (pos + 1)) many
                  have HB := Lib.hid (fun k => hbd k hm8 (by omega) (fun e hl => by rw [ht0]; omega))
                  have HV := Lib.hid (valL_snoc (L.drop (pos + 1)))
                  have HT := Lib.hid htk
                  clear hbd htk ht0
                  have d2 : decide ((8 : Int) < (many : Int)) = false := decide_eq_false (by omega)
                  have d3 : (128 : Int) ≤ (L[pos].toNat : Int) := by omega
                  have d4 : ((many : Int) == 0) = false := by rw [beq_eq_false_iff_ne]; omega
                  have d5 : (0 : Int) < (many : Int) := by omega
                  have d6 : decide ((L.length : Int) - (pos : Int) - 1 < (many : Int)) = false := decide_eq_false (by omega)
                  have d7 : ((b0 : Int) == 0) = false := by rw [beq_eq_false_iff_ne]; omega
                  have d8 : ((many : Int) == 8) = false := by rw [beq_eq_false_iff_ne]; omega
                  go_enter Try.func16, Try.ntmps16
                  go_wp2_with fail
                  go_quiet (fail)
                  go_wp2_with fail
                  go_quiet (fail)
                  go_wp2_with fail
                  go_quiet (fail)
                  go_wp2
                  go_loopg [6, 7] many (fun gk x6 x7 wr => ∃ k : Nat, k ≤ many ∧ gk = many - k ∧ x6 = .int .i64 ((valL ((L.drop (pos + 1)).take k) : Nat) : Int) ∧ x7 = .int .i64 ((k : Int) + 1) ∧ Rr wr g B (some ad) c L pos false ∧ Only g w wr)
                  case atStart => exact ⟨0, Nat.zero_le _, rfl, rfl, rfl, by first | exact hR.drewN _ | exact (hR.drewN _).drewN _, by first | exact (Only.refl _ _).drewN _ | exact ((Only.refl _ _).drewN _).drewN _⟩
                  case round =>
                    obtain ⟨k, hk, hgk, rfl, rfl, hRk, hOk⟩ := hrel
                    have HG := Lib.hid hgk
                    have e0 := hRk.c0
                    have e1 := hRk.c1
                    have ef := hRk.f1
                    clear hgk
                    by_cases hkm : k < many
                    · have hb9 := HB.out k hkm
                      have hsn := HV.out k (by omega)
                      rw [HT.out k (by omega)] at hsn
                      obtain ⟨ad3, hA3, _, hcx⟩ := hRk.at_ (pos + 1 + k) (by omega)
                      cases hA3
                      rw [hsn] at hb9
                      have hbk := L[pos + 1 + k].toNat_lt
                      generalize hx : valL ((L.drop (pos + 1)).take k) = x at *
                      have HX := Lib.hid hsn
                      generalize L[pos + 1 + k].toNat = b at *
                      clear hsn hx
                      have tn : ((pos : Int) + ((k : Int) + 1)).toNat = pos + 1 + k := by omega
                      have tl : (0 : Int) ≤ (pos : Int) + ((k : Int) + 1) := by omega
                      have tu : (pos : Int) + ((k : Int) + 1) < (L.length : Int) := by omega
                      have wa : IntKind.i64.wrap ((x : Int) * 256) = (x : Int) * 256 := IntWalk.i64_in _ (by omega)
                      have wb : IntKind.i64.wrap ((pos : Int) + ((k : Int) + 1)) = (pos : Int) + ((k : Int) + 1) := IntWalk.i64_in _ (by omega)
                      have wc : IntKind.i64.wrap ((x : Int) * 256 + (b : Int)) = (x : Int) * 256 + (b : Int) := IntWalk.i64_in _ (by omega)
                      go_wp2_with fail
                      go_quiet (fail)
                      go_wp2
                      go_roundg (many - (k + 1))
                      case measure => have := HG.out; omega
                      case rel => exact ⟨k + 1, by omega, rfl, by rw [HX.out]; go_num, by go_num, hRk.drewN _, hOk.drewN _⟩
                    · obtain rfl : k = many := by omega
                      have hb9 : valL ((L.drop (pos + 1)).take k) < 9223372036854775808 := by
                        cases k with
                        | zero => simp [valL]
                        | succ j => exact HB.out j (by omega)
                      have hmv := hRk.move (pos + 1 + k) (by omega)
                      rw [show ((pos + 1 + k : Nat) : Int) = (pos : Int) + 1 + (k : Int) by omega] at hmv
                      have hdd := Lib.hid (show L.drop (pos + 1 + k) = (L.drop (pos + 1)).drop k from (List.drop_drop ..).symm)
                      generalize hx : valL ((L.drop (pos + 1)).take k) = x at hb9 ⊢
                      have HX := Lib.hid hx
                      clear hx
                      go_wp2
                      go_ret
                      exact ⟨pos + 1 + k, by rw [HX.out]; rfl, hdd.out, hmv.1, Only.trans hOk hmv.2⟩
            · skip
              rw [hdrop, numOk_no hmany (by omega)]
              have d2 : decide ((8 : Int) < (many : Int)) = false := decide_eq_false (by omega)
              have d3 : (128 : Int) ≤ (L[pos].toNat : Int) := by omega
              have d4 : ((many : Int) == 0) = false := by rw [beq_eq_false_iff_ne]; omega
              have d5 : (0 : Int) < (many : Int) := by omega
              have d6 : (L.length : Int) - (pos : Int) - 1 < (many : Int) := by omega
              go_enter Try.func16, Try.ntmps16
              go_wp2_with fail
              go_quiet (fail)
              go_wp2_with fail
              go_quiet (fail)
              go_wp2_with fail
              go_quiet (fail)
              go_wp2
              go_ret
              exact ⟨_, rfl, (hR.drewN _).spoil.1, (only_drewN _ (hR.drewN _).spoil.2)⟩
          · skip
            rw [hdrop, numOk_no hmany (by omega)]
            have d2 : decide ((8 : Int) < (many : Int)) = false := decide_eq_false (by omega)
            have d3 : (128 : Int) ≤ (L[pos].toNat : Int) := by omega
            have d4 : ((many : Int) == 0) = true := by rw [beq_iff_eq]; omega
            have d5 : decide ((0 : Int) < (many : Int)) = false := decide_eq_false (by omega)
            go_enter Try.func16, Try.ntmps16
            go_wp2_with fail
            go_quiet (fail)
            go_wp2_with fail
            go_quiet (fail)
            go_wp2_with fail
            go_quiet (fail)
            go_wp2
            go_ret
            exact ⟨_, rfl, (hR.drewN _).spoil.1, (only_drewN _ (hR.drewN _).spoil.2)⟩
      · skip
        rw [hdrop, numOk_no hmany (by omega)]
        have d2 : (8 : Int) < (many : Int) := by omega
        go_enter Try.func16, Try.ntmps16
        go_wp2_with fail
        go_quiet (fail)
        go_wp2_with fail
        go_quiet (fail)
        go_wp2_with fail
        go_quiet (fail)
        go_wp2
        go_ret
        exact ⟨_, rfl, (hR.drewN _).spoil.1, (only_drewN _ (hR.drewN _).spoil.2)⟩
    · have hd : L.drop pos = [] := List.drop_eq_nil_of_le (by omega)
      rw [hd]
      clear hd
      have d1 : (L.length : Int) ≤ (pos : Int) := by omega
      go_enter Try.func16, Try.ntmps16
      go_wp2_with fail
      go_quiet (fail)
      go_wp2
      go_ret
      exact ⟨_, rfl, (hR.drewN _).spoil.1, (only_drewN _ (hR.drewN _).spoil.2)⟩
end
end Go.Proofs.Ytnmiodjkomgfcaa
