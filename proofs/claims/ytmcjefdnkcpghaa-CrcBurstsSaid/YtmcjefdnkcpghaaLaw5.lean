/- THE WALK OF CrcBursts. -/
import Derived.Test.YtmcjefdnkcpghaaLaw1
import Derived.Test.YtmcjefdnkcpghaaBu
import Derived.RegionTactic
import Derived.BigRegion
import Derived.Deep.LoopGhost
namespace Go.Proofs.Ytmcjefdnkcpghaa
open Go.RowKit
set_option maxRecDepth 100000 in
set_option maxHeartbeats 2000000 in
theorem crcBursts_walk (v : Value) (l : List UInt8) {B : Nat} {w : World} (hv : Byt w B v l) (at_ : Int) (_hat : -9223372036854775808 ≤ at_ ∧ at_ ≤ 9223372036854775807) (turn : Nat) (ht : turn < 4294967296) :
    Calls Try.prog 6 #[v, .int .i64 at_, .int .u32 turn] w (LawPost w) := by
  have hv1 := hv.heap
  clear hv
  obtain ⟨A, c, rfl, hc, hm, hr⟩ := id hv1
  unfold maxLen at hm
  clear hr
  by_cases hla : l.length ≤ 20000
  rotate_left
  · go_enter Try.func6, Try.ntmps6
    go_wp2_with (go_at_call 22; refine (lives06 _).mono ?_; rintro e w3 ⟨rfl, hb3⟩)
    go_ret
    exact ⟨rfl, hb3⟩
  by_cases hl4 : 4 ≤ l.length
  rotate_left
  · go_enter Try.func6, Try.ntmps6
    go_wp2_with (go_at_call 22; refine (lives06 _).mono ?_; rintro e w3 ⟨rfl, hb3⟩)
    go_ret
    exact ⟨rfl, hb3⟩
  by_cases ht0 : turn = 0
  · subst ht0
    go_enter Try.func6, Try.ntmps6
    go_wp2_with (go_at_call 22; refine (lives06 _).mono ?_; rintro e w3 ⟨rfl, hb3⟩)
    go_ret
    exact ⟨rfl, hb3⟩
  have htb : ((turn : Int) == 0) = false := by simp; omega
  go_enter Try.func6, Try.ntmps6
  go_wp2_with fail
  refine (wrap_any _ l _ _ hv1 (by omega)).mono ?_
  rintro e w1 ⟨x, rfl, hx1, hb1⟩
  have hbel1 := Lib.hid hb1
  obtain ⟨g, cap, rfl, hgb, hcap⟩ : ∃ g cap, x = .slice (some ⟨g, 0, none⟩) (wrapL l).length cap ∧ w.heap.size ≤ g ∧ (wrapL l).length ≤ cap ∧ cap ≤ maxLen := by
    rcases hx1.2 with ⟨_, h⟩ | ⟨g, cap, cur, rfl, hb, _, h1, h2, _⟩
    · rw [wrapL_length] at h; omega
    · exact ⟨g, cap, rfl, hb, h1, h2⟩
  obtain ⟨hcap1, hcap2⟩ := hcap
  unfold maxLen at hcap2
  rw [wrapL_length] at hcap1 hx1 ⊢
  have HX := Lib.hid hx1
  clear hx1 hb1
  go_wp2_with fail
  obtain ⟨p, hp, hpl⟩ : ∃ p : Nat, wrap64 (32 + wrap64 ((IntKind.u64.wrap at_).tmod (8 * ↑l.length - 31))) = ((32 + p : Nat) : Int) ∧ p + 32 ≤ 8 * l.length := by
    have h0 : 0 ≤ IntKind.u64.wrap at_ := by rw [IntKind.wrap_u64]; omega
    rw [Int.tmod_eq_emod_of_nonneg h0]
    generalize IntKind.u64.wrap at_ = u at h0
    have h1 := Int.emod_nonneg u (show (8 * (l.length : Int) - 31) ≠ 0 by omega)
    have h2 := Int.emod_lt_of_pos u (show 0 < (8 * (l.length : Int) - 31) by omega)
    refine ⟨(u % (8 * (l.length : Int) - 31)).toNat, ?_, by omega⟩
    generalize u % (8 * (l.length : Int) - 31) = m at *
    unfold wrap64
    omega
  rw [hp]
  clear hp
  obtain ⟨f, hf⟩ : ∃ f, f = 32 + p := ⟨_, rfl⟩
  rw [← hf]
  have HF := Lib.hid hf
  have hf1 : f + 32 ≤ 8 * l.length + 32 := by omega
  clear hf
  go_loopg [43] 32 (fun gh s wr => ∃ i : Nat, i ≤ 32 ∧ gh = 32 - i ∧ s = .int .i64 (i : Int) ∧ Own wr w.heap.size (.slice (some ⟨g, 0, none⟩) (l.length + 4) cap) (mixL (wrapL l) ((turn % 2 ^ i) * 2 ^ f)) ∧ Below w.heap.size w wr)
  case atStart => exact ⟨0, by omega, rfl, rfl, by simp [Nat.mod_one, mixL_zero]; exact HX.out, hbel1.out⟩
  case round =>
    obtain ⟨i, hi, hg, rfl, hown, hbel⟩ := hrel
    have HG := Lib.hid hg
    clear hg
    by_cases h : i < 32
    · have e1 : bits .and .u32 ((turn : Int) / 2 ^ i) 1 = ((turn / 2 ^ i % 2 : Nat) : Int) := by
        have := and32_1 (turn / 2 ^ i) (Nat.lt_of_le_of_lt (Nat.div_le_self _ _) ht)
        rw [← this]; simp
      have hlow := low_bits turn i
      by_cases hbit : turn / 2 ^ i % 2 = 1
      · rw [hbit] at e1
        rw [if_pos hbit] at hlow
        have hsx := shift_xor (turn % 2 ^ i) i f
        rw [← hlow] at hsx
        have HSX := Lib.hid hsx
        clear hsx hlow hbit
        generalize turn % 2 ^ i * 2 ^ f = N at *
        have hlen : (mixL (wrapL l) N).length = l.length + 4 := by rw [mixL_length, wrapL_length]
        have hq : (f + i) / 8 < l.length + 4 := by omega
        have hcell := World.ownsRow.cellAt (j := (f + i) / 8) (by unfold Own at hown; rw [hlen] at hown; exact hown) (by omega)
        have hfr := World.ownsRow.frozenAt (by unfold Own at hown; rw [hlen] at hown; exact hown) ((f + i) / 8)
        rw [List.getElem?_map, List.getElem?_eq_getElem (by omega)] at hcell
        have HC : wr.cell? ⟨g, (f + i) / 8, none⟩ = some (.int .u8 ((mixL (wrapL l) N)[(f + i) / 8].toNat : Int)) := hcell
        clear hcell
        have hb := (mixL (wrapL l) N)[(f + i) / 8].toNat_lt
        generalize hbb : (mixL (wrapL l) N)[(f + i) / 8] = b at *
        have HBB := Lib.hid hbb
        clear hbb
        have g1 : (0 : Int) ≤ ((f : Int) + i) / 8 := by omega
        have g2 : ((f : Int) + i) / 8 < (l.length : Int) + 4 := by omega
        go_wp2_with fail
        go_region
        go_wp2_with fail
        go_roundg (32 - (i + 1))
        case measure => have := HG.out; omega
        case rel =>
          have hval : bits .xor .u8 (b.toNat : Int) (2 ^ ((f + i) % 8) % 256) = ((b ^^^ UInt8.ofNat (2 ^ ((f + i) % 8))).toNat : Int) := by
            have h1 := u8_xor_nat b.toNat (2 ^ ((f + i) % 8) % 256) b.toNat_lt (Nat.mod_lt _ (by decide))
            rw [UInt8.toNat_xor, UInt8.toNat_ofNat', ← h1]
            simp
          have hst := World.ownsRow.stored (by unfold Own at hown; rw [hlen] at hown; exact hown) ((f + i) / 8) (bV (b ^^^ UInt8.ofNat (2 ^ ((f + i) % 8))))
          have hnew : mixL (wrapL l) (turn % 2 ^ (i + 1) * 2 ^ f) = (mixL (wrapL l) N).set ((f + i) / 8) (b ^^^ UInt8.ofNat (2 ^ ((f + i) % 8))) := by
            have hm := mixL_bit (wrapL l) N ((f + i) / 8) ((f + i) % 8) (Nat.mod_lt _ (by decide)) (by omega)
            rw [Nat.div_add_mod, HBB.out] at hm
            rw [HSX.out, hm]
          refine ⟨i + 1, by omega, rfl, by go_num, ?_, (hbel.setCell (by exact hgb) _).drew⟩
          rw [hnew, hval]
          unfold Own
          rw [List.length_set, hlen, List.map_set]
          exact hst.1
      · have hz : turn / 2 ^ i % 2 = 0 := by omega
        rw [hz] at e1
        rw [if_neg hbit] at hlow
        have HL := Lib.hid hlow
        clear hlow hbit hz
        go_wp2_with fail
        go_roundg (32 - (i + 1))
        case measure => have := HG.out; omega
        case rel => exact ⟨i + 1, by omega, rfl, by go_num, by rw [HL.out]; exact hown, hbel⟩
    · obtain rfl : i = 32 := by omega
      have hm32 : turn % 2 ^ 32 * 2 ^ f = turn * 2 ^ p * 2 ^ 32 := by
        rw [Nat.mod_eq_of_lt ht, HF.out, Nat.pow_add, Nat.mul_comm (2 ^ 32), Nat.mul_assoc]
      have hmix : mixL (wrapL l) (turn % 2 ^ 32 * 2 ^ f) = be4 (Crc.on 0 (nats l)) ++ mixL l (turn * 2 ^ p) := by
        rw [hm32]; exact mixL_wrap _ _ rfl _
      rw [hmix] at hown
      have hb5 := burst l turn p ht ht0 hpl
      have hne : Crc.on 0 (nats ((be4 (Crc.on 0 (nats l)) ++ mixL l (turn * 2 ^ p)).drop 4)) ≠ wantL (be4 (Crc.on 0 (nats l)) ++ mixL l (turn * 2 ^ p)) := by
        have h1 : (be4 (Crc.on 0 (nats l)) ++ mixL l (turn * 2 ^ p)).drop 4 = mixL l (turn * 2 ^ p) := by simp [be4]
        have h2 : wantL (be4 (Crc.on 0 (nats l)) ++ mixL l (turn * 2 ^ p)) = Crc.on 0 (nats l) := by
          unfold wantL
          rw [List.take_append_of_le_length (by simp [be4]), List.take_of_length_le (by simp [be4])]
          exact ((be4_eq _ (on0_lt l) (be4 (Crc.on 0 (nats l))) rfl).1 rfl).symm
        rw [h1, h2]
        exact hb5
      have hlen : (be4 (Crc.on 0 (nats l)) ++ mixL l (turn * 2 ^ p)).length = l.length + 4 := by simp [be4, mixL_length]
      clear hm32 hmix hb5
      generalize be4 (Crc.on 0 (nats l)) ++ mixL l (turn * 2 ^ p) = t at *
      have HL := Lib.hid hlen
      have HN := Lib.hid hne
      clear hlen hne
      go_wp2_with (first
        | (go_at_call 28; refine (unwrap_long _ t _ _ hown.byt (by have := HL.out; omega)).mono ?_; rintro e w3 ⟨_, h2, hb3⟩; rw [h2 HN.out])
        | (go_at_call 22; refine (lives06 _).mono ?_; rintro e w4 ⟨rfl, hb4⟩))
      go_ret
      exact ⟨rfl, (hbel.trans (hb3.mono hbel.size)).trans (hb4.mono (Nat.le_trans hbel.size hb3.size))⟩
end Go.Proofs.Ytmcjefdnkcpghaa
