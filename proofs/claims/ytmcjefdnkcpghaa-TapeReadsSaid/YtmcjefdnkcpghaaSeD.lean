/- THE WALK OF sector's Write. -/
import Derived.Test.YtmcjefdnkcpghaaSeC1
import Derived.Test.YtmcjefdnkcpghaaSeC2
import Derived.Test.YtmcjefdnkcpghaaSeC3
namespace Go.Proofs.Ytmcjefdnkcpghaa
open Go.RowKit
set_option maxRecDepth 100000 in
theorem write_any {w : World} {Z : Nat → Prop} {g : Nat} {d : Dv} (h : Dk w Z g d) (i : Int) {B : Nat} {v : Value} {m : List UInt8} (hv : Byt w B v m) (hw : d.writes + 1 ≤ 1000000000) :
    Calls Try.prog 35 #[.pointer (some ⟨g, 0, none⟩), .int .i64 i, v] w (DkPost w Z g (d.write i m).1 (d.write i m).2) := by
  have hc := can_any h i
  have hr : Kept (fun b => ¬ Z b) w w := Kept.refl _ _
  by_cases hz : d.can i = 0
  · obtain ⟨hi0, hi1, hdead⟩ := can_zero hz
    rw [hz] at hc
    by_cases h64 : m.length = 64
    · have hwr : d.write i m = (match d.fuse with
        | some (0, t) => ({ d with L := splice d.L (i.toNat * 64) (m.take t), fuse := none, dead := true }, 32)
        | some (a + 1, t) => ({ d with L := splice d.L (i.toNat * 64) (m.take 64), fuse := some (a, t), writes := d.writes + 1 }, 0)
        | none => ({ d with L := splice d.L (i.toNat * 64) (m.take 64), writes := d.writes + 1 }, 0)) := by
        unfold Dv.write; rw [if_neg (by simp [hz]), if_neg (by simp [h64])]; rfl
      rw [hwr]
      obtain ⟨k, rfl⟩ : ∃ k : Nat, i = (k : Int) := ⟨i.toNat, by omega⟩
      rw [Int.toNat_natCast]
      obtain ⟨P, cp, J, fv, ha⟩ := h.at_
      obtain ⟨n, L, fus, dead, wr⟩ := d
      simp only at hw hi1
      have hkn : k < n := by omega
      cases fus with
      | none =>
        obtain rfl : fv = .pointer none := ha.fus
        exact write_none ha hkn hv h64 hw hc
      | some p =>
        obtain ⟨a, t⟩ := p
        obtain ⟨F, rfl, hF⟩ := ha.fus
        cases a with
        | zero => exact write_torn ha hkn hv h64 hw hc
        | succ a => exact write_dec ha hkn hv h64 hw hc
    · have hwr : d.write i m = (d, 2) := by unfold Dv.write; rw [if_neg (by simp [hz]), if_pos h64]
      rw [hwr]
      obtain ⟨A, c, rfl, hcc, hm, _⟩ := id hv
      unfold maxLen at hm
      have e64 : ((m.length : Int) == 64) = false := by rw [beq_eq_false_iff_ne]; omega
      have e64' : ((m.length : Int) != 64) = true := by simp; omega
      clear hwr h64 hz
      go_enter Try.func35, Try.ntmps35
      go_wp2_with (go_at_call 89; refine hc.mono ?_; rintro e w' ⟨rfl, rfl⟩)
      go_ret
      exact ⟨rfl, h, hr⟩
  · have hwr : d.write i m = (d, d.can i) := by unfold Dv.write; rw [if_pos hz]
    rw [hwr]
    obtain ⟨A, c, rfl, hcc, hm, _⟩ := id hv
    generalize d.can i = z at *
    have e1 : (z == 0) = false := by rw [beq_eq_false_iff_ne]; exact hz
    have e2 : (z != 0) = true := by simp [hz]
    clear hwr hz
    go_enter Try.func35, Try.ntmps35
    go_wp2_with (go_at_call 89; refine hc.mono ?_; rintro e w' ⟨rfl, rfl⟩)
    go_ret
    exact ⟨rfl, h, hr⟩
end Go.Proofs.Ytmcjefdnkcpghaa
