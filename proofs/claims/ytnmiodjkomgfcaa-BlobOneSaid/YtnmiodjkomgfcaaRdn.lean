/- THE WALKS OF blob.Reader's num, text, flag. -/
import Derived.Test.YtnmiodjkomgfcaaRdb
import Derived.Test.YtnmiodjkomgfcaaRdp
import Derived.Deep.LoopGhost
namespace Go.Proofs.Ytnmiodjkomgfcaa
open Go.RowKit
def RdPost {α : Type} (val : α → Value) (w : World) (g B : Nat) (r : Option (α × List UInt8)) (e : Ending) (w' : World) : Prop :=
  match r with
  | some (x, l') => ∃ v', e = .returned (val x) ∧ Rd w' g B l' false v' ∧ Only g w w'
  | none => ∃ l' v', e = .panicked shortP ∧ Rd w' g B l' false v' ∧ Only g w w'
section
variable {w : World} {g B : Nat} {l : List UInt8} {v : Value}
theorem rdn_bad (h : Rd w g B l true v) : Calls Try.prog 33 #[.pointer (some ⟨g, 0, none⟩)] w fun e w' => e = .panicked shortP ∧ w = w' := by
  go_enter Try.func33, Try.ntmps33
  go_wp2_with (go_at_call 41; refine (take_short 1 h (by simp)).mono ?_; rintro e w' ⟨rfl, rfl⟩)
  exact ⟨rfl, rfl, rfl⟩
theorem rdt_bad (h : Rd w g B l true v) : Calls Try.prog 35 #[.pointer (some ⟨g, 0, none⟩)] w fun e w' => e = .panicked shortP ∧ w = w' := by
  go_enter Try.func35, Try.ntmps35
  go_wp2_with (go_at_call 33; refine (rdn_bad h).mono ?_; rintro e w' ⟨rfl, rfl⟩)
  exact ⟨rfl, rfl, rfl⟩
theorem rdf_bad (h : Rd w g B l true v) : Calls Try.prog 37 #[.pointer (some ⟨g, 0, none⟩)] w fun e w' => e = .panicked shortP ∧ w = w' := by
  go_enter Try.func37, Try.ntmps37
  go_wp2_with (go_at_call 41; refine (take_short 1 h (by simp)).mono ?_; rintro e w' ⟨rfl, rfl⟩)
  exact ⟨rfl, rfl, rfl⟩
/-- the first byte of a slice of one -/
theorem byt_first {B : Nat} {r : Value} {h : UInt8} {t : List UInt8} (hb : Byt w B r (h :: t)) : ∃ ad c, r = .slice (some ad) (t.length + 1) c ∧ t.length + 1 ≤ c ∧ c ≤ maxLen ∧ ad.block < B ∧ w.cell? ad = some (.int .u8 (h.toNat : Int)) := by
  obtain ⟨A, c, rfl, hc, hm, hr⟩ := hb
  obtain ⟨ad, rfl, hadb, hx⟩ := hr (by simp)
  refine ⟨ad, c, rfl, by simpa using hc, hm, hadb, ?_⟩
  have := hx 0 h rfl
  simpa [Addr.add, bV] using this
set_option maxHeartbeats 2000000 in
theorem rdf_any (h : Rd w g B l false v) : Calls Try.prog 37 #[.pointer (some ⟨g, 0, none⟩)] w (RdPost (fun b : Bool => .bool b) w g B (rdFlag l)) := by
  cases l with
  | nil =>
    go_enter Try.func37, Try.ntmps37
    go_wp2_with (go_at_call 41; refine (take_short 1 h (by simp)).mono ?_; rintro e w' ⟨rfl, rfl⟩)
    exact ⟨rfl, _, _, rfl, h, Kept.refl _ _⟩
  | cons c t =>
    have htk := take_any 1 (by simp) h
    have hc := c.toNat_lt
    by_cases h1 : c.toNat ≤ 1
    · have e1 : rdFlag (c :: t) = some (c.toNat == 1, t) := if_pos h1
      rw [e1]
      clear e1
      have hi1 : (c.toNat : Int) ≤ 1 := by omega
      go_enter Try.func37, Try.ntmps37
      go_wp2_with (first
        | (go_at_call 41; refine htk.mono ?_; rintro e w1 ⟨r, v1, rfl, hb1, hr1, ho1⟩; obtain ⟨ad, cc, rfl, _, _, _, hcell⟩ := byt_first hb1)
        | (go_at_call 42; refine (must_true _).mono ?_; rintro e w' ⟨rfl, rfl⟩))
      go_ret
      exact ⟨v1, congrArg (fun b => Ending.returned (.bool b)) (show ((c.toNat : Int) == 1) = (c.toNat == 1) by rw [Bool.eq_iff_iff, beq_iff_eq, beq_iff_eq]; omega), by simpa using hr1, ho1⟩
    · have e1 : rdFlag (c :: t) = none := if_neg h1
      rw [e1]
      clear e1
      have hi1 : decide ((c.toNat : Int) ≤ 1) = false := decide_eq_false (by omega)
      go_enter Try.func37, Try.ntmps37
      go_wp2_with (first
        | (go_at_call 41; refine htk.mono ?_; rintro e w1 ⟨r, v1, rfl, hb1, hr1, ho1⟩; obtain ⟨ad, cc, rfl, _, _, _, hcell⟩ := byt_first hb1)
        | (go_at_call 42; refine (must_false _).mono ?_; rintro e w' ⟨rfl, rfl⟩))
      exact ⟨rfl, _, _, rfl, by simpa using hr1, ho1⟩
end
end Go.Proofs.Ytnmiodjkomgfcaa
