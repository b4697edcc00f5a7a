/- THE WALKS OF blob.Reader's text, AND OF ITS METHODS. -/
import Derived.Test.YtnmiodjkomgfcaaRdm
namespace Go.Proofs.Ytnmiodjkomgfcaa
open Go.RowKit
section
variable {w : World} {g B : Nat} {v : Value} {l : List UInt8}
set_option maxHeartbeats 2000000 in
theorem rdt_any (h : Rd w g B l false v) : Calls Try.prog 35 #[.pointer (some ⟨g, 0, none⟩)] w (RdPost (fun s : ByteArray => .string s) w g B (rdText l)) := by
  have hnum := rdn_any h
  unfold rdText
  cases hr : rdNum l with
  | none =>
    rw [hr] at hnum
    clear hr
    go_enter Try.func35, Try.ntmps35
    go_wp2_with (go_at_call 33; refine hnum.mono ?_; rintro e w1 ⟨l1, v1, rfl, hr1, ho1⟩)
    exact ⟨rfl, _, _, rfl, hr1, ho1⟩
  | some p =>
    obtain ⟨n, t⟩ := p
    obtain ⟨r1, r2⟩ := rdNum_range hr
    rw [hr] at hnum
    clear hr
    show Calls Try.prog 35 #[.pointer (some ⟨g, 0, none⟩)] w (RdPost (fun s : ByteArray => .string s) w g B (if 0 ≤ n ∧ n ≤ 65536 ∧ n ≤ t.length then some (⟨(t.take n.toNat).toArray⟩, t.drop n.toNat) else none))
    by_cases h6 : n ≤ 65536
    · by_cases hok : 0 ≤ n ∧ n ≤ t.length
      · rw [if_pos ⟨hok.1, h6, hok.2⟩]
        obtain ⟨k, rfl⟩ : ∃ k : Nat, n = (k : Int) := ⟨n.toNat, by omega⟩
        rw [Int.toNat_natCast]
        go_enter Try.func35, Try.ntmps35
        go_wp2_with (first
          | (go_at_call 33; refine hnum.mono ?_; rintro e w1 ⟨v1, rfl, hr1, ho1⟩)
          | (go_at_call 42; refine (must_true _).mono ?_; rintro e w' ⟨rfl, rfl⟩)
          | (go_at_call 41; refine (take_any k (by omega) hr1).mono ?_; rintro e w2 ⟨r2, v2, rfl, hb2, hr2, ho2⟩; have hstr := hb2.str))
        go_ret
        exact ⟨_, rfl, hr2, Only.trans ho1 ho2⟩
      · rw [if_neg (fun e => hok ⟨e.1, e.2.2⟩)]
        go_enter Try.func35, Try.ntmps35
        go_wp2_with (first
          | (go_at_call 33; refine hnum.mono ?_; rintro e w1 ⟨v1, rfl, hr1, ho1⟩)
          | (go_at_call 42; refine (must_true _).mono ?_; rintro e w' ⟨rfl, rfl⟩)
          | (go_at_call 41; refine (take_short n hr1 (fun e => hok e.2)).mono ?_; rintro e w2 ⟨rfl, rfl⟩))
        exact ⟨rfl, _, _, rfl, hr1, ho1⟩
    · rw [if_neg (fun e => h6 e.2.1)]
      have h7 : decide (n ≤ 65536) = false := decide_eq_false h6
      go_enter Try.func35, Try.ntmps35
      go_wp2_with (first
        | (go_at_call 33; refine hnum.mono ?_; rintro e w1 ⟨v1, rfl, hr1, ho1⟩)
        | (go_at_call 42; refine (must_false _).mono ?_; rintro e w' ⟨rfl, rfl⟩))
      exact ⟨rfl, _, _, rfl, hr1, ho1⟩
/-- what a method of a reader tells and leaves: zero, and the reader bad, where nothing of the kind stands -/
def RPost {α : Type} (val : α → Value) (zero : α) (w : World) (g B : Nat) (bad : Bool) (r : Option (α × List UInt8)) (e : Ending) (w' : World) : Prop :=
  match bad, r with
  | false, some (x, l') => ∃ v', e = .returned (val x) ∧ Rd w' g B l' false v' ∧ Only g w w'
  | _, _ => ∃ l' v', e = .returned (val zero) ∧ Rd w' g B l' true v' ∧ Only g w w'
end
end Go.Proofs.Ytnmiodjkomgfcaa
