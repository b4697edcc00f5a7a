/- THE WALK OF blob.Reader.take. -/
import Derived.Test.YtnmiodjkomgfcaaRda
namespace Go.Proofs.Ytnmiodjkomgfcaa
open Go.RowKit
/-- s[:k] and s[k:] of bytes -/
theorem byt_cut {w : World} {B : Nat} {A : Option Addr} {c : Nat} {l : List UInt8} (k : Nat) (h : Byt w B (.slice A l.length c) l) (hk : k ≤ l.length) :
    Byt w B (.slice A k c) (l.take k) ∧ Byt w B (.slice (if c = k then A else A.map (·.add k)) (l.length - k) (c - k)) (l.drop k) := by
  obtain ⟨A', c', hv, hc, hm, hr⟩ := h
  simp only [Value.slice.injEq, true_and] at hv
  obtain ⟨rfl, rfl⟩ := hv
  refine ⟨⟨A, c, by rw [List.length_take, Nat.min_eq_left hk], by rw [List.length_take]; omega, hm, fun h0 => ?_⟩, ⟨_, c - k, by rw [List.length_drop], by rw [List.length_drop]; omega, by omega, fun h0 => ?_⟩⟩
  · rw [List.length_take] at h0
    obtain ⟨ad, rfl, hb, hx⟩ := hr (by omega)
    refine ⟨ad, rfl, hb, fun j x hj => hx j x ?_⟩
    rw [List.getElem?_take] at hj
    split at hj
    · exact hj
    · cases hj
  · rw [List.length_drop] at h0
    obtain ⟨ad, rfl, hb, hx⟩ := hr (by omega)
    rw [if_neg (by omega)]
    refine ⟨ad.add k, rfl, by rw [addr_add_block]; exact hb, fun j x hj => ?_⟩
    rw [addr_add_add]
    exact hx _ x (by rw [← hj, List.getElem?_drop])
def TakePost (w : World) (g B : Nat) (l : List UInt8) (k : Nat) (e : Ending) (w' : World) : Prop :=
  ∃ r v', e = .returned r ∧ Byt w' B r (l.take k) ∧ Rd w' g B (l.drop k) false v' ∧ Only g w w'
set_option maxHeartbeats 2000000 in
theorem take_short {w : World} {g B : Nat} {l : List UInt8} {bad : Bool} {v : Value} (n : Int) (h : Rd w g B l bad v) (hno : ¬ (bad = false ∧ 0 ≤ n ∧ n ≤ l.length)) :
    Calls Try.prog 41 #[.pointer (some ⟨g, 0, none⟩), .int .i64 n] w fun e w' => e = .panicked shortP ∧ w = w' := by
  have c0 := h.c0
  have c2 := h.c2
  obtain ⟨A, c, rfl, hc, hm, _⟩ := h.byt
  unfold maxLen at hm
  by_cases hb : bad = false
  · subst hb
    by_cases hn : 0 ≤ n
    · have hn2 : ¬ n ≤ (l.length : Int) := fun e => hno ⟨rfl, hn, e⟩
      go_enter Try.func41, Try.ntmps41
      go_wp2_with (go_at_call 42; refine (must_false _).mono ?_; rintro e w' ⟨rfl, rfl⟩)
      exact ⟨rfl, rfl, rfl⟩
    · go_enter Try.func41, Try.ntmps41
      go_wp2_with (go_at_call 42; refine (must_false _).mono ?_; rintro e w' ⟨rfl, rfl⟩)
      exact ⟨rfl, rfl, rfl⟩
  · obtain rfl : bad = true := by simpa using hb
    go_enter Try.func41, Try.ntmps41
    go_wp2_with (go_at_call 42; refine (must_false _).mono ?_; rintro e w' ⟨rfl, rfl⟩)
    exact ⟨rfl, rfl, rfl⟩
set_option maxHeartbeats 2000000 in
theorem take_any {w : World} {g B : Nat} {l : List UInt8} {v : Value} (k : Nat) (hk : k ≤ l.length) (h : Rd w g B l false v) :
    Calls Try.prog 41 #[.pointer (some ⟨g, 0, none⟩), .int .i64 (k : Int)] w (TakePost w g B l k) := by
  have c0 := h.c0
  have c2 := h.c2
  have f0 := h.f0
  obtain ⟨A, c, rfl, hc, hm, hr⟩ := id h.byt
  obtain ⟨hb1, hb2⟩ := byt_cut k h.byt hk
  unfold maxLen at hm
  clear hr
  by_cases hck : c = k
  · subst hck
    rw [if_pos rfl, Nat.sub_self, show l.length - c = 0 by omega] at hb2
    have hs := h.store0 hb2
    have HB := hb1.setCell h.le (.slice A 0 0) (p := ⟨g, 0, none⟩)
    go_enter Try.func41, Try.ntmps41
    go_wp2_with (go_at_call 42; refine (must_true _).mono ?_; rintro e w' ⟨rfl, rfl⟩)
    go_ret
    exact ⟨_, _, rfl, HB, hs.1, hs.2⟩
  · rw [if_neg hck] at hb2
    have hs := h.store0 hb2
    have HB := hb1.setCell h.le (.slice (A.map (·.add k)) (l.length - k) (c - k)) (p := ⟨g, 0, none⟩)
    go_enter Try.func41, Try.ntmps41
    go_wp2_with (go_at_call 42; refine (must_true _).mono ?_; rintro e w' ⟨rfl, rfl⟩)
    go_ret
    exact ⟨_, _, rfl, HB, hs.1, hs.2⟩
end Go.Proofs.Ytnmiodjkomgfcaa
