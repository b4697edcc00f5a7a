/- THE WALK OF TapePages. -/
import Derived.Test.YtmcjefdnkcpghaaTbD
namespace Go.Proofs.Ytmcjefdnkcpghaa
open Go.RowKit
theorem needI_pages {seq : Nat} {l : List UInt8} {s : Int} (h : rightB s l.length = true) : ((pagesL seq l).length : Int) = needI l.length := by
  obtain ⟨_, _, h1, h2⟩ := rightB_yes h
  unfold pagesL needI
  rw [if_neg (by omega)]
  simp only [List.length_cons, List.length_append, List.length_nil, cutsL_len l.length l (Nat.le_refl _)]
  omega
theorem pages_cases (seq : Int) (l : List UInt8) (hl : l.length ≤ 5000) : ∃ P E, pagesR seq l = (P, E) ∧ P.length ≤ 1000 ∧ (E = 0 ∧ (P.length : Int) = needI l.length ∨ E = 2) := by
  unfold pagesR
  by_cases h : rightB seq l.length = true
  · rw [if_pos h]
    refine ⟨_, _, rfl, ?_, .inl ⟨rfl, needI_pages h⟩⟩
    have := needI_pages (seq := seq.toNat) h
    unfold needI at this
    split at this <;> omega
  · rw [if_neg h]; exact ⟨[], 2, rfl, by simp, .inr rfl⟩
set_option maxRecDepth 100000 in
set_option maxHeartbeats 4000000 in
theorem tpages_any {w : World} (seq : Int) (_hseq : -9223372036854775808 ≤ seq ∧ seq ≤ 9223372036854775807) (v : Value) (l : List UInt8) (hv : Byt w w.heap.size v l) (n : Int) (_hn : -9223372036854775808 ≤ n ∧ n ≤ 9223372036854775807) :
    Calls Try.prog 10 #[.int .i64 seq, v, .int .i64 n] w fun e w' => e = .returned (.bool true) ∧ Below w.heap.size w w' := by
  obtain ⟨A, c, rfl, hc, hm, hr0⟩ := id hv
  clear hr0
  unfold maxLen at hm
  by_cases h5 : 5000 < l.length
  · have e5 : decide ((5000 : Int) < (l.length : Int)) = true := decide_eq_true (by omega)
    clear hv
    go_enter Try.func10, Try.ntmps10
    go_wp2_with (first
      | (go_at_call 49; refine (lives10_any _).mono ?_; rintro e w9 ⟨rfl, hb9⟩))
    go_ret
    exact ⟨rfl, hb9⟩
  have h5' : l.length ≤ 5000 := by omega
  have e5 : decide ((5000 : Int) < (l.length : Int)) = false := decide_eq_false (by omega)
  obtain ⟨P, E, hPE, hPl, hE⟩ := pages_cases seq l h5'
  have hp := pages_any seq _ l _ hv (by omega)
  have hq := fun (W : World) (hW : Below w.heap.size w W) => rpages_any seq _ l _ (hv.below hW) (by omega)
  unfold PagesPost at hp hq
  rw [hPE] at hp hq
  simp only at hp hq
  have HQ := Lib.hid hq
  clear hPE hv hq h5 h5'
  rcases hE with ⟨rfl, hN⟩ | rfl
  · have HN := Lib.hid hN
    clear hN
    go_enter Try.func10, Try.ntmps10
    go_wp2_with (first
      | (go_at_call 50; (with_reducible refine hp.mono ?_); rintro e w1 ⟨v1, rfl, ho1, hb1⟩)
      | (go_at_call 51; (with_reducible refine (HQ.out _ hb1).mono ?_); rintro e w2 ⟨v2, rfl, ho2, hb2⟩))
    obtain ⟨A1, c1, rfl, _, _⟩ := ho1.byts.form
    obtain ⟨A2, c2, rfl, _, _⟩ := ho2.byts.form
    have HSM := Lib.hid (lsame_any (ho1.byts.below hb2) ho2.byts (by omega))
    have HB := Lib.hid (hb1.trans (hb2.mono hb1.size))
    rw [decide_eq_true (rfl : P = P)] at HSM
    clear ho1 ho2 hb1 hb2 hp
    go_wp2_with (first
      | (go_at_call 52; (with_reducible refine HSM.out.mono ?_); rintro e w3 ⟨rfl, hb3⟩)
      | (go_at_call 53; (with_reducible refine (need_any _ _).mono ?_); rintro e w4 ⟨rfl, rfl⟩; try rw [← HN.out])
      | (go_at_call 54; (with_reducible refine (rneed_any _ _).mono ?_); rintro e w4 ⟨rfl, rfl⟩)
      | (go_at_call 49; refine (lives10_any _).mono ?_; rintro e w9 ⟨rfl, hb9⟩))
    go_ret
    exact ⟨rfl, HB.out.trans ((hb3.trans (hb9.mono hb3.size)).mono HB.out.size)⟩
  · go_enter Try.func10, Try.ntmps10
    go_wp2_with (first
      | (go_at_call 50; (with_reducible refine hp.mono ?_); rintro e w1 ⟨v1, rfl, ho1, hb1⟩)
      | (go_at_call 51; (with_reducible refine (HQ.out _ hb1).mono ?_); rintro e w2 ⟨v2, rfl, ho2, hb2⟩))
    obtain ⟨A1, c1, rfl, _, _⟩ := ho1.byts.form
    obtain ⟨A2, c2, rfl, _, _⟩ := ho2.byts.form
    have HSM := Lib.hid (lsame_any (ho1.byts.below hb2) ho2.byts (by omega))
    have HB := Lib.hid (hb1.trans (hb2.mono hb1.size))
    rw [decide_eq_true (rfl : P = P)] at HSM
    clear ho1 ho2 hb1 hb2 hp
    go_wp2_with (first
      | (go_at_call 52; (with_reducible refine HSM.out.mono ?_); rintro e w3 ⟨rfl, hb3⟩)
      | (go_at_call 53; (with_reducible refine (need_any _ _).mono ?_); rintro e w4 ⟨rfl, rfl⟩; skip)
      | (go_at_call 54; (with_reducible refine (rneed_any _ _).mono ?_); rintro e w4 ⟨rfl, rfl⟩)
      | (go_at_call 49; refine (lives10_any _).mono ?_; rintro e w9 ⟨rfl, hb9⟩))
    go_ret
    exact ⟨rfl, HB.out.trans ((hb3.trans (hb9.mono hb3.size)).mono HB.out.size)⟩
end Go.Proofs.Ytmcjefdnkcpghaa
