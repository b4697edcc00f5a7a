/- A SLICE OF octroilaw12.Cut AS A LIST. -/
import Derived.Test.YtmcjefdnkcpghaaMem
namespace Go.Proofs.Ytmcjefdnkcpghaa
open Go.RowKit
structure CutOk (o : Int × Int) : Prop where
  a : -9223372036854775808 ≤ o.1 ∧ o.1 ≤ 9223372036854775807
  t : -9223372036854775808 ≤ o.2 ∧ o.2 ≤ 9223372036854775807
def Cuts (w : World) (B : Nat) (v : Value) (ls : List (Int × Int)) : Prop :=
  ∃ (A : Option Addr) (c : Nat), v = .slice A ls.length c ∧ ls.length ≤ c ∧ c ≤ maxLen ∧
    (0 < ls.length → ∃ ad : Addr, A = some ad ∧ ad.block < B ∧ ∀ (j : Nat) (o : Int × Int), ls[j]? = some o → CutOk o ∧ w.cell? (ad.add (j * 2)) = some (.int .i64 o.1) ∧ w.cell? ⟨(ad.add (j * 2)).block, (ad.add (j * 2)).off + 1, none⟩ = some (.int .i64 o.2))
theorem Cuts.below {w w' : World} {B : Nat} {v : Value} {ls : List (Int × Int)} (h : Cuts w B v ls) (hb : Below B w w') : Cuts w' B v ls := by
  obtain ⟨A, c, hv, hc, hm, hr⟩ := h
  refine ⟨A, c, hv, hc, hm, fun h0 => ?_⟩
  obtain ⟨ad, hA, hbb, hx⟩ := hr h0
  refine ⟨ad, hA, hbb, fun j x hj => ⟨(hx j x hj).1, (hb.cell ?_).trans (hx j x hj).2.1, (hb.cell ?_).trans (hx j x hj).2.2⟩⟩
  · rw [addr_add_block]; exact hbb
  · show (ad.add (j * 2)).block < B
    rw [addr_add_block]; exact hbb
theorem Cuts.form {w : World} {B : Nat} {v : Value} {ls : List (Int × Int)} (h : Cuts w B v ls) : ∃ A c, v = .slice A ls.length c ∧ ls.length ≤ c ∧ c ≤ 9223372036854775807 := by
  obtain ⟨A, c, h1, h2, h3, _⟩ := h
  unfold maxLen at h3
  exact ⟨A, c, h1, h2, h3⟩
theorem Cuts.at_ {w : World} {B : Nat} {A : Option Addr} {c : Nat} {ls : List (Int × Int)} (h : Cuts w B (.slice A ls.length c) ls) (k : Nat) (hk : k < ls.length) : ∃ ad, A = some ad ∧ CutOk ls[k] ∧ w.cell? (ad.add (k * 2)) = some (.int .i64 ls[k].1) ∧ w.cell? ⟨(ad.add (k * 2)).block, (ad.add (k * 2)).off + 1, none⟩ = some (.int .i64 ls[k].2) := by
  obtain ⟨A', c', hv, _, _, hr⟩ := h
  cases hv
  obtain ⟨ad, hA, _, hx⟩ := hr (by omega)
  exact ⟨ad, hA, hx k _ (List.getElem?_eq_getElem hk)⟩
theorem Cuts.more {w : World} {B B' : Nat} {v : Value} {ls : List (Int × Int)} (h : Cuts w B v ls) (hB : B ≤ B') : Cuts w B' v ls := by
  obtain ⟨A, c, hv, hc, hm, hr⟩ := h
  refine ⟨A, c, hv, hc, hm, fun h0 => ?_⟩
  obtain ⟨ad, hA, hbb, hx⟩ := hr h0
  exact ⟨ad, hA, by omega, hx⟩
end Go.Proofs.Ytmcjefdnkcpghaa
