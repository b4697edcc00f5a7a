/- MEMORY WORDS: a slice of slices of bytes that reads as a list of lists. -/
import Derived.Test.YtmcjefdnkcpghaaMem
namespace Go.Proofs.Ytmcjefdnkcpghaa
open Go.RowKit
/-- the slice v reads as a list of byte slices, all in blocks below B -/
def Byts (w : World) (B : Nat) (v : Value) (ls : List (List UInt8)) : Prop :=
  ∃ (A : Option Addr) (c : Nat), v = .slice A ls.length c ∧ ls.length ≤ c ∧ c ≤ maxLen ∧
    (0 < ls.length → ∃ ad : Addr, A = some ad ∧ ad.block < B ∧ ∀ (j : Nat) (l : List UInt8), ls[j]? = some l → ∃ u, w.cell? (ad.add j) = some u ∧ Byt w B u l)
section
variable {w w' : World} {B B' : Nat} {v : Value} {ls : List (List UInt8)}
theorem Byts.keep (h : Byts w B v ls) (hk : ∀ p : Addr, p.block < B → w'.cell? p = w.cell? p) : Byts w' B v ls := by
  obtain ⟨A, c, hv, hc, hm, hr⟩ := h
  refine ⟨A, c, hv, hc, hm, fun h0 => ?_⟩
  obtain ⟨ad, hA, hb, hx⟩ := hr h0
  refine ⟨ad, hA, hb, fun j x hj => ?_⟩
  obtain ⟨u, hu, hl⟩ := hx j x hj
  exact ⟨u, (hk _ (by rw [addr_add_block]; exact hb)).trans hu, hl.keep hk⟩
theorem Byts.more (h : Byts w B v ls) (hB : B ≤ B') : Byts w B' v ls := by
  obtain ⟨A, c, hv, hc, hm, hr⟩ := h
  refine ⟨A, c, hv, hc, hm, fun h0 => ?_⟩
  obtain ⟨ad, hA, hb, hx⟩ := hr h0
  refine ⟨ad, hA, by omega, fun j x hj => ?_⟩
  obtain ⟨u, hu, hl⟩ := hx j x hj
  exact ⟨u, hu, hl.more hB⟩
theorem Byts.below (h : Byts w B v ls) (hb : Below B w w') : Byts w' B v ls := h.keep fun _ hp => hb.cell hp
/-- whatever bound: a cell that is there lies in the heap -/
theorem Byts.heap (h : Byts w B v ls) : Byts w w.heap.size v ls := by
  obtain ⟨A, c, hv, hc, hm, hr⟩ := h
  refine ⟨A, c, hv, hc, hm, fun h0 => ?_⟩
  obtain ⟨ad, hA, hb, hx⟩ := hr h0
  refine ⟨ad, hA, ?_, fun j l hj => ?_⟩
  · obtain ⟨u, hu, _⟩ := hx 0 _ (List.getElem?_eq_getElem h0)
    have := World.block_lt_of_cell? w _ hu
    rwa [addr_add_block] at this
  · obtain ⟨u, hu, hl⟩ := hx j l hj
    exact ⟨u, hu, hl.heap⟩
end
end Go.Proofs.Ytmcjefdnkcpghaa
