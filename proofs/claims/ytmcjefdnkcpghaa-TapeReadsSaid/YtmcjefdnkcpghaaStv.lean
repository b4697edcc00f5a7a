/- A SLICE OF octroilaw09.Step AS A LIST. -/
import Derived.Test.YtmcjefdnkcpghaaMem
namespace Go.Proofs.Ytmcjefdnkcpghaa
open Go.RowKit
/-- a step: what it does, two numbers, the slice of bytes (the value, and what it reads as) -/
structure Stv where
  kind : Int
  i : Int
  n : Int
  bv : Value
  b : List UInt8
structure Stv.ok (o : Stv) : Prop where
  k1 : -9223372036854775808 ≤ o.kind
  k2 : o.kind ≤ 9223372036854775807
  i1 : -9223372036854775808 ≤ o.i
  i2 : o.i ≤ 9223372036854775807
  n1 : -9223372036854775808 ≤ o.n
  n2 : o.n ≤ 9223372036854775807
structure StAt (w : World) (B : Nat) (p : Addr) (o : Stv) : Prop where
  c0 : w.cell? p = some (.int .i64 o.kind)
  c1 : w.cell? ⟨p.block, p.off + 1, none⟩ = some (.int .i64 o.i)
  c2 : w.cell? ⟨p.block, p.off + 2, none⟩ = some (.int .i64 o.n)
  c3 : w.cell? ⟨p.block, p.off + 3, none⟩ = some o.bv
  by_ : Byt w B o.bv o.b
def Steps (w : World) (B : Nat) (v : Value) (ls : List Stv) : Prop :=
  ∃ (A : Option Addr) (c : Nat), v = .slice A ls.length c ∧ ls.length ≤ c ∧ c ≤ maxLen ∧
    (0 < ls.length → ∃ ad : Addr, A = some ad ∧ ad.block < B ∧ ∀ (j : Nat) (o : Stv), ls[j]? = some o → o.ok ∧ StAt w B (ad.add (j * 4)) o)
section
variable {w w' : World} {B : Nat} {v : Value} {ls : List Stv}
theorem Steps.keep (h : Steps w B v ls) (hk : ∀ p : Addr, p.block < B → w'.cell? p = w.cell? p) : Steps w' B v ls := by
  obtain ⟨A, c, hv, hc, hm, hr⟩ := h
  refine ⟨A, c, hv, hc, hm, fun h0 => ?_⟩
  obtain ⟨ad, hA, hb, hx⟩ := hr h0
  refine ⟨ad, hA, hb, fun j x hj => ⟨(hx j x hj).1, ?_⟩⟩
  have h := (hx j x hj).2
  have hp : (ad.add (j * 4)).block < B := by rw [addr_add_block]; exact hb
  exact ⟨(hk _ hp).trans h.c0, (hk ⟨_, _, none⟩ hp).trans h.c1, (hk ⟨_, _, none⟩ hp).trans h.c2, (hk ⟨_, _, none⟩ hp).trans h.c3, h.by_.keep hk⟩
theorem Steps.below (h : Steps w B v ls) (hb : Below B w w') : Steps w' B v ls := h.keep fun _ hp => hb.cell hp
end
end Go.Proofs.Ytmcjefdnkcpghaa
