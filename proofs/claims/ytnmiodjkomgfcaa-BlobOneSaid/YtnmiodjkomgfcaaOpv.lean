/- A SLICE OF octroilaw05.Op AS A LIST. -/
import Derived.Test.YtnmiodjkomgfcaaRfw
namespace Go.Proofs.Ytnmiodjkomgfcaa
open Go.RowKit
structure Opv where
  kind : Int
  n : Int
  s : ByteArray
  b : Bool
structure Opv.ok (o : Opv) : Prop where
  k1 : -9223372036854775808 ≤ o.kind
  k2 : o.kind ≤ 9223372036854775807
  n1 : -9223372036854775808 ≤ o.n
  n2 : o.n ≤ 9223372036854775807
  sl : o.s.size ≤ maxLen
def Opv.val (o : Opv) : Value := .agg #[.int .i64 o.kind, .int .i64 o.n, .string o.s, .bool o.b]
structure OpAt (w : World) (p : Addr) (o : Opv) : Prop where
  c0 : w.cell? p = some (.int .i64 o.kind)
  c1 : w.cell? ⟨p.block, p.off + 1, none⟩ = some (.int .i64 o.n)
  c2 : w.cell? ⟨p.block, p.off + 2, none⟩ = some (.string o.s)
  c3 : w.cell? ⟨p.block, p.off + 3, none⟩ = some (.bool o.b)
def Ops (w : World) (B : Nat) (v : Value) (ls : List Opv) : Prop :=
  ∃ (A : Option Addr) (c : Nat), v = .slice A ls.length c ∧ ls.length ≤ c ∧ c ≤ maxLen ∧
    (0 < ls.length → ∃ ad : Addr, A = some ad ∧ ad.block < B ∧ ∀ (j : Nat) (o : Opv), ls[j]? = some o → o.ok ∧ OpAt w (ad.add (j * 4)) o)
section
variable {w w' : World} {B B' : Nat} {v : Value} {ls : List Opv}
theorem OpAt.keep {p : Addr} {o : Opv} (h : OpAt w p o) (hk : ∀ q : Addr, q.block = p.block → w'.cell? q = w.cell? q) : OpAt w' p o :=
  ⟨(hk p rfl).trans h.c0, (hk ⟨p.block, p.off + 1, none⟩ rfl).trans h.c1, (hk ⟨p.block, p.off + 2, none⟩ rfl).trans h.c2, (hk ⟨p.block, p.off + 3, none⟩ rfl).trans h.c3⟩
theorem Ops.keep (h : Ops w B v ls) (hk : ∀ p : Addr, p.block < B → w'.cell? p = w.cell? p) : Ops w' B v ls := by
  obtain ⟨A, c, hv, hc, hm, hr⟩ := h
  refine ⟨A, c, hv, hc, hm, fun h0 => ?_⟩
  obtain ⟨ad, hA, hb, hx⟩ := hr h0
  refine ⟨ad, hA, hb, fun j x hj => ⟨(hx j x hj).1, (hx j x hj).2.keep fun q hq => hk q ?_⟩⟩
  rw [hq, addr_add_block]; exact hb
theorem Ops.below (h : Ops w B v ls) (hb : Below B w w') : Ops w' B v ls := h.keep fun _ hp => hb.cell hp
theorem Ops.heap (h : Ops w B v ls) : Ops w w.heap.size v ls := by
  obtain ⟨A, c, hv, hc, hm, hr⟩ := h
  refine ⟨A, c, hv, hc, hm, fun h0 => ?_⟩
  obtain ⟨ad, hA, hb, hx⟩ := hr h0
  refine ⟨ad, hA, ?_, hx⟩
  have := World.block_lt_of_cell? w _ (hx 0 _ (List.getElem?_eq_getElem h0)).2.c0
  rwa [addr_add_block] at this
end
def LightPost (w : World) (ls : List Opv) (e : Ending) (w' : World) : Prop := ∃ b, e = .returned (.bool b) ∧ (b = true → ls.length ≤ 100) ∧ Below w.heap.size w w'
set_option maxHeartbeats 1000000 in
theorem light_any (v : Value) (ls : List Opv) (w : World) (B : Nat) (hv : Ops w B v ls) :
    Calls Try.prog 8 #[v] w (LightPost w ls) := by
  obtain ⟨A, c, rfl, hc, hm, hr⟩ := hv.heap
  unfold maxLen at hm
  have HR := Lib.hid hr
  clear hr hv
  go_enter Try.func8, Try.ntmps8
  go_wp2
  go_loopg [3, 5, 8] ls.length (fun g n p m wr => ∃ (k t : Nat), k ≤ ls.length ∧ g = ls.length - k ∧ n = .int .i64 (t : Int) ∧ t ≤ 262144 ∧ m = .int .i64 (k : Int) ∧ Below w.heap.size w wr)
  case atStart => exact ⟨0, 0, by omega, rfl, rfl, by omega, rfl, Below.refl _ _⟩
  case round =>
    obtain ⟨k, t, hk, hg, rfl, ht, rfl, hbel⟩ := hrel
    have HG := Lib.hid hg
    clear hg
    by_cases h : k < ls.length
    · obtain ⟨ad, rfl, hadB, hrow⟩ := HR.out (by omega)
      obtain ⟨hok, hat⟩ := hrow k ls[k] (List.getElem?_eq_getElem h)
      have hat' := hat.keep fun q hq => hbel.cell (p := q) (by rw [hq, addr_add_block]; exact hadB)
      clear hrow hat
      generalize ls[k] = o at *
      obtain ⟨c0, c1, c2, c3⟩ := hat'
      have hsl := hok.sl
      unfold maxLen at hsl
      obtain ⟨d, hd, hmin⟩ : ∃ d : Nat, d ≤ 131072 ∧ (if (131072 : Int) < (o.s.size : Int) then (131072 : Int) else (o.s.size : Int)) = (d : Int) := by
        by_cases h : o.s.size ≤ 131072
        · exact ⟨o.s.size, h, by rw [if_neg (by omega)]⟩
        · exact ⟨131072, by omega, by rw [if_pos (by omega)]; rfl⟩
      by_cases h6 : t + d ≤ 262144
      · go_wp2
        go_roundg (ls.length - (k + 1))
        case measure => have := HG.out; omega
        case rel => exact ⟨k + 1, t + d, by omega, rfl, by go_num, h6, by go_num, hbel.alloc hbel.size _⟩
      · go_wp2
        go_ret
        exact ⟨false, rfl, by simp, hbel.alloc hbel.size _⟩
    · obtain rfl : k = ls.length := by omega
      go_wp2
      go_ret
      exact ⟨_, rfl, by simp only [decide_eq_true_eq]; omega, hbel⟩
end Go.Proofs.Ytnmiodjkomgfcaa
