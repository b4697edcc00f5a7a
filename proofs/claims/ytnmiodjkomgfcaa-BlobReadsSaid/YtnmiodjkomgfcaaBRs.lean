/- A READER AND THE REFERENCE'S, SIDE BY SIDE. -/
import Derived.Test.YtnmiodjkomgfcaaRdl
import Derived.Test.YtnmiodjkomgfcaaRft
import Derived.Test.YtnmiodjkomgfcaaLiv5
namespace Go.Proofs.Ytnmiodjkomgfcaa
open Go.RowKit
/-- both readers, over the same bytes; l is what is left, as long as none is bad -/
structure RS (w : World) (gr gq B : Nat) (A : Option Addr) (c : Nat) (L l : List UInt8) (badr badq : Bool) : Prop where
  rd : ∃ v, Rd w gr B l badr v
  rr : ∃ p, Rr w gq B A c L p badq ∧ (badq = false → L.drop p = l)
  ne : gr ≠ gq
section
variable {w w' : World} {gr gq B : Nat} {A : Option Addr} {c : Nat} {L l : List UInt8} {badr badq : Bool}
theorem RS.below (h : RS w gr gq B A c L l badr badq) (k : Below w.heap.size w w') : RS w' gr gq B A c L l badr badq := by
  obtain ⟨⟨v, h1⟩, ⟨p, h2, h3⟩, h4⟩ := h
  exact ⟨⟨v, h1.below k⟩, ⟨p, h2.below k, h3⟩, h4⟩
theorem rd_only {v : Value} (h : Rd w gr B l badr v) (k : Only gq w w') (hne : gr ≠ gq) (hB : B ≤ gq) : Rd w' gr B l badr v := h.kept k hne fun b hb => by omega
theorem rr_only {p : Nat} (h : Rr w gq B A c L p badq) (k : Only gr w w') (hne : gr ≠ gq) (hB : B ≤ gr) : Rr w' gq B A c L p badq := h.kept k (Ne.symm hne) fun b hb => by omega
/-- what a pair of readings leaves -/
def P1 {α : Type} (val : α → Value) (zero : α) (w : World) (gr gq B : Nat) (A : Option Addr) (c : Nat) (L l : List UInt8) (r : Option (α × List UInt8)) (e : Ending) (w' : World) : Prop :=
  match r with
  | some (x, l') => e = .returned (val x) ∧ (∃ v, Rd w' gr B l' false v) ∧ (∃ p, Rr w' gq B A c L p false ∧ L.drop p = l) ∧ gr ≠ gq ∧ Below B w w'
  | none => e = .returned (val zero) ∧ (∃ l' v, Rd w' gr B l' true v) ∧ (∃ p, Rr w' gq B A c L p false ∧ L.drop p = l) ∧ gr ≠ gq ∧ Below B w w'
def P2 {α : Type} (val : α → Value) (zero : α) (w : World) (gr gq B : Nat) (A : Option Addr) (c : Nat) (L : List UInt8) (r : Option (α × List UInt8)) (e : Ending) (w' : World) : Prop :=
  match r with
  | some (x, l') => e = .returned (val x) ∧ RS w' gr gq B A c L l' false false ∧ Below B w w'
  | none => e = .returned (val zero) ∧ (∃ l', RS w' gr gq B A c L l' true true) ∧ Below B w w'
end
section
variable {α : Type} {val : α → Value} {zero : α} {rdf : List UInt8 → Option (α × List UInt8)} {f1 f2 : FuncId}
variable {w : World} {gr gq B : Nat} {A : Option Addr} {c : Nat} {L l : List UInt8}
theorem first_good (hf : ∀ {w : World} {v : Value}, Rd w gr B l false v → Calls Try.prog f1 #[.pointer (some ⟨gr, 0, none⟩)] w (RPost val zero w gr B false (rdf l))) (h : RS w gr gq B A c L l false false) :
    Calls Try.prog f1 #[.pointer (some ⟨gr, 0, none⟩)] w (P1 val zero w gr gq B A c L l (rdf l)) := by
  obtain ⟨⟨v, h1⟩, ⟨p, h2, h3⟩, h4⟩ := h
  refine (hf h1).mono fun e w' he => ?_
  unfold RPost at he
  unfold P1
  cases hr : rdf l with
  | none =>
    rw [hr] at he
    obtain ⟨l', v', rfl, hd, ho⟩ := he
    exact ⟨rfl, ⟨l', v', hd⟩, ⟨p, rr_only h2 ho h4 h1.le, h3 rfl⟩, h4, (ho.below h1.lt).mono h1.le⟩
  | some q =>
    rw [hr] at he
    obtain ⟨v', rfl, hd, ho⟩ := he
    exact ⟨rfl, ⟨v', hd⟩, ⟨p, rr_only h2 ho h4 h1.le, h3 rfl⟩, h4, (ho.below h1.lt).mono h1.le⟩
/-- the second one, behind the first -/
theorem second_some {x : α} {l' : List UInt8} (hf : ∀ {w : World} {p : Nat}, Rr w gq B A c L p false → Calls Try.prog f2 #[.pointer (some ⟨gq, 0, none⟩)] w (QPost val zero w gq B A c L false (rdf (L.drop p)))) (hr : rdf l = some (x, l'))
    (h1 : ∃ v, Rd w gr B l' false v) (h2 : ∃ p, Rr w gq B A c L p false ∧ L.drop p = l) (h4 : gr ≠ gq) :
    Calls Try.prog f2 #[.pointer (some ⟨gq, 0, none⟩)] w fun e w' => e = .returned (val x) ∧ RS w' gr gq B A c L l' false false ∧ Below B w w' := by
  obtain ⟨v, h1⟩ := h1
  obtain ⟨p, h2, h3⟩ := h2
  have := hf h2
  rw [h3, hr] at this
  refine this.mono fun e w' he => ?_
  obtain ⟨p', rfl, hd, hq, ho⟩ := he
  exact ⟨rfl, ⟨⟨v, rd_only h1 ho h4 h2.le⟩, ⟨p', hq, fun _ => hd⟩, h4⟩, (ho.below h2.lt).mono h2.le⟩
theorem second_none (hf : ∀ {w : World} {p : Nat}, Rr w gq B A c L p false → Calls Try.prog f2 #[.pointer (some ⟨gq, 0, none⟩)] w (QPost val zero w gq B A c L false (rdf (L.drop p)))) (hr : rdf l = none)
    (h1 : ∃ l' v, Rd w gr B l' true v) (h2 : ∃ p, Rr w gq B A c L p false ∧ L.drop p = l) (h4 : gr ≠ gq) :
    Calls Try.prog f2 #[.pointer (some ⟨gq, 0, none⟩)] w fun e w' => e = .returned (val zero) ∧ (∃ l', RS w' gr gq B A c L l' true true) ∧ Below B w w' := by
  obtain ⟨l', v, h1⟩ := h1
  obtain ⟨p, h2, h3⟩ := h2
  have := hf h2
  rw [h3, hr] at this
  refine this.mono fun e w' he => ?_
  obtain ⟨p', rfl, hq, ho⟩ := he
  exact ⟨rfl, ⟨l', ⟨v, rd_only h1 ho h4 h2.le⟩, ⟨p', hq, fun e => by cases e⟩, h4⟩, (ho.below h2.lt).mono h2.le⟩
theorem first_bad {r : Option (α × List UInt8)} (hf : ∀ {w : World} {v : Value}, Rd w gr B l true v → Calls Try.prog f1 #[.pointer (some ⟨gr, 0, none⟩)] w (RPost val zero w gr B true r)) (h : RS w gr gq B A c L l true true) :
    Calls Try.prog f1 #[.pointer (some ⟨gr, 0, none⟩)] w fun e w' => e = .returned (val zero) ∧ (∃ l', RS w' gr gq B A c L l' true true) ∧ Below B w w' := by
  obtain ⟨⟨v, h1⟩, ⟨p, h2, h3⟩, h4⟩ := h
  refine (hf h1).mono fun e w' he => ?_
  obtain ⟨l', v', rfl, hd, ho⟩ := he
  exact ⟨rfl, ⟨l', ⟨v', hd⟩, ⟨p, rr_only h2 ho h4 h1.le, fun e => by cases e⟩, h4⟩, (ho.below h1.lt).mono h1.le⟩
theorem second_bad {r : Nat → Option (α × List UInt8)} (hf : ∀ {w : World} {p : Nat}, Rr w gq B A c L p true → Calls Try.prog f2 #[.pointer (some ⟨gq, 0, none⟩)] w (QPost val zero w gq B A c L true (r p))) (h : RS w gr gq B A c L l true true) :
    Calls Try.prog f2 #[.pointer (some ⟨gq, 0, none⟩)] w fun e w' => e = .returned (val zero) ∧ (∃ l', RS w' gr gq B A c L l' true true) ∧ Below B w w' := by
  obtain ⟨⟨v, h1⟩, ⟨p, h2, h3⟩, h4⟩ := h
  refine (hf h2).mono fun e w' he => ?_
  obtain ⟨p', rfl, hq, ho⟩ := he
  exact ⟨rfl, ⟨l, ⟨v, rd_only h1 ho h4 h2.le⟩, ⟨p', hq, fun e => by cases e⟩, h4⟩, (ho.below h2.lt).mono h2.le⟩
/-- Left and Done of both -/
theorem left1 {bad : Bool} (h : RS w gr gq B A c L l bad bad) : Calls Try.prog 21 #[.pointer (some ⟨gr, 0, none⟩)] w fun e w' => e = .returned (.int .i64 (if bad then 0 else (l.length : Int))) ∧ w = w' := by
  obtain ⟨⟨v, h1⟩, _, _⟩ := h
  exact mleft_any h1
theorem left2 {bad : Bool} (h : RS w gr gq B A c L l bad bad) : Calls Try.prog 22 #[.pointer (some ⟨gq, 0, none⟩)] w fun e w' => e = .returned (.int .i64 (if bad then 0 else (l.length : Int))) ∧ RS w' gr gq B A c L l bad bad ∧ Below B w w' := by
  obtain ⟨⟨v, h1⟩, ⟨p, h2, h3⟩, h4⟩ := h
  refine (qleft_any h2).mono fun e w' he => ?_
  obtain ⟨rfl, hq, ho⟩ := he
  refine ⟨?_, ⟨⟨v, rd_only h1 ho h4 h2.le⟩, ⟨p, hq, h3⟩, h4⟩, (ho.below h2.lt).mono h2.le⟩
  cases bad with
  | true => rfl
  | false => rw [← h3 rfl, List.length_drop]
theorem done1 {bad : Bool} (h : RS w gr gq B A c L l bad bad) : Calls Try.prog 23 #[.pointer (some ⟨gr, 0, none⟩)] w fun e w' => e = .returned (.int .i64 (if bad || decide (0 < l.length) then 10 else 0)) ∧ w = w' := by
  obtain ⟨⟨v, h1⟩, _, _⟩ := h
  exact mdone_any h1
theorem done2 {bad : Bool} (h : RS w gr gq B A c L l bad bad) : Calls Try.prog 24 #[.pointer (some ⟨gq, 0, none⟩)] w fun e w' => e = .returned (.bool (!(bad || decide (0 < l.length)))) ∧ Below B w w' := by
  obtain ⟨⟨v, h1⟩, ⟨p, h2, h3⟩, h4⟩ := h
  refine (qdone_any h2).mono fun e w' he => ?_
  obtain ⟨rfl, hq, ho⟩ := he
  refine ⟨?_, (ho.below h2.lt).mono h2.le⟩
  cases bad with
  | true => rfl
  | false =>
    have hl : l.length = L.length - p := by rw [← h3 rfl, List.length_drop]
    have hp := h2.pos_le
    have hx : decide (0 < l.length) = !(p == L.length) := by
      rw [Bool.eq_iff_iff, decide_eq_true_eq, Bool.not_eq_true', beq_eq_false_iff_ne]
      omega
    apply ret_bool
    rw [hx, Bool.false_or, Bool.not_not, Bool.not_false, Bool.true_and]
end
end Go.Proofs.Ytnmiodjkomgfcaa
