/- THE WALKS OF THE REFERENCE'S READER (octroiref05.Reader): Left, Done, Flag. -/
import Derived.Test.YtnmiodjkomgfcaaRdn
import Derived.Deep.QuietTactic
import Derived.BigQuiet
namespace Go.Proofs.Ytnmiodjkomgfcaa
open Go.RowKit
/-- g is a reader of the reference's over L, which stands at 'at' -/
structure Rr (w : World) (g B : Nat) (A : Option Addr) (c : Nat) (L : List UInt8) (pos : Nat) (bad : Bool) : Prop where
  heap : w.heap[g]? = some (.cells #[.slice A L.length c, .int .i64 (pos : Int), .bool bad] 40 (0, 0))
  byt : Byt w B (.slice A L.length c) L
  le : B ≤ g
  pos_le : pos ≤ L.length
section
variable {w w' : World} {g B : Nat} {A : Option Addr} {c : Nat} {L : List UInt8} {pos : Nat} {bad : Bool}
theorem Rr.c0 (h : Rr w g B A c L pos bad) : w.cell? ⟨g, 0, none⟩ = some (.slice A L.length c) := by simp [World.cell?, h.heap]
theorem Rr.c1 (h : Rr w g B A c L pos bad) : w.cell? ⟨g, 1, none⟩ = some (.int .i64 (pos : Int)) := by simp [World.cell?, h.heap]
theorem Rr.c2 (h : Rr w g B A c L pos bad) : w.cell? ⟨g, 2, none⟩ = some (.bool bad) := by simp [World.cell?, h.heap]
theorem Rr.f1 (h : Rr w g B A c L pos bad) : w.frozen? ⟨g, 1, none⟩ = false := by simp [World.frozen?, h.heap]
theorem Rr.f2 (h : Rr w g B A c L pos bad) : w.frozen? ⟨g, 2, none⟩ = false := by simp [World.frozen?, h.heap]
theorem Rr.lt (h : Rr w g B A c L pos bad) : g < w.heap.size := lt_of_block h.heap
theorem Rr.drewN (h : Rr w g B A c L pos bad) (n : Nat) : Rr (w.drewN n) g B A c L pos bad := ⟨h.heap, h.byt, h.le, h.pos_le⟩
theorem Rr.kept {S : Nat → Prop} (h : Rr w g B A c L pos bad) (k : Kept S w w') (hg : S g) (hs : ∀ b, b < B → S b) : Rr w' g B A c L pos bad :=
  ⟨k.heap h.heap hg, h.byt.kept k (by have := h.lt; have := h.le; omega) hs, h.le, h.pos_le⟩
theorem Rr.below (h : Rr w g B A c L pos bad) (k : Below w.heap.size w w') : Rr w' g B A c L pos bad :=
  h.kept (S := fun _ => True) (Kept.ofBelow k) trivial fun _ _ => trivial
theorem Rr.move (h : Rr w g B A c L pos bad) (p : Nat) (hp : p ≤ L.length) : Rr (w.setCell ⟨g, 1, none⟩ (.int .i64 (p : Int))) g B A c L p bad ∧ Only g w (w.setCell ⟨g, 1, none⟩ (.int .i64 (p : Int))) :=
  ⟨⟨Lib.heap_setCell_same (i := 1) h.heap _, h.byt.setCell h.le _, h.le, hp⟩, (Kept.refl _ _).setCell _ _ (fun _ hS => hS rfl)⟩
theorem Rr.spoil (h : Rr w g B A c L pos bad) : Rr (w.setCell ⟨g, 2, none⟩ (.bool true)) g B A c L pos true ∧ Only g w (w.setCell ⟨g, 2, none⟩ (.bool true)) :=
  ⟨⟨Lib.heap_setCell_same (i := 2) h.heap _, h.byt.setCell h.le _, h.le, h.pos_le⟩, (Kept.refl _ _).setCell _ _ (fun _ hS => hS rfl)⟩
/-- what a method of the reference's reader tells and leaves -/
def QPost {α : Type} (val : α → Value) (zero : α) (w : World) (g B : Nat) (A : Option Addr) (c : Nat) (L : List UInt8) (bad : Bool) (r : Option (α × List UInt8)) (e : Ending) (w' : World) : Prop :=
  match bad, r with
  | false, some (x, l') => ∃ p, e = .returned (val x) ∧ L.drop p = l' ∧ Rr w' g B A c L p false ∧ Only g w w'
  | _, _ => ∃ p, e = .returned (val zero) ∧ Rr w' g B A c L p true ∧ Only g w w'
theorem only_drewN (n : Nat) (h : Only g (w.drewN n) w') : Only g w w' := ⟨h.os, h.tape, h.output, h.size, h.block⟩
theorem Only.drewN (h : Only g w w') (n : Nat) : Only g w (w'.drewN n) := ⟨h.os, h.tape, h.output, h.size, h.block⟩
theorem Only.refl (g : Nat) (w : World) : Only g w w := Kept.refl _ _
/-- the byte at which it stands -/
theorem Rr.at_ (h : Rr w g B A c L pos bad) (k : Nat) (hk : k < L.length) : ∃ ad, A = some ad ∧ ad.block ≠ g ∧ w.cell? (ad.add k) = some (.int .u8 (L[k].toNat : Int)) := by
  obtain ⟨A', c', hv, hcl, hm, hr⟩ := h.byt
  simp only [Value.slice.injEq, true_and] at hv
  obtain ⟨rfl, rfl⟩ := hv
  obtain ⟨ad, hA, hadb, hx⟩ := hr (by omega)
  exact ⟨ad, hA, by have := h.le; omega, hx k _ (List.getElem?_eq_getElem hk)⟩
theorem Rr.cap (h : Rr w g B A c L pos bad) : L.length ≤ c ∧ c ≤ 9223372036854775807 := by
  obtain ⟨A', c', hv, hcl, hm, hr⟩ := h.byt
  simp only [Value.slice.injEq, true_and] at hv
  obtain ⟨rfl, rfl⟩ := hv
  exact ⟨hcl, hm⟩
theorem qleft_any (hR : Rr w g B A c L pos bad) : Calls Try.prog 22 #[.pointer (some ⟨g, 0, none⟩)] w fun e w' => e = .returned (.int .i64 (if bad then 0 else ((L.length - pos : Nat) : Int))) ∧ Rr w' g B A c L pos bad ∧ Only g w w' := by
  have c0 := hR.c0
  have c1 := hR.c1
  have c2 := hR.c2
  have hp := hR.pos_le
  obtain ⟨hcl, hm⟩ := hR.cap
  cases bad with
  | true =>
    go_enter Try.func22, Try.ntmps22
    go_wp2
    go_ret
    exact ⟨rfl, hR, Only.refl _ _⟩
  | false =>
    go_enter Try.func22, Try.ntmps22
    go_wp2_with fail
    go_quiet (fail)
    go_wp2
    go_ret
    exact ⟨ret_int (by show _ = ((L.length - pos : Nat) : Int); omega), hR.drewN _, (Only.refl _ _).drewN _⟩
theorem qdone_any (hR : Rr w g B A c L pos bad) : Calls Try.prog 24 #[.pointer (some ⟨g, 0, none⟩)] w fun e w' => e = .returned (.bool (!bad && pos == L.length)) ∧ Rr w' g B A c L pos bad ∧ Only g w w' := by
  have c0 := hR.c0
  have c1 := hR.c1
  have c2 := hR.c2
  have hp := hR.pos_le
  obtain ⟨hcl, hm⟩ := hR.cap
  have hq : ((pos : Int) == (L.length : Int)) = (pos == L.length) := by rw [Bool.eq_iff_iff, beq_iff_eq, beq_iff_eq]; omega
  cases bad with
  | true =>
    go_enter Try.func24, Try.ntmps24
    go_wp2_with fail
    go_quiet (fail)
    go_wp2
    go_ret
    exact ⟨rfl, hR.drewN _, (Only.refl _ _).drewN _⟩
  | false =>
    go_enter Try.func24, Try.ntmps24
    go_wp2_with fail
    go_quiet (fail)
    go_wp2
    go_ret
    exact ⟨rfl, hR.drewN _, (Only.refl _ _).drewN _⟩
set_option maxHeartbeats 4000000 in
theorem qflag_any (hR : Rr w g B A c L pos bad) : Calls Try.prog 20 #[.pointer (some ⟨g, 0, none⟩)] w (QPost (fun b : Bool => .bool b) false w g B A c L bad (rdFlag (L.drop pos))) := by
  have c0 := hR.c0
  have c1 := hR.c1
  have c2 := hR.c2
  have f1 := hR.f1
  have f2 := hR.f2
  have hp := hR.pos_le
  obtain ⟨hcl, hm⟩ := hR.cap
  cases bad with
  | true =>
    go_enter Try.func20, Try.ntmps20
    go_wp2_with fail
    go_quiet (fail)
    go_wp2
    go_ret
    exact ⟨_, rfl, (hR.drewN _).spoil.1, only_drewN _ (hR.drewN _).spoil.2⟩
  | false =>
    by_cases hlt : pos < L.length
    · obtain ⟨ad, rfl, hadg, hcell⟩ := hR.at_ pos hlt
      have hd : L.drop pos = L[pos] :: L.drop (pos + 1) := List.drop_eq_getElem_cons hlt
      have i0 : (0 : Int) ≤ (pos : Int) := by omega
      have i1 : (pos : Int) < (L.length : Int) := by omega
      have i2 : (pos : Int) + 1 - 1 = (pos : Int) := by omega
      have d1 : decide ((L.length : Int) ≤ (pos : Int)) = false := decide_eq_false (by omega)
      have hb := L[pos].toNat_lt
      rw [hd]
      by_cases h1 : L[pos].toNat ≤ 1
      · have e1 : rdFlag (L[pos] :: L.drop (pos + 1)) = some (L[pos].toNat == 1, L.drop (pos + 1)) := if_pos h1
        rw [e1]
        clear e1 hd
        have HQ := Lib.hid (show ((L[pos].toNat : Int) == 1) = (L[pos].toNat == 1) by rw [Bool.eq_iff_iff, beq_iff_eq, beq_iff_eq]; omega)
        have d2 : decide ((1 : Int) < (L[pos].toNat : Int)) = false := decide_eq_false (by omega)
        generalize hx : L[pos].toNat = x at hb hcell HQ d2 h1 ⊢
        clear hx
        have hcs : ∀ (n : Nat) (u : Value), ((w.drewN n).setCell ⟨g, 1, none⟩ u).cell? (ad.add pos) = some (.int .u8 (x : Int)) := fun n u => (World.cell?_setCell_other (w.drewN n) ⟨g, 1, none⟩ (ad.add pos) u (by intro e; exact hadg (by rw [← addr_add_block ad pos, ← e]))).trans hcell
        go_enter Try.func20, Try.ntmps20
        go_wp2_with fail
        go_quiet (fail)
        go_wp2_with fail
        go_quiet (fail)
        go_wp2
        go_ret
        refine ⟨pos + 1, congrArg (fun b => Ending.returned (.bool b)) HQ.out, rfl, ((hR.drewN _).move (pos + 1) (by omega)).1.drewN _, (only_drewN _ ((hR.drewN _).move (pos + 1) (by omega)).2).drewN _⟩
      · have e1 : rdFlag (L[pos] :: L.drop (pos + 1)) = none := if_neg h1
        rw [e1]
        clear e1 hd
        have d2 : (1 : Int) < (L[pos].toNat : Int) := by omega
        generalize L[pos].toNat = x at *
        go_enter Try.func20, Try.ntmps20
        go_wp2_with fail
        go_quiet (fail)
        go_wp2
        go_ret
        exact ⟨_, rfl, (hR.drewN _).spoil.1, only_drewN _ (hR.drewN _).spoil.2⟩
    · have hd : L.drop pos = [] := List.drop_eq_nil_of_le (by omega)
      rw [hd]
      clear hd
      have d1 : (L.length : Int) ≤ (pos : Int) := by omega
      go_enter Try.func20, Try.ntmps20
      go_wp2_with fail
      go_quiet (fail)
      go_wp2
      go_ret
      exact ⟨_, rfl, (hR.drewN _).spoil.1, only_drewN _ (hR.drewN _).spoil.2⟩
end
end Go.Proofs.Ytnmiodjkomgfcaa
