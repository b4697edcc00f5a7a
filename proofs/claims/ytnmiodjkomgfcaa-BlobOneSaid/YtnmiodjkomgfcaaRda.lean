/- THE WALKS OF blob.Reader: none, must, ends, take. -/
import Derived.Test.YtnmiodjkomgfcaaWrk
import Derived.Defers
import Derived.Recover
namespace Go.Proofs.Ytnmiodjkomgfcaa
open Go.RowKit
/-- g is a reader that Open made; l is what is left of its bytes -/
structure Rd (w : World) (g : Nat) (B : Nat) (l : List UInt8) (bad : Bool) (v : Value) : Prop where
  heap : w.heap[g]? = some (.cells #[v, .bool true, .bool bad] 55 (0, 0))
  byt : Byt w B v l
  le : B ≤ g
abbrev Only (g : Nat) (w w' : World) : Prop := Kept (fun k => k ≠ g) w w'
section
variable {w w' : World} {g B : Nat} {l : List UInt8} {bad : Bool} {v : Value}
theorem Rd.c0 (h : Rd w g B l bad v) : w.cell? ⟨g, 0, none⟩ = some v := by simp [World.cell?, h.heap]
theorem Rd.c1 (h : Rd w g B l bad v) : w.cell? ⟨g, 1, none⟩ = some (.bool true) := by simp [World.cell?, h.heap]
theorem Rd.c2 (h : Rd w g B l bad v) : w.cell? ⟨g, 2, none⟩ = some (.bool bad) := by simp [World.cell?, h.heap]
theorem Rd.f0 (h : Rd w g B l bad v) : w.frozen? ⟨g, 0, none⟩ = false := by simp [World.frozen?, h.heap]
theorem Rd.f2 (h : Rd w g B l bad v) : w.frozen? ⟨g, 2, none⟩ = false := by simp [World.frozen?, h.heap]
theorem Rd.lt (h : Rd w g B l bad v) : g < w.heap.size := lt_of_block h.heap
theorem Only.byt {B : Nat} {u : Value} {m : List UInt8} (k : Only g w w') (h : Byt w B u m) (hB : B ≤ g) (hg : g < w.heap.size) : Byt w' B u m := h.kept k (by omega) fun b hb => by omega
theorem Only.below (k : Only g w w') (hg : g < w.heap.size) : Below g w w' := k.toBelow (by omega) fun b hb => by omega
theorem Only.trans {w'' : World} (h : Only g w w') (k : Only g w' w'') : Only g w w'' := Kept.trans h k fun _ _ h => h
theorem Rd.below (h : Rd w g B l bad v) (k : Below w.heap.size w w') : Rd w' g B l bad v :=
  ⟨(k.block g h.lt).trans h.heap, h.byt.below (k.mono (by have := h.lt; have := h.le; omega)), h.le⟩
theorem Rd.kept {S : Nat → Prop} (h : Rd w g B l bad v) (k : Kept S w w') (hg : S g) (hs : ∀ b, b < B → S b) : Rd w' g B l bad v :=
  ⟨k.heap h.heap hg, h.byt.kept k (by have := h.lt; have := h.le; omega) hs, h.le⟩
theorem Rd.store0 (h : Rd w g B l bad v) {v' : Value} {l' : List UInt8} (hb : Byt w B v' l') : Rd (w.setCell ⟨g, 0, none⟩ v') g B l' bad v' ∧ Only g w (w.setCell ⟨g, 0, none⟩ v') :=
  ⟨⟨Lib.heap_setCell_same (i := 0) h.heap v', hb.setCell h.le v', h.le⟩, (Kept.refl _ _).setCell _ _ (fun _ hS => hS rfl)⟩
theorem Rd.store2 (h : Rd w g B l bad v) (b : Bool) : Rd (w.setCell ⟨g, 2, none⟩ (.bool b)) g B l b v ∧ Only g w (w.setCell ⟨g, 2, none⟩ (.bool b)) :=
  ⟨⟨Lib.heap_setCell_same (i := 2) h.heap (.bool b), h.byt.setCell h.le _, h.le⟩, (Kept.refl _ _).setCell _ _ (fun _ hS => hS rfl)⟩
end
theorem open_any (w : World) (v : Value) (B : Nat) (l : List UInt8) (h : Byt w B v l) (hB : B ≤ w.heap.size) :
    Calls Try.prog 14 #[v] w fun e w' => e = .returned (.pointer (some ⟨w.heap.size, 0, none⟩)) ∧ Rd w' w.heap.size B l false v ∧ Below w.heap.size w w' := by
  obtain ⟨A, c, rfl, _⟩ := id h
  go_enter Try.func14, Try.ntmps14
  go_wp2
  go_ret
  exact ⟨rfl, ⟨heap_alloc_new _ _, h.alloc hB _, hB⟩, (Below.refl _ _).alloc (Nat.le_refl _) _⟩
theorem rdnone_any {w : World} {g B : Nat} {l : List UInt8} {bad : Bool} {v : Value} (h : Rd w g B l bad v) : Calls Try.prog 38 #[.pointer (some ⟨g, 0, none⟩)] w fun e w' => e = .returned (.bool false) ∧ w = w' := by
  have h1 := h.c1
  clear h
  go_enter Try.func38, Try.ntmps38
  go_wp2
  go_ret
  exact ⟨rfl, rfl⟩
/-- the panic that 'must' raises -/
def shortP : List PanicEntry := [{ v := .iface 69 (.agg #[]), recovered := false }]
theorem must_true (w : World) : Calls Try.prog 42 #[.bool true] w fun e w' => e = .returned (.tuple #[]) ∧ w = w' := by
  go_enter Try.func42, Try.ntmps42
  go_wp2
  go_end0
  exact ⟨rfl, rfl⟩
theorem must_false (w : World) : Calls Try.prog 42 #[.bool false] w fun e w' => e = .panicked shortP ∧ w = w' := by
  go_enter Try.func42, Try.ntmps42
  go_wp2
  exact ⟨rfl, rfl, rfl⟩
def QE (R : World → Prop) (e : Exit) (a : Act) (w' : World) : Prop := (e = .ret ∨ e = .normal) ∧ a.defers = [] ∧ R w'
set_option maxHeartbeats 1000000 in
theorem ends_idle (g : Nat) (w : World) : CallsD Try.prog 40 #[.pointer (some ⟨g, 0, none⟩)] .returning w fun e u' w' => e = .returned (.tuple #[]) ∧ u' = .returning ∧ w = w' := by
  refine callsD_of_wpS Try.func40 rfl fun c₀ cs hu => ?_
  apply wpS_seq
  apply wpS_region
  simp [wpOpsS, go_sem, recoverD, hu, Try.ntmps40, Exit.thenS]
  refine wpS_of_wp (Code.wp_mono (Q := QE fun w' => w = w') ?_ ?_)
  · rintro e a w' ⟨he, hd, hw⟩
    cases c₀
    rcases he with rfl | rfl
    all_goals simp_all [bodyPostS, results, Try.results40]
  · generalize hQ : QE (fun w' => w = w') = Q
    change Code.wp _ _ _ { tmps := #[.pointer (some ⟨g, 0, none⟩), undef, .nilIface, undef, undef, .nilIface, undef, undef, undef, undef, undef, undef, undef, undef, undef, undef, undef, undef, undef], defers := [] } w
    go_wp2
    subst hQ
    exact ⟨.inr rfl, rfl, rfl⟩
set_option maxHeartbeats 1000000 in
theorem ends_short (g : Nat) (w : World) (B : Nat) (l : List UInt8) (bad : Bool) (v : Value) (h : Rd w g B l bad v) :
    CallsD Try.prog 40 #[.pointer (some ⟨g, 0, none⟩)] (.panicking shortP) w fun e u' w' =>
      e = .returned (.tuple #[]) ∧ u' = .panicking [{ v := .iface 69 (.agg #[]), recovered := true }] ∧ Rd w' g B l true v ∧ Only g w w' := by
  have h2 := h.c2
  have hf := h.f2
  have hlt := h.lt
  have hne := Nat.ne_of_lt hlt
  have hta : ∀ w, (Instr.typeAssert (.iface 69 (.agg #[])) 20 69 true).run Try.prog w = .ok (.tuple #[.agg #[], .bool true]) w := fun _ => by kernel_rfl
  unfold shortP
  refine callsD_of_wpS Try.func40 rfl fun c₀ cs hu => ?_
  apply wpS_seq
  apply wpS_region
  simp [wpOpsS, go_sem, recoverD, hu, Try.ntmps40, Exit.thenS]
  refine wpS_of_wp (Code.wp_mono (Q := QE fun w' => Rd w' g B l true v ∧ Only g w w') ?_ ?_)
  · rintro e a w' ⟨he, hd, hw⟩
    cases c₀
    rcases he with rfl | rfl
    all_goals simp_all [bodyPostS, results, Try.results40]
  · generalize hQ : QE (fun w' => Rd w' g B l true v ∧ Only g w w') = Q
    change Code.wp _ _ _ { tmps := #[.pointer (some ⟨g, 0, none⟩), undef, .iface 69 (.agg #[]), undef, undef, .iface 69 (.agg #[]), undef, undef, undef, undef, undef, undef, undef, undef, undef, undef, undef, undef, undef], defers := [] } w
    go_wp2
    subst hQ
    have h3 := h.store2 true
    exact ⟨.inr rfl, rfl, h3.1.below ((Below.refl _ _).alloc (Nat.le_refl _) _), Kept.alloc h3.2 _⟩
end Go.Proofs.Ytnmiodjkomgfcaa
