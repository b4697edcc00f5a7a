/- A DISK OF sector, AND THE WALKS OF ITS SMALL METHODS. -/
import Derived.Test.YtmcjefdnkcpghaaFoot
import Derived.Test.YtmcjefdnkcpghaaSl
import Derived.Test.YtmcjefdnkcpghaaGr2
import Derived.Deep.LoopGhost
import Derived.Deep.QuietTactic
import Derived.BigQuiet
import Derived.StillTailTactics
import Derived.Laws.IdiomCopy
import Derived.Laws.CopyRow
import Derived.Lib.SliceRun
namespace Go.Proofs.Ytmcjefdnkcpghaa
open Go.RowKit
/-- what a disk is: n sectors, all bytes, the fuse (writes left, what it tears), whether it is dead, how many writes were done -/
structure Dv where
  n : Nat
  L : List UInt8
  fuse : Option (Nat × Nat)
  dead : Bool
  writes : Nat
structure Dv.ok (d : Dv) : Prop where
  n1 : 1 ≤ d.n
  n2 : d.n ≤ 4096
  len : d.L.length = 64 * d.n
  fus : ∀ a t, d.fuse = some (a, t) → a ≤ 9223372036854775807 ∧ t ≤ 64
  wr : d.writes ≤ 1000000000
def fuseAt (w : World) (Z : Nat → Prop) (fv : Value) : Option (Nat × Nat) → Prop
  | none => fv = .pointer none
  | some (a, t) => ∃ F, fv = .pointer (some ⟨F, 0, none⟩) ∧ Z F ∧ w.heap[F]? = some (.cells #[.int .i64 (a : Int), .int .i64 (t : Int)] 139 (0, 0))
/-- g is a disk d, whose blocks are of the set Z -/
structure Dk (w : World) (Z : Nat → Prop) (g : Nat) (d : Dv) : Prop where
  ok : d.ok
  gz : Z g
  st : ∃ P fv c J, (d.n ≤ c ∧ c ≤ 9223372036854775807) ∧ w.heap[g]? = some (.cells #[.slice (some ⟨P, 0, none⟩) d.n c, fv, .bool d.dead, .int .i64 (d.writes : Int)] 102 (0, 0)) ∧
    w.heap[P]? = some (.cells (d.L.map bV ++ J).toArray 141 (0, 0)) ∧ Z P ∧ fuseAt w Z fv d.fuse
section
variable {w w' : World} {Z : Nat → Prop} {g : Nat} {d : Dv}
theorem fuseAt.kept {S : Nat → Prop} {fv : Value} {f : Option (Nat × Nat)} (h : fuseAt w Z fv f) (k : Kept S w w') (hs : ∀ b, Z b → S b) : fuseAt w' Z fv f := by
  cases f with
  | none => exact h
  | some p =>
    obtain ⟨F, e, h1, h3⟩ := h
    exact ⟨F, e, h1, k.heap h3 (hs F h1)⟩
theorem Dk.kept {S : Nat → Prop} (h : Dk w Z g d) (k : Kept S w w') (hs : ∀ b, Z b → S b) : Dk w' Z g d := by
  obtain ⟨P, fv, c, J, hcap, h1, h2, h3, h4⟩ := h.st
  exact ⟨h.ok, h.gz, P, fv, c, J, hcap, k.heap h1 (hs g h.gz), k.heap h2 (hs P h3), h3, h4.kept k hs⟩
theorem Dk.lt (h : Dk w Z g d) : g < w.heap.size := by
  obtain ⟨P, fv, c, J, hcap, h1, _⟩ := h.st; exact lt_of_block h1
theorem Dk.below (h : Dk w Z g d) (k : Below w.heap.size w w') : Dk w' Z g d := h.kept (S := fun _ => True) (Kept.ofBelow k) fun _ _ => trivial
theorem fuseAt.more {Z' : Nat → Prop} {fv : Value} {f : Option (Nat × Nat)} (h : fuseAt w Z fv f) (h1 : ∀ b, Z b → Z' b) : fuseAt w Z' fv f := by
  cases f with
  | none => exact h
  | some p => obtain ⟨F, e, a, c⟩ := h; exact ⟨F, e, h1 _ a, c⟩
theorem Dk.more {Z' : Nat → Prop} (h : Dk w Z g d) (h1 : ∀ b, Z b → Z' b) : Dk w Z' g d := by
  obtain ⟨P, fv, c, J, hcap, a, b, e, f⟩ := h.st
  exact ⟨h.ok, h1 _ h.gz, P, fv, c, J, hcap, a, b, h1 _ e, f.more h1⟩
end
theorem cells_of {w : World} {b : Nat} {cs : Array Value} {t : TypeId} {fr : Nat × Nat} (h : w.heap[b]? = some (.cells cs t fr)) (i : Nat) (v : Value) (hi : cs[i]? = some v) : w.cell? ⟨b, i, none⟩ = some v := by
  simp [World.cell?, h, hi]
theorem free_of {w : World} {b : Nat} {cs : Array Value} {t : TypeId} (h : w.heap[b]? = some (.cells cs t (0, 0))) (i : Nat) : w.frozen? ⟨b, i, none⟩ = false := by
  simp [World.frozen?, h]
set_option maxRecDepth 100000 in
theorem snone_any {w : World} {Z : Nat → Prop} {g : Nat} {d : Dv} (h : Dk w Z g d) : Calls Try.prog 90 #[.pointer (some ⟨g, 0, none⟩)] w fun e w' => e = .returned (.bool false) ∧ w = w' := by
  obtain ⟨P, fv, c, J, hcap, h1, _⟩ := h.st
  have c0 := cells_of h1 0 _ rfl
  clear h1
  have hq := fun (w : World) (A : Option Addr) (n c : Nat) => Lib.run_eql_slice_nil (P := Try.prog) w 99 141 A n c 0 0 Try.underlying99
  go_enter Try.func90, Try.ntmps90
  go_wp2
  go_ret
  exact ⟨rfl, rfl⟩
def Dv.can (d : Dv) (i : Int) : Int := if d.dead then 32 else if i < 0 ∨ (d.n : Int) ≤ i then 30 else 0
theorem can_any {w : World} {Z : Nat → Prop} {g : Nat} {d : Dv} (h : Dk w Z g d) (i : Int) : Calls Try.prog 89 #[.pointer (some ⟨g, 0, none⟩), .int .i64 i] w fun e w' => e = .returned (.int .i64 (d.can i)) ∧ w = w' := by
  have hn := snone_any h
  obtain ⟨P, fv, c, J, hcap, h1, _⟩ := h.st
  have c0 := cells_of h1 0 _ rfl
  have c2 := cells_of h1 2 _ rfl
  clear h1
  unfold Dv.can
  cases hd : d.dead with
  | true =>
    rw [hd] at c2
    go_enter Try.func89, Try.ntmps89
    go_wp2_with (go_at_call 90; refine hn.mono ?_; rintro e w' ⟨rfl, rfl⟩)
    go_ret
    exact ⟨rfl, rfl⟩
  | false =>
    rw [hd] at c2
    by_cases h0 : i < 0
    · rw [if_neg (by simp), if_pos (.inl h0)]
      go_enter Try.func89, Try.ntmps89
      go_wp2_with (go_at_call 90; refine hn.mono ?_; rintro e w' ⟨rfl, rfl⟩)
      go_ret
      exact ⟨rfl, rfl⟩
    · have e0 : decide (i < 0) = false := decide_eq_false h0
      by_cases h1 : (d.n : Int) ≤ i
      · rw [if_neg (by simp), if_pos (.inr h1)]
        go_enter Try.func89, Try.ntmps89
        go_wp2_with (go_at_call 90; refine hn.mono ?_; rintro e w' ⟨rfl, rfl⟩)
        go_ret
        exact ⟨rfl, rfl⟩
      · have e1 : decide ((d.n : Int) ≤ i) = false := decide_eq_false h1
        rw [if_neg (by simp), if_neg (by omega)]
        go_enter Try.func89, Try.ntmps89
        go_wp2_with (go_at_call 90; refine hn.mono ?_; rintro e w' ⟨rfl, rfl⟩)
        go_ret
        exact ⟨rfl, rfl⟩
theorem slen_any {w : World} {Z : Nat → Prop} {g : Nat} {d : Dv} (h : Dk w Z g d) : Calls Try.prog 94 #[.pointer (some ⟨g, 0, none⟩)] w fun e w' => e = .returned (.int .i64 (d.n : Int)) ∧ w = w' := by
  have hn := snone_any h
  obtain ⟨P, fv, c, J, hcap, h1, _⟩ := h.st
  have c0 := cells_of h1 0 _ rfl
  clear h1
  go_enter Try.func94, Try.ntmps94
  go_wp2_with (go_at_call 90; refine hn.mono ?_; rintro e w' ⟨rfl, rfl⟩)
  go_ret
  exact ⟨rfl, rfl⟩
theorem sdead_any {w : World} {Z : Nat → Prop} {g : Nat} {d : Dv} (h : Dk w Z g d) : Calls Try.prog 88 #[.pointer (some ⟨g, 0, none⟩)] w fun e w' => e = .returned (.bool d.dead) ∧ w = w' := by
  have hn := snone_any h
  obtain ⟨P, fv, c, J, hcap, h1, _⟩ := h.st
  have c2 := cells_of h1 2 _ rfl
  clear h1
  generalize d.dead = x at *
  go_enter Try.func88, Try.ntmps88
  go_wp2_with (go_at_call 90; refine hn.mono ?_; rintro e w' ⟨rfl, rfl⟩)
  go_ret
  exact ⟨rfl, rfl⟩
theorem swrites_any {w : World} {Z : Nat → Prop} {g : Nat} {d : Dv} (h : Dk w Z g d) : Calls Try.prog 38 #[.pointer (some ⟨g, 0, none⟩)] w fun e w' => e = .returned (.int .i64 (d.writes : Int)) ∧ w = w' := by
  have hn := snone_any h
  obtain ⟨P, fv, c, J, hcap, h1, _⟩ := h.st
  have c3 := cells_of h1 3 _ rfl
  clear h1
  go_enter Try.func38, Try.ntmps38
  go_wp2_with (go_at_call 90; refine hn.mono ?_; rintro e w' ⟨rfl, rfl⟩)
  go_ret
  exact ⟨rfl, rfl⟩
/-- a disk's post: what is told, the disk behind it, what else stands -/
def DkPost (w : World) (Z : Nat → Prop) (g : Nat) (d' : Dv) (r : Int) (e : Ending) (w' : World) : Prop := e = .returned (.int .i64 r) ∧ Dk w' Z g d' ∧ Kept (fun b => ¬ Z b) w w'
/-- stores into the disk's own block -/
theorem Dk.set {w : World} {Z : Nat → Prop} {g : Nat} {d : Dv} (h : Dk w Z g d) (fv' : Value) (dead' : Bool) (fuse' : Option (Nat × Nat)) (hf : ∀ w', (∀ b, b ≠ g → w'.heap[b]? = w.heap[b]?) → fuseAt w' Z fv' fuse') (hok : ∀ a t, fuse' = some (a, t) → a ≤ 9223372036854775807 ∧ t ≤ 64) :
    Dk ((w.setCell ⟨g, 1, none⟩ fv').setCell ⟨g, 2, none⟩ (.bool dead')) Z g { d with fuse := fuse', dead := dead' } ∧ Kept (fun b => ¬ Z b) w ((w.setCell ⟨g, 1, none⟩ fv').setCell ⟨g, 2, none⟩ (.bool dead')) := by
  obtain ⟨P, fv, c, J, hcap, h1, h2, h3, h4⟩ := h.st
  have hPg : P ≠ g := fun e => by
    subst e; rw [h1] at h2; injection h2 with h2; injection h2 with _ h2 _; exact absurd h2 (by decide)
  have k1 := Lib.heap_setCell_same (i := 1) h1 fv'
  have k2 := Lib.heap_setCell_same (i := 2) k1 (.bool dead')
  have hoth : ∀ b, b ≠ g → ((w.setCell ⟨g, 1, none⟩ fv').setCell ⟨g, 2, none⟩ (.bool dead')).heap[b]? = w.heap[b]? := fun b hb => by
    rw [Below.heap_setCell _ _ _ _ (fun e => hb e), Below.heap_setCell _ _ _ _ (fun e => hb e)]
  refine ⟨⟨⟨h.ok.n1, h.ok.n2, h.ok.len, hok, h.ok.wr⟩, h.gz, P, fv', c, J, hcap, ?_, ?_, h3, hf _ hoth⟩, ?_⟩
  · simpa using k2
  · rw [hoth P hPg]; exact h2
  · exact ((Kept.refl _ w).setCell _ _ (fun _ hS => hS h.gz)).setCell _ _ (fun _ hS => hS h.gz)
theorem power_any {w : World} {Z : Nat → Prop} {g : Nat} {d : Dv} (h : Dk w Z g d) : Calls Try.prog 45 #[.pointer (some ⟨g, 0, none⟩)] w (DkPost w Z g { d with fuse := none, dead := false } 0) := by
  have hn := snone_any h
  have hs := h.set (.pointer none) false none (fun _ _ => rfl) (fun a t e => by cases e)
  obtain ⟨P, fv, c, J, hcap, h1, _⟩ := h.st
  have c1 := cells_of h1 1 _ rfl
  have c2 := cells_of h1 2 _ rfl
  have f1 := free_of h1 1
  have f2 := free_of h1 2
  clear h1
  go_enter Try.func45, Try.ntmps45
  go_wp2_with (go_at_call 90; refine hn.mono ?_; rintro e w' ⟨rfl, rfl⟩)
  go_ret
  exact ⟨rfl, hs.1, hs.2⟩
end Go.Proofs.Ytmcjefdnkcpghaa
