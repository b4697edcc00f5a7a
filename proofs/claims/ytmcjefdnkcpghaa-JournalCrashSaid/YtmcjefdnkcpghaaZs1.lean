/- A DISK OF sector, AND THE WALKS OF ITS SMALL METHODS. -/
import Derived.Test.YtmcjefdnkcpghaaZg
import Derived.Deep.LoopGhost
import Derived.Deep.QuietTactic
import Derived.BigQuiet
import Derived.StillTailTactics
import Derived.Laws.IdiomCopy
import Derived.Laws.CopyRow
import Derived.Lib.SliceRun
import Derived.Laws.CopyOwn
namespace Go.Proofs.Ytmcjefdnkcpghaa
open Go.RowKit
/-- what a disk is: n sectors, all bytes, the fuse (writes left, what it tears), whether it is dead, how many writes were done -/
structure Dv where
  n : Nat
  L : List UInt8
  fuse : Option (Nat × Nat)
  dead : Bool
  writes : Nat
structure Dv.ok (d : Dv) : Prop where
  n1 : 1 ≤ d.n
  n2 : d.n ≤ 4096
  len : d.L.length = 64 * d.n
  fus : ∀ a t, d.fuse = some (a, t) → a ≤ 9223372036854775807 ∧ t ≤ 64
  wr : d.writes ≤ 1000000000
def fuseAt (w : World) (Z : Nat → Prop) (fv : Value) : Option (Nat × Nat) → Prop
  | none => fv = .pointer none
  | some (a, t) => ∃ F, fv = .pointer (some ⟨F, 0, none⟩) ∧ Z F ∧ w.heap[F]? = some (.cells #[.int .i64 (a : Int), .int .i64 (t : Int)] 139 (0, 0))
/-- g is a disk d, whose blocks are of the set Z -/
structure Dk (w : World) (Z : Nat → Prop) (g : Nat) (d : Dv) : Prop where
  ok : d.ok
  gz : Z g
  st : ∃ P fv c J, (d.n ≤ c ∧ c ≤ 9223372036854775807) ∧ w.heap[g]? = some (.cells #[.slice (some ⟨P, 0, none⟩) d.n c, fv, .bool d.dead, .int .i64 (d.writes : Int)] 102 (0, 0)) ∧
    w.heap[P]? = some (.cells (d.L.map bV ++ J).toArray 141 (0, 0)) ∧ Z P ∧ fuseAt w Z fv d.fuse
section
variable {w w' : World} {Z : Nat → Prop} {g : Nat} {d : Dv}
theorem fuseAt.kept {S : Nat → Prop} {fv : Value} {f : Option (Nat × Nat)} (h : fuseAt w Z fv f) (k : Kept S w w') (hs : ∀ b, Z b → S b) : fuseAt w' Z fv f := by
  cases f with
  | none => exact h
  | some p =>
    obtain ⟨F, e, h1, h3⟩ := h
    exact ⟨F, e, h1, k.heap h3 (hs F h1)⟩
theorem Dk.kept {S : Nat → Prop} (h : Dk w Z g d) (k : Kept S w w') (hs : ∀ b, Z b → S b) : Dk w' Z g d := by
  obtain ⟨P, fv, c, J, hcap, h1, h2, h3, h4⟩ := h.st
  exact ⟨h.ok, h.gz, P, fv, c, J, hcap, k.heap h1 (hs g h.gz), k.heap h2 (hs P h3), h3, h4.kept k hs⟩
theorem Dk.lt (h : Dk w Z g d) : g < w.heap.size := by
  obtain ⟨P, fv, c, J, hcap, h1, _⟩ := h.st; exact lt_of_block h1
theorem Dk.below (h : Dk w Z g d) (k : Below w.heap.size w w') : Dk w' Z g d := h.kept (S := fun _ => True) (Kept.ofBelow k) fun _ _ => trivial
theorem fuseAt.more {Z' : Nat → Prop} {fv : Value} {f : Option (Nat × Nat)} (h : fuseAt w Z fv f) (h1 : ∀ b, Z b → Z' b) : fuseAt w Z' fv f := by
  cases f with
  | none => exact h
  | some p => obtain ⟨F, e, a, c⟩ := h; exact ⟨F, e, h1 _ a, c⟩
theorem Dk.more {Z' : Nat → Prop} (h : Dk w Z g d) (h1 : ∀ b, Z b → Z' b) : Dk w Z' g d := by
  obtain ⟨P, fv, c, J, hcap, a, b, e, f⟩ := h.st
  exact ⟨h.ok, h1 _ h.gz, P, fv, c, J, hcap, a, b, h1 _ e, f.more h1⟩
end
theorem cells_of {w : World} {b : Nat} {cs : Array Value} {t : TypeId} {fr : Nat × Nat} (h : w.heap[b]? = some (.cells cs t fr)) (i : Nat) (v : Value) (hi : cs[i]? = some v) : w.cell? ⟨b, i, none⟩ = some v := by
  simp [World.cell?, h, hi]
theorem free_of {w : World} {b : Nat} {cs : Array Value} {t : TypeId} (h : w.heap[b]? = some (.cells cs t (0, 0))) (i : Nat) : w.frozen? ⟨b, i, none⟩ = false := by
  simp [World.frozen?, h]
set_option maxRecDepth 100000 in
theorem snone_any {w : World} {Z : Nat → Prop} {g : Nat} {d : Dv} (h : Dk w Z g d) : Calls Try.prog 90 #[.pointer (some ⟨g, 0, none⟩)] w fun e w' => e = .returned (.bool false) ∧ w = w' := by
  obtain ⟨P, fv, c, J, hcap, h1, _⟩ := h.st
  have c0 := cells_of h1 0 _ rfl
  clear h1
  have hq := fun (w : World) (A : Option Addr) (n c : Nat) => Lib.run_eql_slice_nil (P := Try.prog) w 99 141 A n c 0 0 Try.underlying99
  go_enter Try.func90, Try.ntmps90
  go_wp2
  go_ret
  exact ⟨rfl, rfl⟩
def Dv.can (d : Dv) (i : Int) : Int := if d.dead then 32 else if i < 0 ∨ (d.n : Int) ≤ i then 30 else 0
theorem can_any {w : World} {Z : Nat → Prop} {g : Nat} {d : Dv} (h : Dk w Z g d) (i : Int) : Calls Try.prog 89 #[.pointer (some ⟨g, 0, none⟩), .int .i64 i] w fun e w' => e = .returned (.int .i64 (d.can i)) ∧ w = w' := by
  have hn := snone_any h
  obtain ⟨P, fv, c, J, hcap, h1, _⟩ := h.st
  have c0 := cells_of h1 0 _ rfl
  have c2 := cells_of h1 2 _ rfl
  clear h1
  unfold Dv.can
  cases hd : d.dead with
  | true =>
    rw [hd] at c2
    go_enter Try.func89, Try.ntmps89
    go_wp2_with (go_at_call 90; refine hn.mono ?_; rintro e w' ⟨rfl, rfl⟩)
    go_ret
    exact ⟨rfl, rfl⟩
  | false =>
    rw [hd] at c2
    by_cases h0 : i < 0
    · rw [if_neg (by simp), if_pos (.inl h0)]
      go_enter Try.func89, Try.ntmps89
      go_wp2_with (go_at_call 90; refine hn.mono ?_; rintro e w' ⟨rfl, rfl⟩)
      go_ret
      exact ⟨rfl, rfl⟩
    · have e0 : decide (i < 0) = false := decide_eq_false h0
      by_cases h1 : (d.n : Int) ≤ i
      · rw [if_neg (by simp), if_pos (.inr h1)]
        go_enter Try.func89, Try.ntmps89
        go_wp2_with (go_at_call 90; refine hn.mono ?_; rintro e w' ⟨rfl, rfl⟩)
        go_ret
        exact ⟨rfl, rfl⟩
      · have e1 : decide ((d.n : Int) ≤ i) = false := decide_eq_false h1
        rw [if_neg (by simp), if_neg (by omega)]
        go_enter Try.func89, Try.ntmps89
        go_wp2_with (go_at_call 90; refine hn.mono ?_; rintro e w' ⟨rfl, rfl⟩)
        go_ret
        exact ⟨rfl, rfl⟩
theorem slen_any {w : World} {Z : Nat → Prop} {g : Nat} {d : Dv} (h : Dk w Z g d) : Calls Try.prog 94 #[.pointer (some ⟨g, 0, none⟩)] w fun e w' => e = .returned (.int .i64 (d.n : Int)) ∧ w = w' := by
  have hn := snone_any h
  obtain ⟨P, fv, c, J, hcap, h1, _⟩ := h.st
  have c0 := cells_of h1 0 _ rfl
  clear h1
  go_enter Try.func94, Try.ntmps94
  go_wp2_with (go_at_call 90; refine hn.mono ?_; rintro e w' ⟨rfl, rfl⟩)
  go_ret
  exact ⟨rfl, rfl⟩
theorem sdead_any {w : World} {Z : Nat → Prop} {g : Nat} {d : Dv} (h : Dk w Z g d) : Calls Try.prog 88 #[.pointer (some ⟨g, 0, none⟩)] w fun e w' => e = .returned (.bool d.dead) ∧ w = w' := by
  have hn := snone_any h
  obtain ⟨P, fv, c, J, hcap, h1, _⟩ := h.st
  have c2 := cells_of h1 2 _ rfl
  clear h1
  generalize d.dead = x at *
  go_enter Try.func88, Try.ntmps88
  go_wp2_with (go_at_call 90; refine hn.mono ?_; rintro e w' ⟨rfl, rfl⟩)
  go_ret
  exact ⟨rfl, rfl⟩
theorem swrites_any {w : World} {Z : Nat → Prop} {g : Nat} {d : Dv} (h : Dk w Z g d) : Calls Try.prog 38 #[.pointer (some ⟨g, 0, none⟩)] w fun e w' => e = .returned (.int .i64 (d.writes : Int)) ∧ w = w' := by
  have hn := snone_any h
  obtain ⟨P, fv, c, J, hcap, h1, _⟩ := h.st
  have c3 := cells_of h1 3 _ rfl
  clear h1
  go_enter Try.func38, Try.ntmps38
  go_wp2_with (go_at_call 90; refine hn.mono ?_; rintro e w' ⟨rfl, rfl⟩)
  go_ret
  exact ⟨rfl, rfl⟩
/-- a disk's post: what is told, the disk behind it, what else stands -/
def DkPost (w : World) (Z : Nat → Prop) (g : Nat) (d' : Dv) (r : Int) (e : Ending) (w' : World) : Prop := e = .returned (.int .i64 r) ∧ Dk w' Z g d' ∧ Kept (fun b => ¬ Z b) w w'
/-- stores into the disk's own block -/
theorem Dk.set {w : World} {Z : Nat → Prop} {g : Nat} {d : Dv} (h : Dk w Z g d) (fv' : Value) (dead' : Bool) (fuse' : Option (Nat × Nat)) (hf : ∀ w', (∀ b, b ≠ g → w'.heap[b]? = w.heap[b]?) → fuseAt w' Z fv' fuse') (hok : ∀ a t, fuse' = some (a, t) → a ≤ 9223372036854775807 ∧ t ≤ 64) :
    Dk ((w.setCell ⟨g, 1, none⟩ fv').setCell ⟨g, 2, none⟩ (.bool dead')) Z g { d with fuse := fuse', dead := dead' } ∧ Kept (fun b => ¬ Z b) w ((w.setCell ⟨g, 1, none⟩ fv').setCell ⟨g, 2, none⟩ (.bool dead')) := by
  obtain ⟨P, fv, c, J, hcap, h1, h2, h3, h4⟩ := h.st
  have hPg : P ≠ g := fun e => by
    subst e; rw [h1] at h2; injection h2 with h2; injection h2 with _ h2 _; exact absurd h2 (by decide)
  have k1 := Lib.heap_setCell_same (i := 1) h1 fv'
  have k2 := Lib.heap_setCell_same (i := 2) k1 (.bool dead')
  have hoth : ∀ b, b ≠ g → ((w.setCell ⟨g, 1, none⟩ fv').setCell ⟨g, 2, none⟩ (.bool dead')).heap[b]? = w.heap[b]? := fun b hb => by
    rw [Below.heap_setCell _ _ _ _ (fun e => hb e), Below.heap_setCell _ _ _ _ (fun e => hb e)]
  refine ⟨⟨⟨h.ok.n1, h.ok.n2, h.ok.len, hok, h.ok.wr⟩, h.gz, P, fv', c, J, hcap, ?_, ?_, h3, hf _ hoth⟩, ?_⟩
  · simpa using k2
  · rw [hoth P hPg]; exact h2
  · exact ((Kept.refl _ w).setCell _ _ (fun _ hS => hS h.gz)).setCell _ _ (fun _ hS => hS h.gz)
theorem power_any {w : World} {Z : Nat → Prop} {g : Nat} {d : Dv} (h : Dk w Z g d) : Calls Try.prog 45 #[.pointer (some ⟨g, 0, none⟩)] w (DkPost w Z g { d with fuse := none, dead := false } 0) := by
  have hn := snone_any h
  have hs := h.set (.pointer none) false none (fun _ _ => rfl) (fun a t e => by cases e)
  obtain ⟨P, fv, c, J, hcap, h1, _⟩ := h.st
  have c1 := cells_of h1 1 _ rfl
  have c2 := cells_of h1 2 _ rfl
  have f1 := free_of h1 1
  have f2 := free_of h1 2
  clear h1
  go_enter Try.func45, Try.ntmps45
  go_wp2_with (go_at_call 90; refine hn.mono ?_; rintro e w' ⟨rfl, rfl⟩)
  go_ret
  exact ⟨rfl, hs.1, hs.2⟩
end Go.Proofs.Ytmcjefdnkcpghaa
/- THE WALKS OF sector's Fuse, Clone of bytes, Read. -/
namespace Go.Proofs.Ytmcjefdnkcpghaa
open Go.RowKit
def Dv.fuses (d : Dv) (after torn : Int) : Dv × Int := if after < 0 ∨ torn < 0 ∨ 64 < torn then (d, 2) else ({ d with fuse := some (after.toNat, torn.toNat) }, 0)
def FusePost (w : World) (Z : Nat → Prop) (g : Nat) (d' : Dv) (r : Int) (e : Ending) (w' : World) : Prop := e = .returned (.int .i64 r) ∧ Dk w' (fun b => Z b ∨ (w.heap.size ≤ b ∧ b < w'.heap.size)) g d' ∧ Kept (fun b => ¬ Z b) w w'
theorem Dk.fused {w : World} {Z : Nat → Prop} {g : Nat} {d : Dv} (h : Dk w Z g d) (a t : Nat) (ha : a ≤ 9223372036854775807) (ht : t ≤ 64) :
    Dk ((w.setCell ⟨g, 1, none⟩ (.pointer (some ⟨w.heap.size, 0, none⟩))).alloc (.cells #[.int .i64 (a : Int), .int .i64 (t : Int)] 139)) (fun b => Z b ∨ (w.heap.size ≤ b ∧ b < w.heap.size + 1)) g { d with fuse := some (a, t) } ∧
    Kept (fun b => ¬ Z b) w ((w.setCell ⟨g, 1, none⟩ (.pointer (some ⟨w.heap.size, 0, none⟩))).alloc (.cells #[.int .i64 (a : Int), .int .i64 (t : Int)] 139)) := by
  have hl := h.gz
  have hlt := h.lt
  obtain ⟨P, fv, c, J, hcap, h1, h2, h3, h4⟩ := h.st
  have hPg : P ≠ g := fun e => by
    subst e; rw [h1] at h2; injection h2 with h2; injection h2 with _ h2 _; exact absurd h2 (by decide)
  have k1 := Lib.heap_setCell_same (i := 1) h1 (.pointer (some ⟨w.heap.size, 0, none⟩))
  have k2 : (w.setCell ⟨g, 1, none⟩ (.pointer (some ⟨w.heap.size, 0, none⟩))).heap[P]? = some (.cells (d.L.map bV ++ J).toArray 141 (0, 0)) := by
    rw [Below.heap_setCell _ _ _ _ (fun e => hPg e)]; exact h2
  have hnew := heap_alloc_new (w.setCell ⟨g, 1, none⟩ (.pointer (some ⟨w.heap.size, 0, none⟩))) (.cells #[.int .i64 (a : Int), .int .i64 (t : Int)] 139 (0, 0))
  have hsz : (w.setCell ⟨g, 1, none⟩ (.pointer (some ⟨w.heap.size, 0, none⟩))).heap.size = w.heap.size := by simp [World.setCell]
  rw [hsz] at hnew
  refine ⟨⟨⟨h.ok.n1, h.ok.n2, h.ok.len, fun a' t' e => by cases e; exact ⟨ha, ht⟩, h.ok.wr⟩, .inl hl, P, _, c, J, hcap, ?_, ?_, .inl h3, w.heap.size, rfl, .inr ⟨Nat.le_refl _, Nat.lt_succ_self _⟩, hnew⟩, ?_⟩
  · rw [Below.heap_alloc _ _ _ (by rw [hsz]; exact hlt)]; simpa using k1
  · rw [Below.heap_alloc _ _ _ (lt_of_block k2)]; exact k2
  · exact ((Kept.refl _ w).setCell _ _ (fun _ hS => hS hl)).alloc _
set_option maxRecDepth 100000 in
theorem fuse_any {w : World} {Z : Nat → Prop} {g : Nat} {d : Dv} (h : Dk w Z g d) (after torn : Int) (ha : after ≤ 9223372036854775807) :
    Calls Try.prog 37 #[.pointer (some ⟨g, 0, none⟩), .int .i64 after, .int .i64 torn] w (FusePost w Z g (d.fuses after torn).1 (d.fuses after torn).2) := by
  have hn := snone_any h
  have hsame : ∀ Z' : Nat → Prop, Dk w (fun b => Z b ∨ Z' b) g d := fun Z' => h.more (fun _ h => .inl h)
  have hr : Kept (fun b => ¬ Z b) w w := Kept.refl _ _
  unfold Dv.fuses
  by_cases h1 : after < 0
  · rw [if_pos (.inl h1)]
    go_enter Try.func37, Try.ntmps37
    go_wp2_with (go_at_call 90; refine hn.mono ?_; rintro e w' ⟨rfl, rfl⟩)
    go_ret
    exact ⟨rfl, hsame _, hr⟩
  · have e1 : decide (after < 0) = false := decide_eq_false h1
    by_cases h2 : torn < 0
    · rw [if_pos (.inr (.inl h2))]
      go_enter Try.func37, Try.ntmps37
      go_wp2_with (go_at_call 90; refine hn.mono ?_; rintro e w' ⟨rfl, rfl⟩)
      go_ret
      exact ⟨rfl, hsame _, hr⟩
    · have e2 : decide (torn < 0) = false := decide_eq_false h2
      by_cases h3 : 64 < torn
      · rw [if_pos (.inr (.inr h3))]
        go_enter Try.func37, Try.ntmps37
        go_wp2_with (go_at_call 90; refine hn.mono ?_; rintro e w' ⟨rfl, rfl⟩)
        go_ret
        exact ⟨rfl, hsame _, hr⟩
      · have e3 : decide (64 < torn) = false := decide_eq_false h3
        rw [if_neg (by omega)]
        obtain ⟨a, rfl⟩ : ∃ a : Nat, after = (a : Int) := ⟨after.toNat, by omega⟩
        obtain ⟨t, rfl⟩ : ∃ t : Nat, torn = (t : Int) := ⟨torn.toNat, by omega⟩
        have hs := h.fused a t (by omega) (by omega)
        obtain ⟨P, fv, c, J, hcap, g1, _⟩ := h.st
        have c1 := cells_of g1 1 _ rfl
        have f1 := free_of g1 1
        have hlt := h.lt
        have hne : ¬ g = w.heap.size := by omega
        have hne2 : ¬ w.heap.size = g := by omega
        clear g1 h1 h2 h3 hsame hr
        go_enter Try.func37, Try.ntmps37
        go_wp2_with (go_at_call 90; refine hn.mono ?_; rintro e w' ⟨rfl, rfl⟩)
        go_ret
        refine ⟨rfl, hs.1.more (fun b hb => hb.imp id (fun h => ⟨h.1, by simpa [World.setCell] using h.2⟩)), hs.2⟩
theorem bclone_any {w : World} {B : Nat} {v : Value} {m : List UInt8} (hv : Byt w B v m) (h0 : 0 < m.length) (hm : m.length ≤ 1000000) :
    Calls Try.prog 91 #[v] w fun e w' => ∃ r, e = .returned r ∧ Own w' w.heap.size r m ∧ Below w.heap.size w w' := by
  obtain ⟨A, c, rfl, hc, hx, hr⟩ := id hv
  obtain ⟨ad, rfl, hb, _⟩ := hr h0
  have hq := fun (w : World) (A : Option Addr) (n c : Nat) => Lib.run_eql_slice_nil (P := Try.prog) w 23 5 A n c 0 0 Try.underlying23
  have hown := own_lit w [] (by simp [maxLen])
  have hv' := hv.heap.below ((Below.refl w.heap.size w).alloc (Nat.le_refl _) (.cells (([] : List UInt8).map bV).toArray 5))
  have HO := Lib.hid hown
  have HV := Lib.hid hv'
  clear hown hv' hr
  go_enter Try.func91, Try.ntmps91
  go_wp2_with (first
    | (at_builtin; go_must (refine wpList_append_byt _ rfl (.tmp 5) (.tmp 6) rfl w.heap.size _ [] rfl HO.out _ _ m rfl HV.out (by simp; omega) (by simp) ?_)
       intro v5 w5 hown5 hg5 _))
  go_ret
  exact ⟨_, rfl, hown5, ((Below.refl w.heap.size w).alloc (Nat.le_refl _) _).grown hg5 (by simp) (fun b hb => by cases hb; exact Nat.le_refl _)⟩
/-- sector i -/
def page (L : List UInt8) (i : Nat) : List UInt8 := (L.drop (64 * i)).take 64
theorem page_len {L : List UInt8} {n i : Nat} (hl : L.length = 64 * n) (hi : i < n) : (page L i).length = 64 := by
  unfold page; rw [List.length_take, List.length_drop]; omega
theorem Dk.page_byt {w : World} {L : List UInt8} {J : List Value} {P n i : Nat} (h : w.heap[P]? = some (.cells (L.map bV ++ J).toArray 141 (0, 0))) (hl : L.length = 64 * n) (hi : i < n) :
    Byt w w.heap.size (.slice (some ⟨P, i * 64, none⟩) 64 64) (page L i) := by
  refine ⟨some ⟨P, i * 64, none⟩, 64, by rw [page_len hl hi], by rw [page_len hl hi]; exact Nat.le_refl _, by simp [maxLen], fun _ => ⟨_, rfl, lt_of_block h, fun j x hj => ?_⟩⟩
  unfold page at hj
  rw [List.getElem?_take] at hj
  split at hj
  · rw [List.getElem?_drop] at hj
    rw [addr_mk_add]
    simp only [World.cell?, h]
    rw [show i * 64 + j = 64 * i + j by omega]
    have hlt := (List.getElem?_eq_some_iff.1 hj).1
    rw [List.getElem?_toArray, List.getElem?_append_left (by simpa using hlt)]
    simp [hj]
  · cases hj
def ReadPost (w : World) (d : Dv) (i : Int) (e : Ending) (w' : World) : Prop :=
  ∃ r, e = .returned (.tuple #[r, .int .i64 (d.can i)]) ∧ Own w' w.heap.size r (if d.can i = 0 then page d.L i.toNat else []) ∧ Below w.heap.size w w'
set_option maxRecDepth 100000 in
theorem read_any {w : World} {Z : Nat → Prop} {g : Nat} {d : Dv} (h : Dk w Z g d) (i : Int) : Calls Try.prog 39 #[.pointer (some ⟨g, 0, none⟩), .int .i64 i] w (ReadPost w d i) := by
  have hc := can_any h i
  obtain ⟨P, fv, c, J, hcap, h1, h2, _⟩ := h.st
  have c0 := cells_of h1 0 _ rfl
  by_cases hz : d.can i = 0
  · have hi : 0 ≤ i ∧ i < d.n := by
      unfold Dv.can at hz
      split at hz
      · cases hz
      · split at hz
        · cases hz
        · omega
    obtain ⟨k, rfl⟩ : ∃ k : Nat, i = (k : Int) := ⟨i.toNat, by omega⟩
    have hb := Dk.page_byt h2 h.ok.len (show k < d.n by omega)
    have hlen := page_len h.ok.len (show k < d.n by omega)
    have hcl := bclone_any hb (by omega) (by omega)
    unfold ReadPost
    rw [if_pos hz, Int.toNat_natCast]
    rw [hz] at hc ⊢
    have hk : k < d.n := by omega
    have hn2 := h.ok.n2
    generalize page d.L k = pg at *
    generalize d.n = n at *
    clear h1 h2 hb hz hlen
    go_enter Try.func39, Try.ntmps39
    go_wp2_with (first
      | (go_at_call 89; refine hc.mono ?_; rintro e w' ⟨rfl, rfl⟩)
      | (go_at_call 91; refine hcl.mono ?_; rintro e w2 ⟨r, rfl, hown, hbel⟩))
    go_ret2
    exact ⟨_, rfl, hown, hbel⟩
  · unfold ReadPost
    rw [if_neg hz]
    generalize d.can i = z at *
    have hz1 : (z == 0) = false := by rw [beq_eq_false_iff_ne]; exact hz
    have hz2 : (z != 0) = true := by simp [hz]
    clear h1 h2
    go_enter Try.func39, Try.ntmps39
    go_wp2_with (first
      | (go_at_call 89; refine hc.mono ?_; rintro e w' ⟨rfl, rfl⟩))
    go_ret2
    exact ⟨_, rfl, Own.nil_ _ _, Below.refl _ _⟩
end Go.Proofs.Ytmcjefdnkcpghaa
/- THE WALK OF sector's Write. -/
namespace Go.Proofs.Ytmcjefdnkcpghaa
open Go.RowKit
theorem Kept.setRow {S : Nat → Prop} {w w' : World} (h : Kept S w w') (g : Nat) (cs : Array Value) (hg : g < w.heap.size → ¬ S g) : Kept S w (w'.setRow g cs) :=
  ⟨h.os, h.tape, h.output, Nat.le_trans h.size (by simp [World.setRow]), fun b hb hS => by
    have hne : g ≠ b := fun e => by subst e; exact hg hb hS
    have : (w'.setRow g cs).heap[b]? = w'.heap[b]? := by
      unfold World.setRow
      simp only
      rw [Array.getElem?_modify, if_neg hne]
    exact this.trans (h.block b hb hS)⟩
theorem map_splice (L m : List UInt8) (o : Nat) : (splice L o m).map bV = (L.map bV).take o ++ m.map bV ++ (L.map bV).drop (o + m.length) := by
  unfold splice; rw [List.map_append, List.map_append, List.map_take, List.map_drop, List.append_assoc]
/-- copy of bytes onto a block of bytes -/
theorem run_copy_page (w : World) (P T ty : Nat) (L : List UInt8) (J : List Value) (hP : w.heap[P]? = some (.cells (L.map bV ++ J).toArray T (0, 0))) (o n c : Nat) (B : Nat) (y : Value) (m : List UInt8) (hy : Byt w B y m) (h0 : 0 < m.length) (k : Nat) (hk : k = Nat.min m.length n) (hfit : o + k ≤ L.length) :
    ∃ w', (Builtin.copy_ #[23, 23] ty #[.slice (some ⟨P, o, none⟩) n c, y]).run Try.prog w = .ok (goInt k) w' ∧ w'.heap[P]? = some (.cells ((splice L o (m.take k)).map bV ++ J).toArray T (0, 0)) ∧ Kept (fun b => b ≠ P) w w' := by
  obtain ⟨A, c', rfl, hc, hm, hr⟩ := hy
  obtain ⟨ad, rfl, hb, hx⟩ := hr h0
  have hlen : (m.take k).length = k := by rw [List.length_take, hk]; exact Nat.min_eq_left (Nat.min_le_left _ _)
  have hrun := run_copy_row (P := Try.prog) w 23 23 ty 5 P o n c ad m.length c' (L.map bV ++ J).toArray T ((m.take k).map bV) Try.underlying23 (by kernel_rfl) hP (by rw [List.length_map, hlen, hk])
    (fun j v hj => by
      rw [List.getElem?_map] at hj
      cases hq : (m.take k)[j]? with
      | none => rw [hq] at hj; cases hj
      | some x =>
        rw [hq] at hj
        cases hj
        rw [List.getElem?_take] at hq
        split at hq
        · exact hx j x hq
        · cases hq)
    (by simp only [List.length_map, hlen, List.size_toArray, List.length_append]; omega) (bsV_one _)
  rw [List.length_map, hlen] at hrun
  refine ⟨_, hrun, ?_, (Kept.refl _ w).setRow P _ (fun _ h => h rfl)⟩
  have hX : (L.map bV ++ J).toArray.toList.take o ++ (m.take k).map bV ++ (L.map bV ++ J).toArray.toList.drop (o + k) = (L.map bV).take o ++ (m.take k).map bV ++ (L.map bV).drop (o + k) ++ J := by
    show (L.map bV ++ J).take o ++ (m.take k).map bV ++ (L.map bV ++ J).drop (o + k) = _
    rw [List.take_append_of_le_length (by rw [List.length_map]; omega), List.drop_append_of_le_length (by rw [List.length_map]; omega)]
    simp only [List.append_assoc]
  rw [map_splice, hlen, hX]
  exact setRow_heap w P _ _ T (0, 0) hP
theorem wpList_copy_page (w : World) {ops : Array Oper} {rest : List Oper} {o : Oper} {a : Act} {Q : Exit → Act → World → Prop} (hgd : o.guard = none) (s x : Operand)
    (ho : o.op = .call { callee := .builtin .copy, args := #[s, x], argTypes := #[23, 23] }) (P T : Nat) (L : List UInt8) (J : List Value) (hP : w.heap[P]? = some (.cells (L.map bV ++ J).toArray T (0, 0))) (off n c : Nat)
    (hs : a.eval s = .slice (some ⟨P, off, none⟩) n c) (B : Nat) (y : Value) (m : List UInt8) (hx : a.eval x = y) (hy : Byt w B y m) (h0 : 0 < m.length) (k : Nat) (hk : k = Nat.min m.length n) (hfit : off + k ≤ L.length)
    (h : ∀ w', w'.heap[P]? = some (.cells ((splice L off (m.take k)).map bV ++ J).toArray T (0, 0)) → Kept (fun b => b ≠ P) w w' → wpList Try.prog ops Q rest (a.put o.dst (goInt k)) w') : wpList Try.prog ops Q (o :: rest) a w := by
  refine wpList_plain hgd fun K hK => ?_
  obtain ⟨w', hrun, h1, h2⟩ := run_copy_page w P T o.type L J hP off n c B y m hy h0 k hk hfit
  unfold Oper.wp execOp
  simp only [ho, resolve, invoke, builtin, Sem.run_bind, Sem.run_pure, Result.andThen_ok, List.map_toArray, List.map_cons, List.map_nil, hs, hx, hrun]
  exact hK _ _ (h w' h1 h2)
/-- a disk, its blocks named -/
structure DkAt (w : World) (Z : Nat → Prop) (g P c : Nat) (J : List Value) (fv : Value) (d : Dv) : Prop where
  ok : d.ok
  cap : d.n ≤ c ∧ c ≤ 9223372036854775807
  gz : Z g
  heap : w.heap[g]? = some (.cells #[.slice (some ⟨P, 0, none⟩) d.n c, fv, .bool d.dead, .int .i64 (d.writes : Int)] 102 (0, 0))
  bytes : w.heap[P]? = some (.cells (d.L.map bV ++ J).toArray 141 (0, 0))
  pz : Z P
  fus : fuseAt w Z fv d.fuse
theorem Dk.at_ {w : World} {Z : Nat → Prop} {g : Nat} {d : Dv} (h : Dk w Z g d) : ∃ P c J fv, DkAt w Z g P c J fv d := by
  obtain ⟨P, fv, c, J, hcap, h1, h2, h3, h4⟩ := h.st; exact ⟨P, c, J, fv, h.ok, hcap, h.gz, h1, h2, h3, h4⟩
theorem kind_ne {w : World} {a b : Nat} {cs cs' : Array Value} {t t' : TypeId} {fr fr' : Nat × Nat} (h1 : w.heap[a]? = some (.cells cs t fr)) (h2 : w.heap[b]? = some (.cells cs' t' fr')) (hne : t ≠ t') : a ≠ b := by
  rintro rfl
  rw [h1] at h2
  injection h2 with h2
  injection h2 with _ h2 _
  exact hne h2
section
variable {w w' : World} {Z : Nat → Prop} {g P c : Nat} {J : List Value} {fv : Value} {d : Dv}
theorem DkAt.dk (h : DkAt w Z g P c J fv d) : Dk w Z g d := ⟨h.ok, h.gz, P, fv, c, J, h.cap, h.heap, h.bytes, h.pz, h.fus⟩
theorem DkAt.c0 (h : DkAt w Z g P c J fv d) : w.cell? ⟨g, 0, none⟩ = some (.slice (some ⟨P, 0, none⟩) d.n c) := by simp [World.cell?, h.heap]
theorem DkAt.c1 (h : DkAt w Z g P c J fv d) : w.cell? ⟨g, 1, none⟩ = some fv := by simp [World.cell?, h.heap]
theorem DkAt.c2 (h : DkAt w Z g P c J fv d) : w.cell? ⟨g, 2, none⟩ = some (.bool d.dead) := by simp [World.cell?, h.heap]
theorem DkAt.c3 (h : DkAt w Z g P c J fv d) : w.cell? ⟨g, 3, none⟩ = some (.int .i64 (d.writes : Int)) := by simp [World.cell?, h.heap]
theorem DkAt.f (h : DkAt w Z g P c J fv d) (i : Nat) : w.frozen? ⟨g, i, none⟩ = false := free_of h.heap i
theorem fuseAt.other {f : Option (Nat × Nat)} (h : fuseAt w Z fv f) {x : Nat} {cs : Array Value} {t : TypeId} (hx : w.heap[x]? = some (.cells cs t (0, 0))) (ht : t ≠ 139) (hk : ∀ b, b ≠ x → b < w.heap.size → w'.heap[b]? = w.heap[b]?) : fuseAt w' Z fv f := by
  cases f with
  | none => exact h
  | some p =>
    obtain ⟨F, e, h1, h3⟩ := h
    exact ⟨F, e, h1, (hk F (fun e => kind_ne h3 hx ht.symm e) (lt_of_block h3)).trans h3⟩
theorem DkAt.copied (h : DkAt w Z g P c J fv d) {o : Nat} {m : List UInt8} (hP : w'.heap[P]? = some (.cells ((splice d.L o m).map bV ++ J).toArray 141 (0, 0))) (hk : Kept (fun b => b ≠ P) w w') (ho : o + m.length ≤ d.L.length) : DkAt w' Z g P c J fv { d with L := splice d.L o m } :=
  ⟨⟨h.ok.n1, h.ok.n2, by rw [length_splice _ _ _ ho]; exact h.ok.len, h.ok.fus, h.ok.wr⟩, h.cap, h.gz, hk.heap h.heap (kind_ne h.heap h.bytes (by decide)), hP, h.pz, h.fus.other h.bytes (by decide) fun b hb hlt => hk.block b hlt hb⟩
theorem DkAt.wrote (h : DkAt w Z g P c J fv d) (hw : d.writes + 1 ≤ 1000000000) : DkAt (w.setCell ⟨g, 3, none⟩ (.int .i64 ((d.writes : Int) + 1))) Z g P c J fv { d with writes := d.writes + 1 } := by
  have hoth : ∀ b, b ≠ g → (w.setCell ⟨g, 3, none⟩ (.int .i64 ((d.writes : Int) + 1))).heap[b]? = w.heap[b]? := fun b hb => Below.heap_setCell _ _ _ _ (fun e => hb e)
  refine ⟨⟨h.ok.n1, h.ok.n2, h.ok.len, h.ok.fus, hw⟩, h.cap, h.gz, ?_, ?_, h.pz, h.fus.other h.heap (by decide) fun b hb _ => hoth b hb⟩
  · have := Lib.heap_setCell_same (i := 3) h.heap (.int .i64 ((d.writes : Int) + 1))
    simpa using this
  · rw [hoth P (fun e => kind_ne h.bytes h.heap (by decide) e)]; exact h.bytes
theorem DkAt.dec {a t F : Nat} (h : DkAt w Z g P c J (.pointer (some ⟨F, 0, none⟩)) d) (hf : d.fuse = some (a + 1, t)) : DkAt (w.setCell ⟨F, 0, none⟩ (.int .i64 (a : Int))) Z g P c J (.pointer (some ⟨F, 0, none⟩)) { d with fuse := some (a, t) } ∧
    Kept (fun b => ¬ Z b) w (w.setCell ⟨F, 0, none⟩ (.int .i64 (a : Int))) := by
  have hfu := h.fus
  rw [hf] at hfu
  obtain ⟨F', e, h1, h3⟩ := hfu
  injection e with e
  injection e with e
  injection e with e
  subst e
  have hoth : ∀ b, b ≠ F → (w.setCell ⟨F, 0, none⟩ (.int .i64 (a : Int))).heap[b]? = w.heap[b]? := fun b hb => Below.heap_setCell _ _ _ _ (fun e => hb e)
  have h4 := Lib.heap_setCell_same (i := 0) h3 (.int .i64 (a : Int))
  refine ⟨⟨⟨h.ok.n1, h.ok.n2, h.ok.len, fun a' t' e => by cases e; have := h.ok.fus _ _ hf; omega, h.ok.wr⟩, h.cap, h.gz, ?_, ?_, h.pz, F, rfl, h1, by simpa using h4⟩, ?_⟩
  · rw [hoth g (kind_ne h.heap h3 (by decide))]; exact h.heap
  · rw [hoth P (kind_ne h.bytes h3 (by decide))]; exact h.bytes
  · exact (Kept.refl _ w).setCell _ _ (fun _ hS => hS h1)
end
theorem Byt.setKind {w : World} {B : Nat} {v : Value} {l : List UInt8} (h : Byt w B v l) {p : Addr} {u0 : Value} (hp : w.cell? p = some u0) (hu : ∀ b, u0 ≠ bV b) (u : Value) : Byt (w.setCell p u) B v l := by
  obtain ⟨A, c, hv, hc, hm, hr⟩ := h
  refine ⟨A, c, hv, hc, hm, fun h0 => ?_⟩
  obtain ⟨ad, hA, hb, hx⟩ := hr h0
  refine ⟨ad, hA, hb, fun j x hj => ?_⟩
  rw [World.cell?_setCell_other w p (ad.add j) u (fun e => by
    have := hx j x hj
    rw [← e, hp] at this
    exact hu x (Option.some.inj this))]
  exact hx j x hj
/-- a write -/
def Dv.write (d : Dv) (i : Int) (m : List UInt8) : Dv × Int :=
  if d.can i ≠ 0 then (d, d.can i)
  else if m.length ≠ 64 then (d, 2)
  else match d.fuse with
    | some (0, t) => ({ d with L := splice d.L (i.toNat * 64) (m.take t), fuse := none, dead := true }, 32)
    | some (a + 1, t) => ({ d with L := splice d.L (i.toNat * 64) (m.take 64), fuse := some (a, t), writes := d.writes + 1 }, 0)
    | none => ({ d with L := splice d.L (i.toNat * 64) (m.take 64), writes := d.writes + 1 }, 0)
theorem can_zero {d : Dv} {i : Int} (hz : d.can i = 0) : 0 ≤ i ∧ i < d.n ∧ d.dead = false := by
  unfold Dv.can at hz
  split at hz
  · cases hz
  · split at hz
    · cases hz
    · rename_i h1 h2; exact ⟨by omega, by omega, by simpa using h1⟩
theorem Kept.rng {w w' w'' : World} {Z : Nat → Prop} (h : Kept (fun b => ¬ Z b) w w') (k : Kept (fun b => ¬ Z b) w' w'') : Kept (fun b => ¬ Z b) w w'' := h.trans k fun _ _ h => h
theorem Kept.one {w w' : World} {Z : Nat → Prop} {P : Nat} (h : Kept (fun b => b ≠ P) w w') (h1 : Z P) : Kept (fun b => ¬ Z b) w w' := h.mono fun _ _ hS e => hS (e ▸ h1)
theorem Kept.cellr {w : World} {Z : Nat → Prop} {g i : Nat} (u : Value) (h1 : Z g) : Kept (fun b => ¬ Z b) w (w.setCell ⟨g, i, none⟩ u) := (Kept.refl _ w).setCell _ _ (fun _ hS => hS h1)
end Go.Proofs.Ytmcjefdnkcpghaa
/- THE WALK OF sector's Write: SeC1. -/
namespace Go.Proofs.Ytmcjefdnkcpghaa
open Go.RowKit
set_option maxRecDepth 100000 in
set_option maxHeartbeats 4000000 in
theorem write_none {w : World} {Z : Nat → Prop} {g P cp n wr k B : Nat} {L m : List UInt8} {J : List Value} {dead : Bool} {v : Value} (ha : DkAt w Z g P cp J (.pointer none) ⟨n, L, none, dead, wr⟩) (hk : k < n) (hv : Byt w B v m) (h64 : m.length = 64) (hw : wr + 1 ≤ 1000000000)
    (hc : Calls Try.prog 89 #[.pointer (some ⟨g, 0, none⟩), .int .i64 (k : Int)] w fun e w' => e = .returned (.int .i64 0) ∧ w = w') :
    Calls Try.prog 35 #[.pointer (some ⟨g, 0, none⟩), .int .i64 (k : Int), v] w (DkPost w Z g ⟨n, splice L (k * 64) (m.take 64), none, dead, wr + 1⟩ 0) := by
  have hlen := ha.ok.len
  have hn2 := ha.ok.n2
  obtain ⟨hcp1, hcp2⟩ := ha.cap
  simp only at hcp1
  have hkn : k < n := hk
  have hroom : k * 64 + 64 ≤ L.length := by simp only at hlen; omega
  have e64 : ((m.length : Int) == 64) = true := by rw [beq_iff_eq]; omega
  have e64' : ((m.length : Int) != 64) = false := by simp; omega
  obtain ⟨A, c, rfl, hcc, hm, _⟩ := id hv
  unfold maxLen at hm
  have hpos : 0 < m.length := by omega
  have HM := Lib.hid (show 64 = Nat.min m.length 64 by rw [h64]; rfl)
  have HV := Lib.hid hv
  have H64 := Lib.hid h64
  have HL := Lib.hid hlen
  simp only at hn2 hw
  have c0 := ha.c0
  have c1 := ha.c1
  have c2 := ha.c2
  have c3 := ha.c3
  have f1 := ha.f 1
  have f2 := ha.f 2
  simp only at c0 c2 c3
  clear hlen hv h64
  go_enter Try.func35, Try.ntmps35
  go_wp2_with (first
    | (go_at_call 89; refine hc.mono ?_; rintro e w' ⟨rfl, rfl⟩)
    | ((with_reducible show wpList _ _ _ (⟨some 77, _, _, _, _, _⟩ :: _) _ _); refine wpList_copy_page (o := ⟨some 77, _, _, _, _, _⟩) _ rfl (.tmp 75) (.tmp 76) rfl P 141 L J ha.bytes (k * 64) 64 64 rfl B _ m rfl HV.out hpos 64 HM.out hroom ?_
       intro w2 hP2 hk2
       have h2 := ha.copied (m := m.take 64) hP2 hk2 (by rw [List.length_take]; show k * 64 + _ ≤ L.length; omega)
       have d3 := h2.c3
       have f3 := h2.f 3
       have h3 := h2.wrote hw))
  go_ret
  exact ⟨rfl, h3.dk, (hk2.one ha.pz).rng (Kept.cellr _ ha.gz)⟩
end Go.Proofs.Ytmcjefdnkcpghaa
/- THE WALK OF sector's Write: SeC2. -/
namespace Go.Proofs.Ytmcjefdnkcpghaa
open Go.RowKit
set_option maxRecDepth 100000 in
set_option maxHeartbeats 4000000 in
theorem write_torn {w : World} {Z : Nat → Prop} {g P cp n wr k B : Nat} {L m : List UInt8} {J : List Value} {dead : Bool} {v : Value} {F t : Nat} (ha : DkAt w Z g P cp J (.pointer (some ⟨F, 0, none⟩)) ⟨n, L, some (0, t), dead, wr⟩) (hk : k < n) (hv : Byt w B v m) (h64 : m.length = 64) (_hw : wr + 1 ≤ 1000000000)
    (hc : Calls Try.prog 89 #[.pointer (some ⟨g, 0, none⟩), .int .i64 (k : Int)] w fun e w' => e = .returned (.int .i64 0) ∧ w = w') :
    Calls Try.prog 35 #[.pointer (some ⟨g, 0, none⟩), .int .i64 (k : Int), v] w (DkPost w Z g ⟨n, splice L (k * 64) (m.take t), none, true, wr⟩ 32) := by
  have hlen := ha.ok.len
  have hn2 := ha.ok.n2
  obtain ⟨hcp1, hcp2⟩ := ha.cap
  simp only at hcp1
  have hkn : k < n := hk
  have hroom : k * 64 + 64 ≤ L.length := by simp only at hlen; omega
  have e64 : ((m.length : Int) == 64) = true := by rw [beq_iff_eq]; omega
  have e64' : ((m.length : Int) != 64) = false := by simp; omega
  obtain ⟨A, c, rfl, hcc, hm, _⟩ := id hv
  unfold maxLen at hm
  have hpos : 0 < m.length := by omega
  have HM := Lib.hid (show 64 = Nat.min m.length 64 by rw [h64]; rfl)
  have HV := Lib.hid hv
  have H64 := Lib.hid h64
  have HL := Lib.hid hlen
  simp only at hn2
  have c0 := ha.c0
  have c1 := ha.c1
  have c2 := ha.c2
  have c3 := ha.c3
  have f1 := ha.f 1
  have f2 := ha.f 2
  simp only at c0 c2 c3
  clear hlen hv h64
  obtain ⟨F', e, hF1, hF3⟩ := ha.fus
  injection e with e
  injection e with e
  injection e with e
  subst e
  have ht1 := (ha.ok.fus 0 t rfl).2
  have g0 : w.cell? ⟨F, 0, none⟩ = some (.int .i64 0) := by simp [World.cell?, hF3]
  have g1 : w.cell? ⟨F, 1, none⟩ = some (.int .i64 (t : Int)) := by simp [World.cell?, hF3]
  have HT := Lib.hid (show t = Nat.min m.length t by rw [H64.out]; exact (Nat.min_eq_right ht1).symm)
  have hroom2 : k * 64 + t ≤ L.length := by omega
  have ht0 : (0 : Int) ≤ (t : Int) := by omega
  have ht64 : (t : Int) ≤ 64 := by omega
  clear hF3
  go_enter Try.func35, Try.ntmps35
  go_wp2_with (first
    | (go_at_call 89; refine hc.mono ?_; rintro e w' ⟨rfl, rfl⟩))
  go_still_tail 15, (by kernel_rfl)
  refine wpList_copy_page _ rfl (.tmp 45) (.tmp 46) rfl P 141 L J ha.bytes (k * 64) t 64 rfl B _ m rfl HV.out hpos t HT.out hroom2 ?_
  intro w2 hP2 hk2
  have hk3 : Kept (fun b => b ≠ P) w w2 := (Kept.refl _ w).drew.trans hk2 fun _ _ h => h
  have h2 := ha.copied (m := m.take t) hP2 hk3 (by rw [List.length_take]; show k * 64 + _ ≤ L.length; omega)
  have d1 := h2.c1
  have d2 := h2.c2
  have q1 := h2.f 1
  have q2 := h2.f 2
  have h3 := h2.dk.set (.pointer none) true none (fun _ _ => rfl) (fun a t e => by cases e)
  simp only at d2
  go_wp2
  go_ret
  exact ⟨rfl, h3.1, (hk3.one ha.pz).rng h3.2⟩
end Go.Proofs.Ytmcjefdnkcpghaa
/- THE WALK OF sector's Write: SeC3. -/
namespace Go.Proofs.Ytmcjefdnkcpghaa
open Go.RowKit
set_option maxRecDepth 100000 in
set_option maxHeartbeats 4000000 in
theorem write_dec {w : World} {Z : Nat → Prop} {g P cp n wr k B : Nat} {L m : List UInt8} {J : List Value} {dead : Bool} {v : Value} {F a t : Nat} (ha : DkAt w Z g P cp J (.pointer (some ⟨F, 0, none⟩)) ⟨n, L, some (a + 1, t), dead, wr⟩) (hk : k < n) (hv : Byt w B v m) (h64 : m.length = 64) (hw : wr + 1 ≤ 1000000000)
    (hc : Calls Try.prog 89 #[.pointer (some ⟨g, 0, none⟩), .int .i64 (k : Int)] w fun e w' => e = .returned (.int .i64 0) ∧ w = w') :
    Calls Try.prog 35 #[.pointer (some ⟨g, 0, none⟩), .int .i64 (k : Int), v] w (DkPost w Z g ⟨n, splice L (k * 64) (m.take 64), some (a, t), dead, wr + 1⟩ 0) := by
  have hlen := ha.ok.len
  have hn2 := ha.ok.n2
  obtain ⟨hcp1, hcp2⟩ := ha.cap
  simp only at hcp1
  have hkn : k < n := hk
  have hroom : k * 64 + 64 ≤ L.length := by simp only at hlen; omega
  have e64 : ((m.length : Int) == 64) = true := by rw [beq_iff_eq]; omega
  have e64' : ((m.length : Int) != 64) = false := by simp; omega
  obtain ⟨A, c, rfl, hcc, hm, _⟩ := id hv
  unfold maxLen at hm
  have hpos : 0 < m.length := by omega
  have HM := Lib.hid (show 64 = Nat.min m.length 64 by rw [h64]; rfl)
  have HV := Lib.hid hv
  have H64 := Lib.hid h64
  have HL := Lib.hid hlen
  simp only at hn2 hw
  have c0 := ha.c0
  have c1 := ha.c1
  have c2 := ha.c2
  have c3 := ha.c3
  have f1 := ha.f 1
  have f2 := ha.f 2
  simp only at c0 c2 c3
  clear hlen hv h64
  obtain ⟨F', e, hF1, hF3⟩ := ha.fus
  injection e with e
  injection e with e
  injection e with e
  subst e
  have ha1 := (ha.ok.fus (a + 1) t rfl).1
  have g0 : w.cell? ⟨F, 0, none⟩ = some (.int .i64 ((a : Int) + 1)) := by simp [World.cell?, hF3]
  have fr0 : w.frozen? ⟨F, 0, none⟩ = false := free_of hF3 0
  have z0 : (((a : Int) + 1) == 0) = false := by rw [beq_eq_false_iff_ne]; omega
  obtain ⟨h1, hk1⟩ := ha.dec rfl
  have HV1 := Lib.hid (HV.out.setKind g0 (fun b e => by cases e) (.int .i64 (a : Int)))
  have b0 := h1.c0
  have b3 := h1.c3
  simp only at b0 b3
  clear hF3
  go_enter Try.func35, Try.ntmps35
  go_wp2_with (first
    | (go_at_call 89; refine hc.mono ?_; rintro e w' ⟨rfl, rfl⟩)
    | ((with_reducible show wpList _ _ _ (⟨some 77, _, _, _, _, _⟩ :: _) _ _); refine wpList_copy_page (o := ⟨some 77, _, _, _, _, _⟩) _ rfl (.tmp 75) (.tmp 76) rfl P 141 L J h1.bytes (k * 64) 64 64 rfl B _ m rfl HV1.out hpos 64 HM.out hroom ?_
       intro w2 hP2 hk2
       have h2 := h1.copied (m := m.take 64) hP2 hk2 (by rw [List.length_take]; show k * 64 + _ ≤ L.length; omega)
       have d3 := h2.c3
       have f3 := h2.f 3
       have h3 := h2.wrote hw))
  go_ret
  exact ⟨rfl, h3.dk, (hk1.rng (hk2.one ha.pz)).rng (Kept.cellr _ ha.gz)⟩
end Go.Proofs.Ytmcjefdnkcpghaa
/- THE WALK OF sector's Write. -/
namespace Go.Proofs.Ytmcjefdnkcpghaa
open Go.RowKit
set_option maxRecDepth 100000 in
theorem write_any {w : World} {Z : Nat → Prop} {g : Nat} {d : Dv} (h : Dk w Z g d) (i : Int) {B : Nat} {v : Value} {m : List UInt8} (hv : Byt w B v m) (hw : d.writes + 1 ≤ 1000000000) :
    Calls Try.prog 35 #[.pointer (some ⟨g, 0, none⟩), .int .i64 i, v] w (DkPost w Z g (d.write i m).1 (d.write i m).2) := by
  have hc := can_any h i
  have hr : Kept (fun b => ¬ Z b) w w := Kept.refl _ _
  by_cases hz : d.can i = 0
  · obtain ⟨hi0, hi1, hdead⟩ := can_zero hz
    rw [hz] at hc
    by_cases h64 : m.length = 64
    · have hwr : d.write i m = (match d.fuse with
        | some (0, t) => ({ d with L := splice d.L (i.toNat * 64) (m.take t), fuse := none, dead := true }, 32)
        | some (a + 1, t) => ({ d with L := splice d.L (i.toNat * 64) (m.take 64), fuse := some (a, t), writes := d.writes + 1 }, 0)
        | none => ({ d with L := splice d.L (i.toNat * 64) (m.take 64), writes := d.writes + 1 }, 0)) := by
        unfold Dv.write; rw [if_neg (by simp [hz]), if_neg (by simp [h64])] <;> rfl
      rw [hwr]
      obtain ⟨k, rfl⟩ : ∃ k : Nat, i = (k : Int) := ⟨i.toNat, by omega⟩
      rw [Int.toNat_natCast]
      obtain ⟨P, cp, J, fv, ha⟩ := h.at_
      obtain ⟨n, L, fus, dead, wr⟩ := d
      simp only at hw hi1
      have hkn : k < n := by omega
      cases fus with
      | none =>
        obtain rfl : fv = .pointer none := ha.fus
        exact write_none ha hkn hv h64 hw hc
      | some p =>
        obtain ⟨a, t⟩ := p
        obtain ⟨F, rfl, hF⟩ := ha.fus
        cases a with
        | zero => exact write_torn ha hkn hv h64 hw hc
        | succ a => exact write_dec ha hkn hv h64 hw hc
    · have hwr : d.write i m = (d, 2) := by unfold Dv.write; rw [if_neg (by simp [hz]), if_pos h64]
      rw [hwr]
      obtain ⟨A, c, rfl, hcc, hm, _⟩ := id hv
      unfold maxLen at hm
      have e64 : ((m.length : Int) == 64) = false := by rw [beq_eq_false_iff_ne]; omega
      have e64' : ((m.length : Int) != 64) = true := by simp; omega
      clear hwr h64 hz
      go_enter Try.func35, Try.ntmps35
      go_wp2_with (go_at_call 89; refine hc.mono ?_; rintro e w' ⟨rfl, rfl⟩)
      go_ret
      exact ⟨rfl, h, hr⟩
  · have hwr : d.write i m = (d, d.can i) := by unfold Dv.write; rw [if_pos hz]
    rw [hwr]
    obtain ⟨A, c, rfl, hcc, hm, _⟩ := id hv
    generalize d.can i = z at *
    have e1 : (z == 0) = false := by rw [beq_eq_false_iff_ne]; exact hz
    have e2 : (z != 0) = true := by simp [hz]
    clear hwr hz
    go_enter Try.func35, Try.ntmps35
    go_wp2_with (go_at_call 89; refine hc.mono ?_; rintro e w' ⟨rfl, rfl⟩)
    go_ret
    exact ⟨rfl, h, hr⟩
end Go.Proofs.Ytmcjefdnkcpghaa
/- THE WALKS OF sector's New AND Clone. -/
namespace Go.Proofs.Ytmcjefdnkcpghaa
open Go.RowKit
def zpage : Value := .agg (Array.replicate 64 (.int .u8 0))
theorem Try.pageInfo : (Try.prog.info? 141).map (fun i => (i.zero, i.size, i.bytes)) = some (some zpage, 64, 64) := by kernel_rfl
theorem made_zero (n : Nat) : madeCells zpage.cells (n * 64) = ((List.replicate (64 * n) (0 : UInt8)).map bV).toArray := by
  apply Array.ext
  · simp [madeCells, Nat.mul_comm]
  · intro i h1 h2
    have hc : zpage.cells = Array.replicate 64 (.int .u8 0) := by kernel_rfl
    have hz : ∀ j, j < 64 → zpage.cells[j]! = .int .u8 0 := by
      intro j hj
      rw [hc]
      simp [hj]
    have hs : zpage.cells.size = 64 := by rw [hc]; simp
    simp only [madeCells, Array.getElem_map, Array.getElem_range, hs]
    rw [hz _ (Nat.mod_lt _ (by decide))]
    simp [bV]
def Dv.new (n : Nat) : Dv := ⟨n, List.replicate (64 * n) 0, none, false, 0⟩
set_option maxRecDepth 100000 in
theorem new_any (n : Nat) (h1 : 1 ≤ n) (h2 : n ≤ 4096) (w : World) : Calls Try.prog 34 #[.int .i64 (n : Int)] w fun e w' => ∃ g, e = .returned (.pointer (some ⟨g, 0, none⟩)) ∧ Dk w' (fun b => w.heap.size ≤ b ∧ b < w'.heap.size) g (Dv.new n) ∧ Below w.heap.size w w' := by
  obtain ⟨i, hi, hz, hs, hb⟩ := info_parts Try.pageInfo
  have hmk : ∀ w, (Instr.makeSlice 99 (.int .i64 (n : Int)) (.int .i64 (n : Int))).run Try.prog w = .ok (.slice (some ⟨w.heap.size, 0, none⟩) n n) (w.alloc (.cells ((List.replicate (64 * n) (0 : UInt8)).map bV).toArray 141)) := fun w => by
    have := run_make (P := Try.prog) w 99 141 i zpage Try.underlying99 hi hz .i64 .i64 (n : Int) (n : Int) (by omega) (Int.le_refl _) (by rw [hb]; omega) (by omega)
    rw [this, Int.toNat_natCast, hs, made_zero]
  obtain ⟨Z, hZ⟩ : ∃ Z, Z = (List.replicate (64 * n) (0 : UInt8)).map bV := ⟨_, rfl⟩
  rw [← hZ] at hmk
  have HZ := Lib.hid hZ
  clear hZ hi hz hs hb
  have e1 : decide ((n : Int) < 1) = false := decide_eq_false (by omega)
  have e2 : decide ((4096 : Int) < (n : Int)) = false := decide_eq_false (by omega)
  go_enter Try.func34, Try.ntmps34
  go_wp2
  go_ret
  refine ⟨_, rfl, ⟨⟨h1, h2, by simp [Dv.new], fun a t e => (by cases e), by simp [Dv.new]⟩, by simp, w.heap.size, .pointer none, n, [], ⟨Nat.le_refl _, by omega⟩, ?_, ?_, ⟨Nat.le_refl _, by simp; omega⟩, rfl⟩, ?_⟩
  · have := heap_alloc_new (w.alloc (.cells Z.toArray 141)) (.cells #[.slice (some ⟨w.heap.size, 0, none⟩) n n, .pointer none, .bool false, .int .i64 0] 102 (0, 0))
    simpa [Dv.new] using this
  · rw [Below.heap_alloc _ _ _ (by simp)]
    have := heap_alloc_new w (.cells Z.toArray 141 (0, 0))
    rw [this, HZ.out, List.append_nil]; rfl
  · exact ((Below.refl _ w).alloc (Nat.le_refl _) _).alloc (by simp) _
end Go.Proofs.Ytmcjefdnkcpghaa
/- THE WALK OF sector's Clone. -/
namespace Go.Proofs.Ytmcjefdnkcpghaa
open Go.RowKit
def PClone (L : List UInt8) (n : Nat) (w : World) (e : Ending) (w' : World) : Prop :=
  ∃ P' c' J', e = .returned (.slice (some ⟨P', 0, none⟩) n c') ∧ w'.heap[P']? = some (.cells (L.map bV ++ J').toArray 141 (0, 0)) ∧ n ≤ c' ∧ c' ≤ 9223372036854775807 ∧ w.heap.size ≤ P' ∧ Below w.heap.size w w'
theorem wpList_append_pages (w : World) {ops : Array Oper} {rest : List Oper} {o : Oper} {a : Act} {Q : Exit → Act → World → Prop} (hgd : o.guard = none) (s x : Operand)
    (ho : o.op = .call { callee := .builtin .append, args := #[s, x], argTypes := #[99, 99] })
    (base : Nat) (v : Value) (hs : a.eval s = v) (hown : w.ownsRow base 141 64 v 0 []) (P n c : Nat) (L : List UInt8) (J : List Value) (hP : w.heap[P]? = some (.cells (L.map bV ++ J).toArray 141 (0, 0))) (hl : L.length = n * 64) (h1 : 1 ≤ n) (h2 : n ≤ 4096)
    (hx : a.eval x = .slice (some ⟨P, 0, none⟩) n c) (hbase : base ≤ w.heap.size) (hv : v.ownBlock = some base)
    (h : ∀ P' c' J' w', w'.heap[P']? = some (.cells (L.map bV ++ J').toArray 141 (0, 0)) → n ≤ c' → c' ≤ 9223372036854775807 → base ≤ P' → w.grownBy w' (some base) → wpList Try.prog ops Q rest (a.put o.dst (.slice (some ⟨P', 0, none⟩) n c')) w') :
    wpList Try.prog ops Q (o :: rest) a w := by
  refine wpList_plain hgd fun K hK => ?_
  obtain ⟨i, hi, hz, hsz, hby⟩ := info_parts Try.pageInfo
  obtain ⟨v', w', hrun, r1, r2, _, _⟩ := run_append_own_at (P := Try.prog) w base 99 o.type 141 i zpage 64 64 Try.underlying99 hi hz hsz hby (by kernel_rfl) (by decide) v 0 [] hown ⟨P, 0, none⟩ n c (L.map bV) (by rw [List.length_map]; exact hl)
    (fun j u hj => by
      rw [addr_mk_add]
      have hlt := (List.getElem?_eq_some_iff.1 hj).1
      simp only [World.cell?, hP, Nat.zero_add]
      rw [List.getElem?_toArray, List.getElem?_append_left hlt]
      simp [hj])
    (bsV_one L) (by unfold maxLen; omega) (by omega) hbase
  obtain ⟨q1, q2⟩ := r1
  rcases q2 with ⟨rfl, hn⟩ | ⟨g, cap, cur, rfl, hb, hg, hc, hm, hcs, ht⟩
  · omega
  · rw [List.nil_append] at ht
    unfold Oper.wp execOp
    simp only [ho, resolve, invoke, builtin, Sem.run_bind, Sem.run_pure, Result.andThen_ok, List.map_toArray, List.map_cons, List.map_nil, hs, hx, hrun]
    rw [Nat.zero_add] at *
    refine hK _ _ (h g cap (cur.toList.drop (n * 64)) w' ?_ hc (by unfold maxLen at hm; omega) hb (by rw [← hv]; exact r2))
    have : cur = (L.map bV ++ cur.toList.drop (n * 64)).toArray := by
      apply Array.toList_inj.1
      rw [← ht, List.take_append_drop]
    rw [← this]; exact hg
set_option maxRecDepth 100000 in
theorem pclone_any {w : World} {P n c : Nat} {L : List UInt8} {J : List Value} (hP : w.heap[P]? = some (.cells (L.map bV ++ J).toArray 141 (0, 0))) (hl : L.length = n * 64) (h1 : 1 ≤ n) (h2 : n ≤ 4096) :
    Calls Try.prog 93 #[.slice (some ⟨P, 0, none⟩) n c] w (PClone L n w) := by
  have hq := fun (w : World) (A : Option Addr) (n c : Nat) => Lib.run_eql_slice_nil (P := Try.prog) w 99 141 A n c 0 0 Try.underlying99
  have hO : (w.alloc (.cells #[] 141)).ownsRow w.heap.size 141 64 (.slice (some ⟨w.heap.size, 0, none⟩) 0 0) 0 [] := by
    have := World.ownsRow_lit (w := w) (e := 141) (size := 64) (base := w.heap.size) #[] 0 (Nat.le_refl _) (by simp [maxLen]) (by simp)
    exact this
  have hP' : (w.alloc (.cells #[] 141)).heap[P]? = some (.cells (L.map bV ++ J).toArray 141 (0, 0)) := (Below.heap_alloc _ _ _ (lt_of_block hP)).trans hP
  have HO := Lib.hid hO
  have HP := Lib.hid hP'
  clear hO hP' hP
  go_enter Try.func93, Try.ntmps93
  go_wp2_with (first
    | (at_builtin; go_must (refine wpList_append_pages _ rfl (.tmp 5) (.tmp 6) rfl w.heap.size _ rfl HO.out P n c L J HP.out hl h1 h2 rfl (by simp) rfl ?_)
       intro P' c' J' w5 hP5 hc5 hm5 hb5 hg5))
  go_ret
  exact ⟨P', c', J', rfl, hP5, hc5, hm5, hb5, ((Below.refl w.heap.size w).alloc (Nat.le_refl _) _).grown hg5 (by simp) (fun b hb => by cases hb; exact Nat.le_refl _)⟩
def ClonePost (w : World) (d : Dv) (e : Ending) (w' : World) : Prop := ∃ g, e = .returned (.pointer (some ⟨g, 0, none⟩)) ∧ Dk w' (fun b => w.heap.size ≤ b ∧ b < w'.heap.size) g d ∧ Below w.heap.size w w'
set_option maxRecDepth 100000 in
set_option maxHeartbeats 2000000 in
theorem clone_any {w : World} {Z : Nat → Prop} {g : Nat} {d : Dv} (h : Dk w Z g d) : Calls Try.prog 47 #[.pointer (some ⟨g, 0, none⟩)] w (ClonePost w d) := by
  obtain ⟨P, cp, J, fv, ha⟩ := h.at_
  have hlt := h.lt
  have hok := h.ok
  obtain ⟨n, L, fus, dead, wr⟩ := d
  have hlen : L.length = n * 64 := by have := hok.len; simp only at this; omega
  obtain ⟨hcp1, hcp2⟩ := ha.cap
  simp only at hcp1
  have c0 := ha.c0
  have c1 := ha.c1
  have c2 := ha.c2
  have c3 := ha.c3
  simp only at c0 c2 c3
  have hP' : (w.alloc (.cells #[.slice (some ⟨P, 0, none⟩) n cp, fv, .bool dead, .int .i64 (wr : Int)] 102)).heap[P]? = some (.cells (L.map bV ++ J).toArray 141 (0, 0)) := (Below.heap_alloc _ _ _ (lt_of_block ha.bytes)).trans ha.bytes
  have hpc := pclone_any (c := cp) hP' hlen hok.n1 hok.n2
  cases fus with
  | none =>
    obtain rfl : fv = .pointer none := ha.fus
    clear hP' h
    go_enter Try.func47, Try.ntmps47
    go_wp2_with (first
      | (go_at_call 93; refine hpc.mono ?_; rintro e w2 ⟨P', c', J', rfl, hP2, hc2, hm2, hb2, hbel2⟩
         have hnew : w2.heap[w.heap.size]? = some (.cells #[.slice (some ⟨P, 0, none⟩) n cp, .pointer none, .bool dead, .int .i64 (wr : Int)] 102 (0, 0)) := (hbel2.block w.heap.size (by simp)).trans (heap_alloc_new w _)
         have q0 : w2.cell? ⟨w.heap.size, 0, none⟩ = some (.slice (some ⟨P, 0, none⟩) n cp) := by simp [World.cell?, hnew]
         have qf := free_of hnew 0
         have d1 : w2.cell? ⟨g, 1, none⟩ = some (.pointer none) := (hbel2.cell (p := ⟨g, 1, none⟩) (by simp; omega)).trans ((World.cell?_alloc_lt w _ _ hlt).trans c1)))
    go_ret
    have hset := Lib.heap_setCell_same (i := 0) hnew (.slice (some ⟨P', 0, none⟩) n c')
    have hs2 := hbel2.size
    have hlt2 := lt_of_block hP2
    simp at hs2 hb2
    refine ⟨_, rfl, ⟨hok, ⟨Nat.le_refl _, by simp; omega⟩, P', .pointer none, c', J', ⟨hc2, hm2⟩, by simpa using hset, ?_, ⟨by omega, by simp; omega⟩, rfl⟩, ?_⟩
    · rw [Below.heap_setCell _ _ _ _ (fun e => by have e' : P' = w.heap.size := e; omega)]; exact hP2
    · exact (((Below.refl w.heap.size w).alloc (Nat.le_refl _) _).trans (hbel2.mono (by simp))).setCell (by simp) _
  | some p =>
    obtain ⟨a, t⟩ := p
    obtain ⟨F, rfl, hF1, hF3⟩ := ha.fus
    have hFlt := lt_of_block hF3
    have g0 : w.cell? ⟨F, 0, none⟩ = some (.int .i64 (a : Int)) := by simp [World.cell?, hF3]
    have g1 : w.cell? ⟨F, 1, none⟩ = some (.int .i64 (t : Int)) := by simp [World.cell?, hF3]
    clear hP' h hF3
    go_enter Try.func47, Try.ntmps47
    go_wp2_with (first
      | (go_at_call 93; refine hpc.mono ?_; rintro e w2 ⟨P', c', J', rfl, hP2, hc2, hm2, hb2, hbel2⟩
         have hnew : w2.heap[w.heap.size]? = some (.cells #[.slice (some ⟨P, 0, none⟩) n cp, .pointer (some ⟨F, 0, none⟩), .bool dead, .int .i64 (wr : Int)] 102 (0, 0)) := (hbel2.block w.heap.size (by simp)).trans (heap_alloc_new w _)
         have q0 : w2.cell? ⟨w.heap.size, 0, none⟩ = some (.slice (some ⟨P, 0, none⟩) n cp) := by simp [World.cell?, hnew]
         have q1 : w2.cell? ⟨w.heap.size, 1, none⟩ = some (.pointer (some ⟨F, 0, none⟩)) := by simp [World.cell?, hnew]
         have qf := free_of hnew 0
         have qg := free_of hnew 1
         have hne : ¬ w.heap.size = g := by omega
         have hne2 : ¬ w.heap.size = F := by omega
         have hszz : w.heap.size < w2.heap.size := lt_of_block hnew
         have d1 : w2.cell? ⟨g, 1, none⟩ = some (.pointer (some ⟨F, 0, none⟩)) := (hbel2.cell (p := ⟨g, 1, none⟩) (by simp; omega)).trans ((World.cell?_alloc_lt w _ _ hlt).trans c1)
         have k0 : w2.cell? ⟨F, 0, none⟩ = some (.int .i64 (a : Int)) := (hbel2.cell (p := ⟨F, 0, none⟩) (by simp; omega)).trans ((World.cell?_alloc_lt w _ _ hFlt).trans g0)
         have k1 : w2.cell? ⟨F, 1, none⟩ = some (.int .i64 (t : Int)) := (hbel2.cell (p := ⟨F, 1, none⟩) (by simp; omega)).trans ((World.cell?_alloc_lt w _ _ hFlt).trans g1)))
    go_ret
    have s1 := Lib.heap_setCell_same (i := 0) hnew (.slice (some ⟨P', 0, none⟩) n c')
    have s2 := Lib.heap_setCell_same (i := 1) s1 (.pointer (some ⟨w2.heap.size, 0, none⟩))
    have hs2 := hbel2.size
    have hlt2 := lt_of_block hP2
    simp at hs2 hb2
    have hsz : ((w2.setCell ⟨w.heap.size, 0, none⟩ (.slice (some ⟨P', 0, none⟩) n c')).setCell ⟨w.heap.size, 1, none⟩ (.pointer (some ⟨w2.heap.size, 0, none⟩))).heap.size = w2.heap.size := by simp [World.setCell]
    have hF := heap_alloc_new ((w2.setCell ⟨w.heap.size, 0, none⟩ (.slice (some ⟨P', 0, none⟩) n c')).setCell ⟨w.heap.size, 1, none⟩ (.pointer (some ⟨w2.heap.size, 0, none⟩))) (.cells #[.int .i64 (a : Int), .int .i64 (t : Int)] 139 (0, 0))
    rw [hsz] at hF
    refine ⟨_, rfl, ⟨hok, ⟨Nat.le_refl _, by simp; omega⟩, P', .pointer (some ⟨w2.heap.size, 0, none⟩), c', J', ⟨hc2, hm2⟩, ?_, ?_, ⟨by omega, by simp; omega⟩, w2.heap.size, rfl, ⟨by omega, by simp⟩, hF⟩, ?_⟩
    · rw [Below.heap_alloc _ _ _ (by rw [hsz]; exact hszz)]; simpa using s2
    · rw [Below.heap_alloc _ _ _ (by rw [hsz]; exact hlt2), Below.heap_setCell _ _ _ _ (fun e => by have e' : P' = w.heap.size := e; omega), Below.heap_setCell _ _ _ _ (fun e => by have e' : P' = w.heap.size := e; omega)]; exact hP2
    · exact (((((Below.refl w.heap.size w).alloc (Nat.le_refl _) _).trans (hbel2.mono (by simp))).setCell (by simp) _).setCell (by simp) _).alloc (by rw [hsz]; omega) _
end Go.Proofs.Ytmcjefdnkcpghaa
/- SECTORS, PLAINLY: what a write does to each of them. -/
namespace Go.Proofs.Ytmcjefdnkcpghaa
def bsA (l : List UInt8) : ByteArray := ⟨l.toArray⟩
theorem bsA_list (l : List UInt8) : (bsA l).data.toList = l := by simp [bsA]
theorem bsA_of (s : ByteArray) : bsA s.data.toList = s := by cases s; simp [bsA]
theorem bsA_size (l : List UInt8) : (bsA l).size = l.length := by simp [bsA, ByteArray.size]
theorem page_get (L : List UInt8) (i j : Nat) (hj : j < 64) : (page L i)[j]? = L[64 * i + j]? := by
  unfold page; rw [List.getElem?_take, if_pos hj, List.getElem?_drop]
theorem page_ext {L M : List UInt8} {i : Nat} (h : ∀ j, j < 64 → L[64 * i + j]? = M[64 * i + j]?) : page L i = page M i := by
  apply List.ext_getElem?
  intro j
  by_cases hj : j < 64
  · rw [page_get _ _ _ hj, page_get _ _ _ hj, h j hj]
  · have e1 : (page L i).length ≤ 64 := by unfold page; exact List.length_take_le _ _
    have e2 : (page M i).length ≤ 64 := by unfold page; exact List.length_take_le _ _
    rw [List.getElem?_eq_none (by omega), List.getElem?_eq_none (by omega)]
theorem splice_get (L m : List UInt8) (o k : Nat) (h : o + m.length ≤ L.length) : (splice L o m)[k]? = if o ≤ k ∧ k < o + m.length then m[k - o]? else L[k]? := by
  unfold splice
  have hl : (L.take o).length = o := by rw [List.length_take]; omega
  by_cases h1 : k < o
  · rw [List.getElem?_append_left (by omega), List.getElem?_take, if_pos h1, if_neg (by omega)]
  · rw [List.getElem?_append_right (by omega), hl]
    by_cases h2 : k < o + m.length
    · rw [List.getElem?_append_left (by omega), if_pos ⟨by omega, h2⟩]
    · rw [List.getElem?_append_right (by omega), List.getElem?_drop, if_neg (by omega)]
      congr 1; omega
/-- the sector that was written -/
theorem page_splice_same {L m : List UInt8} {n k t : Nat} (hl : L.length = 64 * n) (hk : k < n) (hm : m.length = 64) (ht : t ≤ 64) : page (splice L (k * 64) (m.take t)) k = m.take t ++ (page L k).drop t := by
  have htl : (m.take t).length = t := by rw [List.length_take]; omega
  apply List.ext_getElem?
  intro j
  by_cases hj : j < 64
  · rw [page_get _ _ _ hj, splice_get _ _ _ _ (by rw [htl]; omega), htl]
    by_cases h1 : j < t
    · rw [if_pos (by omega), List.getElem?_append_left (by omega)]; congr 1; omega
    · rw [if_neg (by omega), List.getElem?_append_right (by omega), htl, List.getElem?_drop, page_get _ _ _ (by omega)]
      congr 1; omega
  · have e1 : (page (splice L (k * 64) (m.take t)) k).length ≤ 64 := by unfold page; exact List.length_take_le _ _
    have e2 : (m.take t ++ (page L k).drop t).length = 64 := by rw [List.length_append, htl, List.length_drop, page_len hl hk]; omega
    rw [List.getElem?_eq_none (by omega), List.getElem?_eq_none (by omega)]
/-- all others -/
theorem page_splice_other {L m : List UInt8} {n k j t : Nat} (hl : L.length = 64 * n) (hk : k < n) (hm : m.length = 64) (ht : t ≤ 64) (hne : j ≠ k) : page (splice L (k * 64) (m.take t)) j = page L j := by
  have htl : (m.take t).length = t := by rw [List.length_take]; omega
  apply page_ext
  intro i hi
  rw [splice_get _ _ _ _ (by rw [htl]; omega), htl, if_neg]
  omega
/-- the sectors of a disk, as texts -/
def pagesS (L : List UInt8) (n : Nat) : List ByteArray := (List.range n).map fun i => bsA (page L i)
theorem pagesS_len (L : List UInt8) (n : Nat) : (pagesS L n).length = n := by simp [pagesS]
theorem pagesS_get (L : List UInt8) (n i : Nat) (h : i < n) : (pagesS L n)[i]? = some (bsA (page L i)) := by simp [pagesS, h]
theorem pagesS_write {L m : List UInt8} {n k t : Nat} (hl : L.length = 64 * n) (hk : k < n) (hm : m.length = 64) (ht : t ≤ 64) : (pagesS L n).set k (bsA (m.take t ++ (page L k).drop t)) = pagesS (splice L (k * 64) (m.take t)) n := by
  apply List.ext_getElem?
  intro i
  by_cases hi : i < n
  · rw [pagesS_get _ _ _ hi, List.getElem?_set]
    by_cases h : k = i
    · subst h
      rw [if_pos rfl, if_pos (by rw [pagesS_len]; exact hk), page_splice_same hl hk hm ht]
    · rw [if_neg h, pagesS_get _ _ _ hi, page_splice_other hl hk hm ht (fun e => h e.symm)]
  · rw [List.getElem?_eq_none (by rw [List.length_set, pagesS_len]; omega), List.getElem?_eq_none (by rw [pagesS_len]; omega)]
theorem page_full {L m : List UInt8} {n k : Nat} (hl : L.length = 64 * n) (hk : k < n) (hm : m.length = 64) : m.take 64 ++ (page L k).drop 64 = m := by
  rw [List.take_of_length_le (by omega), List.drop_of_length_le (by rw [page_len hl hk]; exact Nat.le_refl _), List.append_nil]
end Go.Proofs.Ytmcjefdnkcpghaa
/- THE WALKS OF octroiref09: Read, Fuse, Power. -/
namespace Go.Proofs.Ytmcjefdnkcpghaa
open Go.RowKit
def fuseR (After Torn : Int) : Option (Nat × Nat) → Prop
  | none => After = -1
  | some (a, t) => After = (a : Int) ∧ Torn = (t : Int)
/-- a slice of texts, in a block of texts -/
def SlS (w : World) (B : Nat) (v : Value) (l : List ByteArray) : Prop := Sl strK w B v l ∧ ∀ ad n c, v = .slice (some ad) n c → 0 < l.length → ∃ cs, w.heap[ad.block]? = some (.cells cs 9 (0, 0))
section
variable {w w' : World} {B B' base : Nat} {v : Value} {l : List ByteArray}
theorem SlS.below (h : SlS w B v l) (k : Below B w w') : SlS w' B v l := ⟨h.1.below k, fun ad n c e h0 => by
  obtain ⟨cs, hc⟩ := h.2 ad n c e h0
  obtain ⟨A, c', hv, _, _, hr⟩ := h.1
  obtain ⟨ad', hA, hb, _⟩ := hr h0
  rw [hv, hA] at e
  cases e
  exact ⟨cs, (k.block _ hb).trans hc⟩⟩
theorem SlS.more (h : SlS w B v l) (hB : B ≤ B') : SlS w B' v l := ⟨h.1.more hB, h.2⟩
theorem SlS.heap (h : SlS w B v l) : SlS w w.heap.size v l := ⟨h.1.heap, h.2⟩
theorem SlS.drew (h : SlS w B v l) : SlS w.drew B v l := h
theorem Ow.sls (h : Ow strK w base v l) : SlS w w.heap.size v l := ⟨h.sl, fun ad n c e h0 => by
  subst e
  rcases h.2 with ⟨e, _⟩ | ⟨g, cap, cur, e, _, hg, _⟩
  · cases e
  · cases e; exact ⟨cur, hg⟩⟩
end
/-- the document's disk: a value that tells the same as d -/
def Rv (w : World) (B : Nat) (v : Value) (d : Dv) : Prop :=
  ∃ A c After Torn, v = .agg #[.slice A d.n c, .int .i64 After, .int .i64 Torn, .bool d.dead, .int .i64 (d.writes : Int)] ∧ SlS w B (.slice A d.n c) (pagesS d.L d.n) ∧ fuseR After Torn d.fuse ∧ (-9223372036854775808 ≤ Torn ∧ Torn ≤ 9223372036854775807)
theorem Rv.below {w w' : World} {B : Nat} {v : Value} {d : Dv} (h : Rv w B v d) (k : Below B w w') : Rv w' B v d := by
  obtain ⟨A, c, a, t, e, hs, hf, ht⟩ := h; exact ⟨A, c, a, t, e, hs.below k, hf, ht⟩
theorem Rv.more {w : World} {B B' : Nat} {v : Value} {d : Dv} (h : Rv w B v d) (k : B ≤ B') : Rv w B' v d := by
  obtain ⟨A, c, a, t, e, hs, hf, ht⟩ := h; exact ⟨A, c, a, t, e, hs.more k, hf, ht⟩
theorem Rv.heap {w : World} {B : Nat} {v : Value} {d : Dv} (h : Rv w B v d) : Rv w w.heap.size v d := by
  obtain ⟨A, c, a, t, e, hs, hf, ht⟩ := h; exact ⟨A, c, a, t, e, hs.heap, hf, ht⟩
def RReadPost (w : World) (d : Dv) (i : Int) (e : Ending) (w' : World) : Prop := e = .returned (.tuple #[.string (if d.can i = 0 then bsA (page d.L i.toNat) else ⟨#[]⟩), .int .i64 (d.can i)]) ∧ Below w.heap.size w w'
set_option maxRecDepth 100000 in
theorem rread_any {w : World} {B : Nat} {v : Value} {d : Dv} (h : Rv w B v d) (hok : d.ok) (i : Int) : Calls Try.prog 43 #[v, .int .i64 i] w (RReadPost w d i) := by
  obtain ⟨A, c, After, Torn, rfl, hs, hf, ht⟩ := h.heap
  have hn := hok.n2
  have hn1 := hok.n1
  have hbel : ∀ o, Below w.heap.size w (w.alloc o) := fun o => (Below.refl _ _).alloc (Nat.le_refl _) o
  have HB := Lib.hid hbel
  clear hbel
  by_cases hz : d.can i = 0
  · obtain ⟨hi0, hi1, hdead⟩ := can_zero hz
    obtain ⟨k, rfl⟩ : ∃ k : Nat, i = (k : Int) := ⟨i.toNat, by omega⟩
    have hk : k < d.n := by omega
    obtain ⟨ad, c', hv, hc1, hc2, hb, hcell⟩ := hs.1.at_ k (by rw [pagesS_len]; exact hk)
    rw [pagesS_len] at hv hc1
    simp only [Value.slice.injEq, true_and] at hv
    obtain ⟨rfl, rfl⟩ := hv
    have hg : (pagesS d.L d.n)[k]'(by rw [pagesS_len]; exact hk) = bsA (page d.L k) := by simp [pagesS]
    rw [hg] at hcell
    have hcell' : (w.alloc (.cells #[.slice (some ad) d.n c, .int .i64 After, .int .i64 Torn, .bool d.dead, .int .i64 (d.writes : Int)] 55)).cell? (ad.add k) = some (.string (bsA (page d.L k))) :=
      (World.cell?_alloc_lt w _ _ (by rw [addr_add_block]; exact hb)).trans hcell
    unfold RReadPost
    rw [if_pos hz, hz, Int.toNat_natCast, hdead]
    rw [hdead] at hcell'
    unfold maxLen at hc2
    generalize page d.L k = pg at *
    generalize d.n = n at *
    clear hcell hs hz hg hf
    have e1 : decide ((k : Int) < 0) = false := decide_eq_false (by omega)
    have e2 : decide ((n : Int) ≤ (k : Int)) = false := decide_eq_false (by omega)
    go_enter Try.func43, Try.ntmps43
    go_wp2
    go_ret2
    exact ⟨rfl, HB.out _⟩
  · unfold RReadPost
    rw [if_neg hz]
    clear hs hf
    unfold Dv.can at hz ⊢
    cases hd : d.dead with
    | true =>
      go_enter Try.func43, Try.ntmps43
      go_wp2
      go_ret2
      exact ⟨rfl, HB.out _⟩
    | false =>
      rw [hd, if_neg (by simp)] at hz
      have hr : i < 0 ∨ (d.n : Int) ≤ i := by
        rcases Classical.em (i < 0 ∨ (d.n : Int) ≤ i) with h | h
        · exact h
        · rw [if_neg h] at hz; exact absurd rfl hz
      rw [if_neg (by simp), if_pos hr]
      clear hz hd
      generalize d.n = n at *
      by_cases h0 : i < 0
      · go_enter Try.func43, Try.ntmps43
        go_wp2
        go_ret2
        exact ⟨rfl, HB.out _⟩
      · have e0 : decide (i < 0) = false := decide_eq_false h0
        have e1 : (n : Int) ≤ i := by omega
        go_enter Try.func43, Try.ntmps43
        go_wp2
        go_ret2
        exact ⟨rfl, HB.out _⟩
def RPost (w : World) (d' : Dv) (r : Int) (e : Ending) (w' : World) : Prop := ∃ v', e = .returned (.tuple #[v', .int .i64 r]) ∧ Rv w' w'.heap.size v' d' ∧ Below w.heap.size w w'
set_option maxRecDepth 100000 in
theorem rfuse_any {w : World} {B : Nat} {v : Value} {d : Dv} (h : Rv w B v d) (after torn : Int) (_ha : after ≤ 9223372036854775807) : Calls Try.prog 44 #[v, .int .i64 after, .int .i64 torn] w (RPost w (d.fuses after torn).1 (d.fuses after torn).2) := by
  obtain ⟨A, c, After, Torn, rfl, hs, hf, ht⟩ := h.heap
  have HS := Lib.hid hs
  have HF := Lib.hid hf
  clear hs hf
  obtain ⟨n, L, fus, dead, wr⟩ := d
  unfold Dv.fuses
  by_cases h1 : after < 0
  · rw [if_pos (.inl h1)]
    go_enter Try.func44, Try.ntmps44
    go_wp2
    have hb := (((Below.refl w.heap.size w).alloc (Nat.le_refl _) (.cells #[.slice A n c, .int .i64 After, .int .i64 Torn, .bool dead, .int .i64 (wr : Int)] 55)).alloc (by simp) (.cells #[.slice A n c, .int .i64 After, .int .i64 Torn, .bool dead, .int .i64 (wr : Int)] 55))
    exact bodyPost_ret (v := .tuple #[.agg #[.slice A n c, .int .i64 After, .int .i64 Torn, .bool dead, .int .i64 (wr : Int)], .int .i64 2]) (by simp [results, Try.results44, go_sem]) rfl ⟨_, rfl, ⟨A, c, After, Torn, rfl, (HS.out.below hb).heap, HF.out, ht⟩, hb⟩
  · have e1 : decide (after < 0) = false := decide_eq_false h1
    by_cases h2 : torn < 0
    · rw [if_pos (.inr (.inl h2))]
      go_enter Try.func44, Try.ntmps44
      go_wp2
      have hb := (((Below.refl w.heap.size w).alloc (Nat.le_refl _) (.cells #[.slice A n c, .int .i64 After, .int .i64 Torn, .bool dead, .int .i64 (wr : Int)] 55)).alloc (by simp) (.cells #[.slice A n c, .int .i64 After, .int .i64 Torn, .bool dead, .int .i64 (wr : Int)] 55))
      exact bodyPost_ret (v := .tuple #[.agg #[.slice A n c, .int .i64 After, .int .i64 Torn, .bool dead, .int .i64 (wr : Int)], .int .i64 2]) (by simp [results, Try.results44, go_sem]) rfl ⟨_, rfl, ⟨A, c, After, Torn, rfl, (HS.out.below hb).heap, HF.out, ht⟩, hb⟩
    · have e2 : decide (torn < 0) = false := decide_eq_false h2
      by_cases h3 : 64 < torn
      · rw [if_pos (.inr (.inr h3))]
        go_enter Try.func44, Try.ntmps44
        go_wp2
        have hb := (((Below.refl w.heap.size w).alloc (Nat.le_refl _) (.cells #[.slice A n c, .int .i64 After, .int .i64 Torn, .bool dead, .int .i64 (wr : Int)] 55)).alloc (by simp) (.cells #[.slice A n c, .int .i64 After, .int .i64 Torn, .bool dead, .int .i64 (wr : Int)] 55))
        exact bodyPost_ret (v := .tuple #[.agg #[.slice A n c, .int .i64 After, .int .i64 Torn, .bool dead, .int .i64 (wr : Int)], .int .i64 2]) (by simp [results, Try.results44, go_sem]) rfl ⟨_, rfl, ⟨A, c, After, Torn, rfl, (HS.out.below hb).heap, HF.out, ht⟩, hb⟩
      · have e3 : decide (64 < torn) = false := decide_eq_false h3
        rw [if_neg (by omega)]
        have hfz : fuseR after torn (some (after.toNat, torn.toNat)) := ⟨by omega, by omega⟩
        have HFZ := Lib.hid hfz
        have htz : -9223372036854775808 ≤ torn ∧ torn ≤ 9223372036854775807 := by omega
        have HTZ := Lib.hid htz
        clear hfz htz h1 h2 h3
        go_enter Try.func44, Try.ntmps44
        go_wp2
        have hb := (((Below.refl w.heap.size w).alloc (Nat.le_refl _) (.cells #[.slice A n c, .int .i64 after, .int .i64 torn, .bool dead, .int .i64 (wr : Int)] 55)).alloc (by simp) (.cells #[.slice A n c, .int .i64 after, .int .i64 torn, .bool dead, .int .i64 (wr : Int)] 55))
        exact bodyPost_ret (v := .tuple #[.agg #[.slice A n c, .int .i64 after, .int .i64 torn, .bool dead, .int .i64 (wr : Int)], .int .i64 0]) (by simp [results, Try.results44, go_sem]) rfl ⟨_, rfl, ⟨A, c, after, torn, rfl, (HS.out.below hb).heap, HFZ.out, HTZ.out⟩, hb⟩
set_option maxRecDepth 100000 in
theorem rpower_any {w : World} {B : Nat} {v : Value} {d : Dv} (h : Rv w B v d) : Calls Try.prog 46 #[v] w fun e w' => ∃ v', e = .returned v' ∧ Rv w' w'.heap.size v' { d with fuse := none, dead := false } ∧ Below w.heap.size w w' := by
  obtain ⟨A, c, After, Torn, rfl, hs, hf, ht⟩ := h.heap
  have HS := Lib.hid hs
  clear hs hf
  obtain ⟨n, L, fus, dead, wr⟩ := d
  go_enter Try.func46, Try.ntmps46
  go_wp2
  have hb := (((Below.refl w.heap.size w).alloc (Nat.le_refl _) (.cells #[.slice A n c, .int .i64 (-1), .int .i64 Torn, .bool false, .int .i64 (wr : Int)] 55)).alloc (by simp) (.cells #[.slice A n c, .int .i64 (-1), .int .i64 Torn, .bool false, .int .i64 (wr : Int)] 55))
  exact bodyPost_ret (v := .agg #[.slice A n c, .int .i64 (-1), .int .i64 Torn, .bool false, .int .i64 (wr : Int)]) (by simp [results, Try.results46, go_sem]) rfl ⟨_, rfl, ⟨A, c, -1, Torn, rfl, (HS.out.below hb).heap, rfl, ht⟩, hb⟩
end Go.Proofs.Ytmcjefdnkcpghaa
