/- WHAT STANDS BETWEEN TWO STEPS OF SectorPlays. -/
import Derived.Test.YtmcjefdnkcpghaaSeQ
import Derived.Test.YtmcjefdnkcpghaaStv
namespace Go.Proofs.Ytmcjefdnkcpghaa
open Go.RowKit
/-- a block of a disk -/
def KindD (w : World) (b : Nat) : Prop := ∃ cs t, w.heap[b]? = some (.cells cs t (0, 0)) ∧ (t = 102 ∨ t = 141 ∨ t = 139)
theorem KindD.lt {w : World} {b : Nat} (h : KindD w b) : b < w.heap.size := by obtain ⟨cs, t, h, _⟩ := h; exact lt_of_block h
theorem KindD.ne {w : World} {b x : Nat} {cs : Array Value} {t : TypeId} {fr : Nat × Nat} (h : KindD w b) (hx : w.heap[x]? = some (.cells cs t fr)) (h1 : t ≠ 102) (h2 : t ≠ 141) (h3 : t ≠ 139) : b ≠ x := by
  obtain ⟨cs', t', h, ht⟩ := h
  refine kind_ne h hx ?_
  rcases ht with rfl | rfl | rfl
  · exact h1.symm
  · exact h2.symm
  · exact h3.symm
/-- a disk's own blocks, no others -/
theorem Dk.tight {w : World} {Z : Nat → Prop} {g : Nat} {d : Dv} (h : Dk w Z g d) : ∃ Z0 : Nat → Prop, Dk w Z0 g d ∧ (∀ b, Z0 b → Z b) ∧ (∀ b, Z0 b → KindD w b) := by
  obtain ⟨P, fv, c, J, hcap, h1, h2, h3, h4⟩ := h.st
  refine ⟨fun b => Z b ∧ KindD w b, ⟨h.ok, ⟨h.gz, _, _, h1, .inl rfl⟩, P, fv, c, J, hcap, h1, h2, ⟨h3, _, _, h2, .inr (.inl rfl)⟩, ?_⟩, fun b hb => hb.1, fun b hb => hb.2⟩
  cases hf : d.fuse with
  | none => rw [hf] at h4; exact h4
  | some p =>
    obtain ⟨a, t⟩ := p
    rw [hf] at h4
    obtain ⟨F, e, k1, k2⟩ := h4
    exact ⟨F, e, ⟨k1, _, _, k2, .inr (.inr rfl)⟩, k2⟩
theorem KindD.below {w w' : World} {b : Nat} (h : KindD w b) (hb : Below w.heap.size w w') : KindD w' b := by
  obtain ⟨cs, t, hh, ht⟩ := h
  exact ⟨cs, t, (hb.block b (lt_of_block hh)).trans hh, ht⟩
/-- the rows of the document's disk stand, whatever the disk's blocks turn to -/
theorem SlS.kept {w w' : World} {B : Nat} {v : Value} {l : List ByteArray} {Z : Nat → Prop} (h : SlS w B v l) (hZ : ∀ b, Z b → KindD w b) (k : Kept (fun b => ¬ Z b) w w') : SlS w' w'.heap.size v l := by
  obtain ⟨⟨A, c, hv, hc, hm, hr⟩, h2⟩ := h
  by_cases h0 : 0 < l.length
  · obtain ⟨ad, hA, hb, hx⟩ := hr h0
    subst hA hv
    obtain ⟨cs, hcs⟩ := h2 ad l.length c rfl h0
    have hn : ¬ Z ad.block := fun hz => (hZ _ hz).ne hcs (by decide) (by decide) (by decide) rfl
    have hlt := lt_of_block hcs
    have hk := (k.block _ hlt hn).trans hcs
    refine ⟨⟨some ad, c, rfl, hc, hm, fun _ => ⟨ad, rfl, lt_of_block hk, fun j x hj => ?_⟩⟩, fun ad' n' c' e _ => ?_⟩
    · exact (k.cell (p := ad.add j) (by rw [addr_add_block]; exact hlt) (by rw [addr_add_block]; exact hn)).trans (hx j x hj)
    · cases e; exact ⟨cs, hk⟩
  · exact ⟨⟨A, c, hv, hc, hm, fun h => absurd h h0⟩, fun ad n' c' e h => absurd h h0⟩
theorem Rv.kept {w w' : World} {B : Nat} {v : Value} {d : Dv} {Z : Nat → Prop} (h : Rv w B v d) (hZ : ∀ b, Z b → KindD w b) (k : Kept (fun b => ¬ Z b) w w') : Rv w' w'.heap.size v d := by
  obtain ⟨A, c, a, t, e, hs, hf, ht⟩ := h; exact ⟨A, c, a, t, e, hs.kept hZ k, hf, ht⟩
/-- the box of the document's disk -/
def RBox (w : World) (b : Nat) (v : Value) : Prop := ∃ v0 v1 v2 v3 v4, v = .agg #[v0, v1, v2, v3, v4] ∧ w.heap[b]? = some (.cells #[v0, v1, v2, v3, v4] 55 (0, 0))
theorem RBox.kept {w w' : World} {b : Nat} {v : Value} {Z : Nat → Prop} (h : RBox w b v) (hZ : ∀ b, Z b → KindD w b) (k : Kept (fun b => ¬ Z b) w w') : RBox w' b v := by
  obtain ⟨v0, v1, v2, v3, v4, e, hb⟩ := h
  exact ⟨v0, v1, v2, v3, v4, e, k.heap hb (fun hz => (hZ _ hz).ne hb (by decide) (by decide) (by decide) rfl)⟩
theorem RBox.below {w w' : World} {b : Nat} {v : Value} (h : RBox w b v) (k : Below w.heap.size w w') : RBox w' b v := by
  obtain ⟨v0, v1, v2, v3, v4, e, hb⟩ := h
  exact ⟨v0, v1, v2, v3, v4, e, (k.block b (lt_of_block hb)).trans hb⟩
theorem RBox.set {w : World} {b : Nat} {v : Value} (h : RBox w b v) (v0 v1 v2 v3 v4 : Value) :
    RBox (((((w.setCell ⟨b, 0, none⟩ v0).setCell ⟨b, 1, none⟩ v1).setCell ⟨b, 2, none⟩ v2).setCell ⟨b, 3, none⟩ v3).setCell ⟨b, 4, none⟩ v4) b (.agg #[v0, v1, v2, v3, v4]) ∧
    Kept (fun x => x ≠ b) w (((((w.setCell ⟨b, 0, none⟩ v0).setCell ⟨b, 1, none⟩ v1).setCell ⟨b, 2, none⟩ v2).setCell ⟨b, 3, none⟩ v3).setCell ⟨b, 4, none⟩ v4) := by
  obtain ⟨u0, u1, u2, u3, u4, e, hb⟩ := h
  have s0 := Lib.heap_setCell_same (i := 0) hb v0
  have s1 := Lib.heap_setCell_same (i := 1) s0 v1
  have s2 := Lib.heap_setCell_same (i := 2) s1 v2
  have s3 := Lib.heap_setCell_same (i := 3) s2 v3
  have s4 := Lib.heap_setCell_same (i := 4) s3 v4
  refine ⟨⟨v0, v1, v2, v3, v4, rfl, by simpa using s4⟩, ?_⟩
  exact (((((Kept.refl _ w).setCell _ _ (fun _ h => h rfl)).setCell _ _ (fun _ h => h rfl)).setCell _ _ (fun _ h => h rfl)).setCell _ _ (fun _ h => h rfl)).setCell _ _ (fun _ h => h rfl)
/-- between two steps: the disk g, the box b6; S: the heap's size when the law began -/
structure Pl (w0 : World) (b6 g : Nat) (d : Dv) (Z : Nat → Prop) (v : Value) (w : World) : Prop where
  dk : Dk w Z g d
  hi : ∀ b, Z b → w0.heap.size ≤ b
  kd : ∀ b, Z b → KindD w b
  box : RBox w b6 v
  lo : w0.heap.size ≤ b6
  rv : Rv w w.heap.size v d
  below : Below w0.heap.size w0 w
theorem Pl.grow {w0 w w' : World} {b6 g : Nat} {d : Dv} {Z : Nat → Prop} {v : Value} (h : Pl w0 b6 g d Z v w) (hb : Below w.heap.size w w') : Pl w0 b6 g d Z v w' :=
  ⟨h.dk.below hb, h.hi, fun b hz => (h.kd b hz).below hb, h.box.below hb, h.lo, (h.rv.below hb).heap, h.below.trans (hb.mono h.below.size)⟩
/-- behind a call that wrote the disk: all but the disk and the document's are alike; the old document's disk still reads so -/
structure Pm (w0 : World) (b6 g : Nat) (d' : Dv) (Z : Nat → Prop) (v : Value) (d : Dv) (w : World) : Prop where
  dk : Dk w Z g d'
  hi : ∀ b, Z b → w0.heap.size ≤ b
  kd : ∀ b, Z b → KindD w b
  box : RBox w b6 v
  lo : w0.heap.size ≤ b6
  rv : Rv w w.heap.size v d
  below : Below w0.heap.size w0 w
theorem Pm.grow {w0 w w' : World} {b6 g : Nat} {d d' : Dv} {Z : Nat → Prop} {v : Value} (h : Pm w0 b6 g d' Z v d w) (hb : Below w.heap.size w w') : Pm w0 b6 g d' Z v d w' :=
  ⟨h.dk.below hb, h.hi, fun b hz => (h.kd b hz).below hb, h.box.below hb, h.lo, (h.rv.below hb).heap, h.below.trans (hb.mono h.below.size)⟩
theorem Pl.wrote {w0 w w' : World} {b6 g g' : Nat} {d d' : Dv} {Z Z' : Nat → Prop} {v : Value} (h : Pl w0 b6 g d Z v w) (hd : Dk w' Z' g' d') (hk : Kept (fun b => ¬ Z b) w w') (hz : ∀ b, Z' b → Z b ∨ w.heap.size ≤ b) : ∃ Z2, Pm w0 b6 g' d' Z2 v d w' := by
  obtain ⟨Z2, h2, h3, h4⟩ := hd.tight
  refine ⟨Z2, h2, fun b hb => ?_, h4, h.box.kept h.kd hk, h.lo, h.rv.kept h.kd hk, ?_⟩
  · rcases hz b (h3 b hb) with h5 | h5
    · exact h.hi b h5
    · exact Nat.le_trans h.below.size h5
  · exact h.below.trans (hk.toBelow (B := w0.heap.size) h.below.size (fun b hb hz => by have := h.hi b hz; omega))
theorem Pm.same {w0 w : World} {b6 g : Nat} {d : Dv} {Z : Nat → Prop} {v : Value} (h : Pm w0 b6 g d Z v d w) : Pl w0 b6 g d Z v w := ⟨h.dk, h.hi, h.kd, h.box, h.lo, h.rv, h.below⟩
theorem Pl.toPm {w0 w : World} {b6 g : Nat} {d : Dv} {Z : Nat → Prop} {v : Value} (h : Pl w0 b6 g d Z v w) : Pm w0 b6 g d Z v d w := ⟨h.dk, h.hi, h.kd, h.box, h.lo, h.rv, h.below⟩
theorem Rv.other {w w' : World} {B b6 : Nat} {v : Value} {d : Dv} (h : Rv w B v d) {u : Value} (hb : RBox w b6 u) (k : Kept (fun x => x ≠ b6) w w') : Rv w' w'.heap.size v d := by
  obtain ⟨A, c, a, t, e, hs, hf, ht⟩ := h
  refine ⟨A, c, a, t, e, ?_, hf, ht⟩
  obtain ⟨⟨A', c', hv, hc, hm, hr⟩, h2⟩ := hs
  obtain ⟨u0, u1, u2, u3, u4, _, hbx⟩ := hb
  by_cases h0 : 0 < (pagesS d.L d.n).length
  · obtain ⟨ad, hA, hlt, hx⟩ := hr h0
    rw [pagesS_len] at hv
    cases hv
    subst hA
    obtain ⟨cs, hcs⟩ := h2 ad _ c rfl h0
    have hn : ad.block ≠ b6 := kind_ne hcs hbx (by decide)
    have hl := lt_of_block hcs
    have hk := (k.block _ hl hn).trans hcs
    refine ⟨⟨some ad, c, by rw [pagesS_len], by rw [pagesS_len] at *; exact hc, hm, fun _ => ⟨ad, rfl, lt_of_block hk, fun j x hj => ?_⟩⟩, fun ad' n' c' e _ => ?_⟩
    · exact (k.cell (p := ad.add j) (by rw [addr_add_block]; exact hl) (by rw [addr_add_block]; exact hn)).trans (hx j x hj)
    · cases e; exact ⟨cs, hk⟩
  · exact ⟨⟨A', c', hv, hc, hm, fun h => absurd h h0⟩, fun ad n' c' e h => absurd h h0⟩
/-- the document's disk is put into its box -/
theorem Pm.put {w0 w : World} {b6 g : Nat} {d d' : Dv} {Z : Nat → Prop} {v : Value} {v0 v1 v2 v3 v4 : Value} (h : Pm w0 b6 g d' Z v d w) (hr : Rv w w.heap.size (.agg #[v0, v1, v2, v3, v4]) d') :
    Pl w0 b6 g d' Z (.agg #[v0, v1, v2, v3, v4]) (((((w.setCell ⟨b6, 0, none⟩ v0).setCell ⟨b6, 1, none⟩ v1).setCell ⟨b6, 2, none⟩ v2).setCell ⟨b6, 3, none⟩ v3).setCell ⟨b6, 4, none⟩ v4) := by
  obtain ⟨hs, hk⟩ := h.box.set v0 v1 v2 v3 v4
  obtain ⟨u0, u1, u2, u3, u4, _, hbx⟩ := id h.box
  have hne : ∀ b, Z b → b ≠ b6 := fun b hz => (h.kd b hz).ne hbx (by decide) (by decide) (by decide)
  refine ⟨h.dk.kept hk hne, h.hi, fun b hz => ?_, hs, h.lo, hr.other h.box hk, ?_⟩
  · obtain ⟨cs, t, hh, ht⟩ := h.kd b hz
    exact ⟨cs, t, hk.heap hh (hne b hz), ht⟩
  · exact h.below.trans (hk.toBelow (B := w0.heap.size) h.below.size (fun b hb e => by have := h.lo; omega))
theorem Rv.form {w : World} {B : Nat} {v : Value} {d : Dv} (h : Rv w B v d) : ∃ A c After Torn, v = .agg #[.slice A d.n c, .int .i64 After, .int .i64 Torn, .bool d.dead, .int .i64 (d.writes : Int)] := by
  obtain ⟨A, c, a, t, e, _⟩ := h; exact ⟨A, c, a, t, e⟩
/-- the box's cells -/
theorem RBox.cells {w : World} {b : Nat} {v0 v1 v2 v3 v4 : Value} (h : RBox w b (.agg #[v0, v1, v2, v3, v4])) : w.cell? ⟨b, 0, none⟩ = some v0 ∧ w.cell? ⟨b, 1, none⟩ = some v1 ∧ w.cell? ⟨b, 2, none⟩ = some v2 ∧ w.cell? ⟨b, 3, none⟩ = some v3 ∧ w.cell? ⟨b, 4, none⟩ = some v4 ∧
    w.frozen? ⟨b, 0, none⟩ = false ∧ w.frozen? ⟨b, 1, none⟩ = false ∧ w.frozen? ⟨b, 2, none⟩ = false ∧ w.frozen? ⟨b, 3, none⟩ = false ∧ w.frozen? ⟨b, 4, none⟩ = false := by
  obtain ⟨u0, u1, u2, u3, u4, e, hb⟩ := h
  cases e
  refine ⟨by simp [World.cell?, hb], by simp [World.cell?, hb], by simp [World.cell?, hb], by simp [World.cell?, hb], by simp [World.cell?, hb], free_of hb 0, free_of hb 1, free_of hb 2, free_of hb 3, free_of hb 4⟩
theorem Byt.strA {w : World} {B : Nat} {v : Value} {l : List UInt8} (h : Byt w B v l) : (convert 23 9 v).run Try.prog w = .ok (.string (bsA l)) w := h.str
theorem write_writes (d : Dv) (i : Int) (m : List UInt8) : (d.write i m).1.writes ≤ d.writes + 1 := by
  unfold Dv.write
  split
  · exact Nat.le_succ _
  · split
    · exact Nat.le_succ _
    · split <;> simp
theorem fuses_writes (d : Dv) (a t : Int) : (d.fuses a t).1.writes = d.writes := by unfold Dv.fuses; split <;> rfl
set_option maxRecDepth 100000 in
theorem new_bad (n : Int) (h : n < 1 ∨ 4096 < n) (w : World) : Calls Try.prog 34 #[.int .i64 n] w fun e w' => e = .returned (.pointer none) ∧ w = w' := by
  rcases h with h | h
  · go_enter Try.func34, Try.ntmps34
    go_wp2
    go_ret
    exact ⟨rfl, rfl⟩
  · have e1 : decide (n < 1) = false := decide_eq_false (by omega)
    go_enter Try.func34, Try.ntmps34
    go_wp2
    go_ret
    exact ⟨rfl, rfl⟩
end Go.Proofs.Ytmcjefdnkcpghaa
