/- A ROW OF BYTE SLICES OF THE CALL'S OWN, AND WHAT ITS ELEMENTS READ AS. -/
import Derived.Test.YtmcjefdnkcpghaaTaC
import Derived.Test.YtmcjefdnkcpghaaMem2
namespace Go.Proofs.Ytmcjefdnkcpghaa
open Go.RowKit
abbrev Tri := Option Addr × Nat × Nat
/-- an element: a slice, as a value -/
def triK : Kd Tri := ⟨23, fun t => .slice t.1 t.2.1 t.2.2, .slice none 0 0, 24, fun _ => rfl, by kernel_rfl, rfl⟩
/-- v reads as l; its block is among D, and is no row of slices -/
def BytN (D : Nat → Prop) (w : World) (v : Value) (l : List UInt8) : Prop :=
  Byt w w.heap.size v l ∧ ∀ ad n c, v = .slice (some ad) n c → 0 < l.length → D ad.block ∧ ∃ cs t fr, w.heap[ad.block]? = some (.cells cs t fr) ∧ t ≠ 23 ∧ t ≠ 35
section
variable {D D' S : Nat → Prop} {w w' : World} {base base' B : Nat} {v x : Value} {l : List UInt8} {ls : List (List UInt8)} {ts : List Tri} {t : Tri}
theorem BytN.kept (h : BytN D w v l) (k : Kept S w w') (hs : ∀ b, D b → S b) : BytN D w' v l := by
  obtain ⟨⟨A, c, hv, hc, hm, hr⟩, h2⟩ := h
  by_cases h0 : 0 < l.length
  · obtain ⟨ad, hA, hb, hx⟩ := hr h0
    subst hA hv
    obtain ⟨hd, cs, t, fr, hh, ht⟩ := h2 ad l.length c rfl h0
    have hlt := lt_of_block hh
    have hk := k.heap hh (hs _ hd)
    refine ⟨⟨some ad, c, rfl, hc, hm, fun _ => ⟨ad, rfl, lt_of_block hk, fun j y hj => ?_⟩⟩, fun ad' n' c' e _ => ?_⟩
    · exact (k.cell (p := ad.add j) (by rw [addr_add_block]; exact hlt) (by rw [addr_add_block]; exact hs _ hd)).trans (hx j y hj)
    · cases e; exact ⟨hd, cs, t, fr, hk, ht⟩
  · exact ⟨⟨A, c, hv, hc, hm, fun h => absurd h h0⟩, fun ad n' c' _ h => absurd h h0⟩
theorem BytN.below (h : BytN D w v l) (k : Below w.heap.size w w') : BytN D w' v l := h.kept (S := fun _ => True) (Kept.ofBelow k) (fun _ _ => trivial)
theorem BytN.mono (h : BytN D w v l) (hd : ∀ b, D b → D' b) : BytN D' w v l := ⟨h.1, fun ad n c e h0 => ⟨hd _ (h.2 ad n c e h0).1, (h.2 ad n c e h0).2⟩⟩
/-- a store into a row of slices -/
theorem BytN.grown {row : Option Nat} (h : BytN D w v l) (hg : w.grownBy w' row) (hr : ∀ g, row = some g → ∃ cs fr, w.heap[g]? = some (.cells cs 23 fr)) : BytN D w' v l := by
  refine (show BytN (fun b => D b ∧ row ≠ some b) w v l from ⟨h.1, fun ad n c e h0 => ?_⟩).kept (S := fun b => row ≠ some b) ((Kept.refl _ w).grown hg (fun k hk _ hS => hS hk)) (fun b hb => hb.2) |>.mono fun b hb => hb.1
  obtain ⟨h1, cs, t, fr, hh, ht⟩ := h.2 ad n c e h0
  refine ⟨⟨h1, fun e => ?_⟩, cs, t, fr, hh, ht⟩
  obtain ⟨cs', fr', hg'⟩ := hr _ e
  rw [hh] at hg'
  injection hg' with hg'
  injection hg' with _ hg' _
  exact ht.1 hg'
theorem SecAt.bytn (h : SecAt w base v l) (hd : ∀ b, base ≤ b → D b) : BytN D w v l := by
  refine ⟨h.byt, fun ad n c e _ => ?_⟩
  obtain ⟨g, rfl, hb, hl, hg⟩ := h
  cases e
  exact ⟨hd _ hb, _, _, _, hg, by decide⟩
theorem Own.bytn (h : Own w base v l) (hd : ∀ b, base ≤ b → D b) : BytN D w v l := by
  refine ⟨h.byt, fun ad n c e _ => ?_⟩
  rcases h.2 with ⟨rfl, _⟩ | ⟨g, cap, cur, rfl, hb, hg, _⟩
  · cases e
  · cases e; exact ⟨hd _ hb, _, _, _, hg, by decide⟩
def RowsN (D : Nat → Prop) (w : World) (ts : List Tri) (ls : List (List UInt8)) : Prop := ts.length = ls.length ∧ ∀ (j : Nat) (t : Tri) (l : List UInt8), ts[j]? = some t → ls[j]? = some l → BytN D w (triK.enc t) l
/-- a row of the call's own, whose elements read as ls -/
def OwB (D : Nat → Prop) (w : World) (base : Nat) (v : Value) (ls : List (List UInt8)) : Prop := ∃ ts, Ow triK w base v ts ∧ (∀ g, v.ownBlock = some g → D g) ∧ RowsN D w ts ls
theorem Ow.kept {α : Type} {K : Kd α} {l : List α} (ho : Ow K w base v l) (k : Kept S w w') (hs : ∀ g, v.ownBlock = some g → S g) : Ow K w' base v l := by
  obtain ⟨h1, h2⟩ := ho
  refine ⟨h1, ?_⟩
  rcases h2 with h2 | ⟨g, cap, cur, rfl, hb', hg, r⟩
  · exact .inl h2
  · exact .inr ⟨g, cap, cur, rfl, hb', k.heap hg (hs g rfl), r⟩
theorem OwB.kept (h : OwB D w base v ls) (k : Kept S w w') (hs : ∀ b, D b → S b) : OwB D w' base v ls := by
  obtain ⟨ts, h1, h2, h3, h4⟩ := h
  exact ⟨ts, h1.kept k (fun g hg => hs g (h2 g hg)), h2, h3, fun j t l a b => (h4 j t l a b).kept k hs⟩
theorem OwB.below (h : OwB D w base v ls) (k : Below w.heap.size w w') : OwB D w' base v ls := h.kept (S := fun _ => True) (Kept.ofBelow k) (fun _ _ => trivial)
theorem OwB.mono (h : OwB D w base v ls) (hd : ∀ b, D b → D' b) : OwB D' w base v ls := by
  obtain ⟨ts, h1, h2, h3, h4⟩ := h
  exact ⟨ts, h1, fun g hg => hd g (h2 g hg), h3, fun j t l a b => (h4 j t l a b).mono hd⟩
theorem OwB.more (h : OwB D w base v ls) (hb : base' ≤ base) : OwB D w base' v ls := by
  obtain ⟨ts, h1, h2, h3⟩ := h
  exact ⟨ts, h1.more hb, h2, h3⟩
theorem OwB.byts (h : OwB D w base v ls) : Byts w w.heap.size v ls := by
  obtain ⟨ts, h1, h2, h3, h4⟩ := h
  obtain ⟨A, c, hv, hc, hm, hr⟩ := h1.sl
  refine ⟨A, c, by rw [← h3]; exact hv, by rw [← h3]; exact hc, hm, fun h0 => ?_⟩
  rw [← h3] at h0
  obtain ⟨ad, hA, hb, hx⟩ := hr h0
  refine ⟨ad, hA, hb, fun j l hj => ?_⟩
  have hlt : j < ts.length := by rw [h3]; exact (List.getElem?_eq_some_iff.1 hj).1
  exact ⟨_, hx j _ (List.getElem?_eq_getElem hlt), (h4 j _ l (List.getElem?_eq_getElem hlt) hj).1⟩
theorem OwB.form (h : OwB D w base v ls) : ∃ A n c, v = .slice A n c ∧ n = ls.length := by
  obtain ⟨ts, h1, _, h3, _⟩ := h
  obtain ⟨A, c, hv, _⟩ := h1.sl
  exact ⟨A, _, c, hv, h3⟩
theorem OwB.nil_ (D : Nat → Prop) (w : World) (base : Nat) : OwB D w base (.slice none 0 0) [] := ⟨[], Ow.nil_ _ _ _, fun g hg => by simp [Value.ownBlock] at hg, rfl, fun j t l h => by simp at h⟩
theorem Ow.kind {α : Type} {K : Kd α} {l : List α} (h : Ow K w base v l) : ∀ g, v.ownBlock = some g → ∃ cs fr, w.heap[g]? = some (.cells cs K.E fr) := by
  intro g hg
  rcases h.2 with ⟨rfl, _⟩ | ⟨g', cap, cur, rfl, _, hh, _⟩
  · simp [Value.ownBlock] at hg
  · simp [Value.ownBlock] at hg; subst hg; exact ⟨cur, _, hh⟩
/-- behind an append -/
theorem OwB.grown (h : RowsN D w ts ls) (h0 : Ow triK w base x ts) (hx : BytN D w (triK.enc t) l) {v' : Value} (h1 : Ow triK w' base v' (ts ++ [t])) (hg : w.grownBy w' x.ownBlock) (hD0 : ∀ g, x.ownBlock = some g → D g) (hat : v'.ownBlock = x.ownBlock ∨ v'.ownBlock = some w.heap.size) (hD : D w.heap.size) : OwB D w' base v' (ls ++ [l]) := by
  have hk := h0.kind
  refine ⟨ts ++ [t], h1, fun g hg => ?_, by simp [h.1], fun j t' l' a b => ?_⟩
  · rcases hat with e | e
    · exact hD0 g (e ▸ hg)
    · rw [e] at hg; cases hg; exact hD
  · by_cases hj : j < ts.length
    · rw [List.getElem?_append_left hj] at a
      rw [List.getElem?_append_left (by rw [← h.1]; exact hj)] at b
      exact (h.2 j t' l' a b).grown hg hk
    · rw [List.getElem?_append_right (by omega)] at a
      rw [List.getElem?_append_right (by rw [← h.1]; omega), ← h.1] at b
      have : j - ts.length = 0 := by
        have := (List.getElem?_eq_some_iff.1 a).1
        simp at this; omega
      rw [this] at a b
      simp at a b
      subst a b
      exact hx.grown hg hk
/-- append of one more element -/
theorem wpList_append_one {ops : Array Oper} {rest : List Oper} {o : Oper} {a : Act} {Q : Exit → Act → World → Prop} (hgd : o.guard = none) (s y : Operand)
    (ho : o.op = .call { callee := .builtin .append, args := #[s, y], argTypes := #[35, 35] })
    (hs : a.eval s = v) (hown : OwB D w base v ls) (A : Option Addr) (n c : Nat) (hx : BytN D w (.slice A n c) l) (hy : a.eval y = .slice (some ⟨w.heap.size, 0, none⟩) 1 1)
    (hlen : ls.length + 1 ≤ 1000000) (hbase : base ≤ w.heap.size) (hD : ∀ b, w.heap.size ≤ b → D b)
    (h : ∀ v' w', OwB D w' base v' (ls ++ [l]) → w.grownBy w' v.ownBlock → (v'.ownBlock = v.ownBlock ∨ v'.ownBlock = some (w.heap.size + 1)) → wpList Try.prog ops Q rest (a.put o.dst v') w') :
    wpList Try.prog ops Q (o :: rest) a (w.alloc (.cells #[.slice A n c] 23)) := by
  obtain ⟨ts, h1, h2, h3⟩ := hown
  have hal := (Below.refl w.heap.size w).alloc (Nat.le_refl _) (.cells #[.slice A n c] 23)
  have h3' : RowsN D (w.alloc (.cells #[.slice A n c] 23)) ts ls := ⟨h3.1, fun j t l a b => (h3.2 j t l a b).below hal⟩
  refine wpList_append_sl triK _ hgd s y 35 ho Try.underlying35 base v ts hs (h1.alloc _) _ _ [(A, n, c)] hy (sl_one triK w (A, n, c)) (by have := h3.1; simp; omega) (by decide) (by simp; omega) ?_
  intro v' w' ho' hg' hat'
  refine h v' w' (OwB.grown (x := v) (t := (A, n, c)) (l := l) h3' (h1.alloc _) (hx.below hal) ho' hg' h2 hat' (hD _ (by simp))) ?_ (by simpa using hat')
  exact ⟨hg'.os, hg'.tape, hg'.output, Nat.le_trans (by simp) hg'.size, fun b hb hne => (hg'.block b (by simp; omega) hne).trans (Below.heap_alloc _ _ _ hb)⟩
/-- the same at a step of a region that draws its order -/
theorem step_append_one {ops : Array Oper} {o : Oper} {a : Act} {Kk : Act → World → Prop} {Q : Exit → Act → World → Prop} {E : Prop} (hgd : o.guard = none) (s y : Operand)
    (ho : o.op = .call { callee := .builtin .append, args := #[s, y], argTypes := #[35, 35] })
    (hs : a.eval s = v) (hown : OwB D w base v ls) (A : Option Addr) (n c : Nat) (hx : BytN D w (.slice A n c) l) (hy : a.eval y = .slice (some ⟨w.heap.size, 0, none⟩) 1 1)
    (hlen : ls.length + 1 ≤ 1000000) (hbase : base ≤ w.heap.size) (hD : ∀ b, w.heap.size ≤ b → D b)
    (h : ∀ v' w', OwB D w' base v' (ls ++ [l]) → w.grownBy w' v.ownBlock → (v'.ownBlock = v.ownBlock ∨ v'.ownBlock = some (w.heap.size + 1)) → Kk (a.put o.dst v') w') :
    if Region.wanted o (yielded ops a.tmps) = true then Oper.wp Try.prog o a (w.alloc (.cells #[.slice A n c] 23)) Kk Q else E := by
  obtain ⟨ts, h1, h2, h3⟩ := hown
  have hal := (Below.refl w.heap.size w).alloc (Nat.le_refl _) (.cells #[.slice A n c] 23)
  have h3' : RowsN D (w.alloc (.cells #[.slice A n c] 23)) ts ls := ⟨h3.1, fun j t l a b => (h3.2 j t l a b).below hal⟩
  refine step_append_sl triK _ hgd s y 35 ho Try.underlying35 base v ts hs (h1.alloc _) _ _ [(A, n, c)] hy (sl_one triK w (A, n, c)) (by have := h3.1; simp; omega) (by decide) (by simp; omega) ?_
  intro v' w' ho' hg' hat'
  refine h v' w' (OwB.grown (x := v) (t := (A, n, c)) (l := l) h3' (h1.alloc _) (hx.below hal) ho' hg' h2 hat' (hD _ (by simp))) ?_ (by simpa using hat')
  exact ⟨hg'.os, hg'.tape, hg'.output, Nat.le_trans (by simp) hg'.size, fun b hb hne => (hg'.block b (by simp; omega) hne).trans (Below.heap_alloc _ _ _ hb)⟩
end
end Go.Proofs.Ytmcjefdnkcpghaa
