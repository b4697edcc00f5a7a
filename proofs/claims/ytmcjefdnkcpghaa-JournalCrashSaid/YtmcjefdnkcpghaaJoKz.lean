/- JournalCrash, PLAINLY: what stands behind an append that power may cut off. ROWS WHOSE ELEMENTS LIE IN OLD MEMORY; a journal, and a disk, in a law. -/
import Derived.Test.YtmcjefdnkcpghaaZk
namespace Go.Proofs.Ytmcjefdnkcpghaa
open Go.RowKit
theorem crash_append {j : Jv} {A : List (List UInt8)} {b : List UInt8} (hok : j.ok) (hst : Stands j.d A j.tail) (hz : ∀ i, j.tail ≤ i → i < j.d.n → page j.d.L i = z64) (hA : j.many = A.length) (hd : j.d.dead = false) (hj : j.dead = false) (hb : b.length ≤ 5000) (hw : j.d.writes + 5000 ≤ 1000000000) :
    (∃ e, appendW j b = (j, 0, e) ∧ (e = 2 ∨ e = 31)) ∨
    (∃ d' t', appendW j b = (⟨d', j.many + 1, t', false⟩, (j.many : Int) + 1, 0) ∧ Stands d' (A ++ [b]) t' ∧ (∀ i, t' ≤ i → i < d'.n → page d'.L i = z64) ∧ d'.dead = false ∧ d'.n = j.d.n ∧ d'.writes ≤ j.d.writes + 1000 ∧ t' ≤ d'.n) ∨
    (∃ d' A' t', appendW j b = (⟨d', j.many, j.tail, true⟩, 0, 32) ∧ 1 ≤ b.length ∧ (A' = A ∨ A' = A ++ [b]) ∧ Stands d' A' t' ∧ d'.n = j.d.n ∧ d'.writes ≤ j.d.writes + 1000) := by
  have hc := append_cases hok hst.ok hd hj hb hw
  have ht := hok.tail
  rcases hc with ⟨_, h⟩ | ⟨_, _, h⟩ | ⟨h1, h2, h3, h⟩ | ⟨h1, h2, h3, hf, h⟩
  · exact .inl ⟨2, h, .inl rfl⟩
  · exact .inl ⟨31, h, .inr rfl⟩
  · right; left
    obtain ⟨hp, hn⟩ := pagesR_yes hok.many hb h1
    have hl := pages_cases2 ((j.many : Int) + 1) b hb
    rw [hp] at hl
    obtain ⟨P, E, e, hl, _⟩ := hl
    cases e
    have hr : rightB ((A.length + 1 : Nat) : Int) (b.length : Int) = true := by
      rw [← hA, show ((j.many + 1 : Nat) : Int) = (j.many : Int) + 1 by omega, right_len hok.many hb]; exact decide_eq_true h1
    have hm : (pagesL (j.many + 1) b).length ≤ j.d.n - j.tail := by omega
    obtain ⟨q1, q2, q3, _, hcc⟩ := put_cases (pagesL (j.many + 1) b) j.d j.tail hst.ok hd (by omega) (by omega) (pagesL_all _ _)
    rw [hA] at *
    generalize putW j.d j.tail (pagesL (A.length + 1) b) = Q at *
    rcases hcc with ⟨_, s2, s3⟩ | ⟨s1, _⟩
    · have hzz : ∀ i, j.tail + (pagesL (A.length + 1) b).length ≤ i → i < j.d.n → page Q.1.L i = z64 := fun i h1 h2 => by
        rw [s3, if_neg (by omega)]; exact hz i (by omega) h2
      refine ⟨Q.1, j.tail + (pagesL (A.length + 1) b).length, h, ⟨q1, by rw [q2]; omega, ?_, .inl (by rw [q2]; exact hzz)⟩, by rw [q2]; exact hzz, s2, q2, by omega, by rw [q2]; omega⟩
      rw [q2]
      refine find_append hst.find (fun i hi => ?_) hr hm (fun i hi => ?_) hzz
      · rw [s3, if_neg (by omega)]
      · rw [s3, if_pos (by omega), show j.tail + i - j.tail = i by omega]
    · rw [h3] at s1; cases s1
  · right; right
    obtain ⟨hp, hn⟩ := pagesR_yes hok.many hb h1
    have hl := pages_cases2 ((j.many : Int) + 1) b hb
    rw [hp] at hl
    obtain ⟨P, E, e, hl, _⟩ := hl
    cases e
    have hr : rightB ((A.length + 1 : Nat) : Int) (b.length : Int) = true := by
      rw [← hA, show ((j.many + 1 : Nat) : Int) = (j.many : Int) + 1 by omega, right_len hok.many hb]; exact decide_eq_true h1
    have hm : (pagesL (j.many + 1) b).length ≤ j.d.n - j.tail := by omega
    obtain ⟨q1, q2, q3, _, hcc⟩ := put_cases (pagesL (j.many + 1) b) j.d j.tail hst.ok hd (by omega) (by omega) (pagesL_all _ _)
    rw [hA] at *
    generalize putW j.d j.tail (pagesL (A.length + 1) b) = Q at *
    rcases hcc with ⟨s1, _⟩ | ⟨_, s2, k, tr, hk, htr, s3⟩
    · rw [h3] at s1; cases s1
    · have hpp : ∀ i, i < k → page Q.1.L (j.tail + i) = (pagesL (A.length + 1) b).getD i [] := fun i hi => by
        rw [s3, if_pos (by omega), show j.tail + i - j.tail = i by omega]
      have hat : page Q.1.L (j.tail + k) = ((pagesL (A.length + 1) b).getD k []).take tr ++ z64.drop tr := by
        rw [s3, if_neg (by omega), if_pos rfl, hz _ (by omega) (by omega)]
      have hzz : ∀ i, j.tail + k < i → i < j.d.n → page Q.1.L i = z64 := fun i h1 h2 => by
        rw [s3, if_neg (by omega), if_neg (by omega)]; exact hz i (by omega) h2
      rcases find_torn hst.find (fun i hi => by rw [s3, if_neg (by omega), if_neg (by omega)]) hr hm ht k tr hk hpp hat hzz with hfd | ⟨hfd, hk1⟩
      · refine ⟨Q.1, A, j.tail, h, h1, .inl rfl, ⟨q1, by rw [q2]; exact ht, by rw [q2]; exact hfd, .inr ?_⟩, q2, by omega⟩
        rw [q2]
        refine ⟨page Q.1.L, b, k, tr, j.tail, 0, ⟨hr, hm, hk, htr, hpp, hat, hzz, hfd⟩, Nat.le_refl _, Nat.zero_le _, fun i _ hi => page_len q1.len (by rw [q2]; exact hi), fun i _ => ?_⟩
        rw [if_neg (by omega), zp_zero]
        split
        · next e => rw [e]
        · rfl
      · have hzz2 : ∀ i, j.tail + (pagesL (A.length + 1) b).length ≤ i → i < j.d.n → page Q.1.L i = z64 := fun i h1 h2 => hzz i (by omega) h2
        exact ⟨Q.1, A ++ [b], j.tail + (pagesL (A.length + 1) b).length, h, h1, .inr rfl, ⟨q1, by rw [q2]; omega, by rw [q2]; exact hfd, .inl (by rw [q2]; exact hzz2)⟩, q2, by omega⟩
theorem Stands.power {d : Dv} {A : List (List UInt8)} {t : Nat} (h : Stands d A t) : Stands { d with fuse := none, dead := false } A t :=
  ⟨⟨h.ok.n1, h.ok.n2, h.ok.len, fun a t e => (by cases e), h.ok.wr⟩, h.tail, h.find, h.rest⟩
theorem Stands.fuses {d : Dv} {A : List (List UInt8)} {t : Nat} (h : Stands d A t) (a tr : Int) (ha : a ≤ 9223372036854775807) : Stands (d.fuses a tr).1 A t := by
  have hok := fuses_okk h.ok a tr ha
  unfold Dv.fuses at hok ⊢
  split
  · exact h
  · rename_i hc
    rw [if_neg hc] at hok
    exact ⟨hok, h.tail, h.find, h.rest⟩
/-- a slice of byte slices of the call's own; its elements lie in old memory -/
def OwO (w : World) (base : Nat) (v : Value) (ls : List (List UInt8)) : Prop := ∃ ts : List Tri, Ow triK w base v ts ∧ ts.length = ls.length ∧ ∀ (j : Nat) (t : Tri) (l : List UInt8), ts[j]? = some t → ls[j]? = some l → Byt w base (triK.enc t) l
section
variable {w w' : World} {base B : Nat} {v x : Value} {l : List UInt8} {ls : List (List UInt8)} {S : Nat → Prop}
theorem OwO.nil_ (w : World) (base : Nat) : OwO w base (.slice none 0 0) [] := ⟨[], Ow.nil_ _ _ _, rfl, fun j t l h => by simp at h⟩
theorem OwO.kept (h : OwO w base v ls) (k : Kept S w w') (hb : Below base w w') (hs : ∀ g cs fr, v.ownBlock = some g → w.heap[g]? = some (.cells cs 23 fr) → S g) : OwO w' base v ls := by
  obtain ⟨ts, h1, h3, h4⟩ := h
  refine ⟨ts, h1.kept k (fun g hg => ?_), h3, fun j t l a b => (h4 j t l a b).below hb⟩
  obtain ⟨cs, fr, hh⟩ := h1.kind g hg
  exact hs g cs fr hg hh
theorem OwO.below (h : OwO w base v ls) (k : Below w.heap.size w w') (hb : base ≤ w.heap.size) : OwO w' base v ls := h.kept (S := fun _ => True) (Kept.ofBelow k) (k.mono hb) (fun _ _ _ _ _ => trivial)
theorem OwO.form (h : OwO w base v ls) : ∃ A c, v = .slice A ls.length c := by
  obtain ⟨ts, h1, h3, _⟩ := h
  obtain ⟨A, c, hv, _⟩ := h1.sl
  exact ⟨A, c, by rw [← h3]; exact hv⟩
theorem OwO.byts (h : OwO w base v ls) (hb : base ≤ w.heap.size) : Byts w w.heap.size v ls := by
  obtain ⟨ts, h1, h3, h4⟩ := h
  obtain ⟨A, c, hv, hc, hm, hr⟩ := h1.sl
  refine ⟨A, c, by rw [← h3]; exact hv, by rw [← h3]; exact hc, hm, fun h0 => ?_⟩
  rw [← h3] at h0
  obtain ⟨ad, hA, hbb, hx⟩ := hr h0
  refine ⟨ad, hA, hbb, fun j l hj => ?_⟩
  have hlt : j < ts.length := by rw [h3]; exact (List.getElem?_eq_some_iff.1 hj).1
  exact ⟨_, hx j _ (List.getElem?_eq_getElem hlt), (h4 j _ l (List.getElem?_eq_getElem hlt) hj).more hb⟩
/-- append of one more element -/
theorem wpList_append_old {ops : Array Oper} {rest : List Oper} {o : Oper} {a : Act} {Q : Exit → Act → World → Prop} (hgd : o.guard = none) (s y : Operand)
    (ho : o.op = .call { callee := .builtin .append, args := #[s, y], argTypes := #[35, 35] })
    (hs : a.eval s = v) (hown : OwO w base v ls) (A : Option Addr) (n c : Nat) (hx : Byt w base (.slice A n c) l) (hy : a.eval y = .slice (some ⟨w.heap.size, 0, none⟩) 1 1)
    (hlen : ls.length + 1 ≤ 1000000) (hbase : base ≤ w.heap.size)
    (h : ∀ v' w', OwO w' base v' (ls ++ [l]) → w.grownBy w' v.ownBlock → Below base w w' → wpList Try.prog ops Q rest (a.put o.dst v') w') :
    wpList Try.prog ops Q (o :: rest) a (w.alloc (.cells #[.slice A n c] 23)) := by
  obtain ⟨ts, h1, h3, h4⟩ := hown
  have hal := (Below.refl w.heap.size w).alloc (Nat.le_refl _) (.cells #[.slice A n c] 23)
  refine wpList_append_sl triK _ hgd s y 35 ho Try.underlying35 base v ts hs (h1.alloc _) _ _ [(A, n, c)] hy (sl_one triK w (A, n, c)) (by simp; omega) (by decide) (by simp; omega) ?_
  intro v' w' ho' hg' hat'
  have hgr : w.grownBy w' v.ownBlock := ⟨hg'.os, hg'.tape, hg'.output, Nat.le_trans (by simp) hg'.size, fun b hb hne => (hg'.block b (by simp; omega) hne).trans (Below.heap_alloc _ _ _ hb)⟩
  have hbw : Below base w w' := (Below.refl base w).grown hgr hbase (fun k hk => (h1.lt k hk).1)
  refine h v' w' ⟨ts ++ [(A, n, c)], ho', by simp [h3], fun j t' l' a b => ?_⟩ hgr hbw
  by_cases hj : j < ts.length
  · rw [List.getElem?_append_left hj] at a
    rw [List.getElem?_append_left (by rw [← h3]; exact hj)] at b
    exact (h4 j t' l' a b).below hbw
  · rw [List.getElem?_append_right (by omega)] at a
    rw [List.getElem?_append_right (by rw [← h3]; omega), ← h3] at b
    have : j - ts.length = 0 := by
      have := (List.getElem?_eq_some_iff.1 a).1
      simp at this; omega
    rw [this] at a b
    simp at a b
    subst a b
    exact hx.below hbw
end
/-- a disk's block kept, whatever the row grows to -/
theorem KindD.grown {w w' : World} {b : Nat} {row : Option Nat} (h : KindD w b) (hg : w.grownBy w' row) (hr : ∀ g, row = some g → ∃ cs fr, w.heap[g]? = some (.cells cs 23 fr)) : KindD w' b ∧ row ≠ some b := by
  have hne : row ≠ some b := fun e => by
    obtain ⟨cs, fr, hh⟩ := hr b e
    exact h.ne hh (by decide) (by decide) (by decide) rfl
  obtain ⟨cs, t, hh, ht⟩ := h
  exact ⟨⟨cs, t, (hg.block b (lt_of_block hh) (fun e => hne e.symm)).trans hh, ht⟩, hne⟩
/-- a journal, in a law -/
structure Jc (w0 : World) (bj g : Nat) (j : Jv) (Z : Nat → Prop) (w : World) : Prop where
  jn : Jn w Z bj g j
  lo : ∀ b, Z b → w0.heap.size ≤ b
  kd : ∀ b, Z b → KindD w b
  lob : w0.heap.size ≤ bj
  below : Below w0.heap.size w0 w
/-- a disk, in a law -/
structure Dc (w0 : World) (g : Nat) (d : Dv) (Z : Nat → Prop) (w : World) : Prop where
  dk : Dk w Z g d
  lo : ∀ b, Z b → w0.heap.size ≤ b
  kd : ∀ b, Z b → KindD w b
  below : Below w0.heap.size w0 w
section
variable {w0 w w' : World} {bj g : Nat} {j j1 : Jv} {d d' : Dv} {Z Z' : Nat → Prop} {v : Value} {ls : List (List UInt8)}
theorem Jc.hi (h : Jc w0 bj g j Z w) : ∀ b, Z b → b < w.heap.size := fun b hb => (h.kd b hb).lt
theorem Dc.hi (h : Dc w0 g d Z w) : ∀ b, Z b → b < w.heap.size := fun b hb => (h.kd b hb).lt
theorem Jc.grow (h : Jc w0 bj g j Z w) (hb : Below w.heap.size w w') : Jc w0 bj g j Z w' :=
  ⟨h.jn.below hb, h.lo, fun b hz => (h.kd b hz).below hb, h.lob, h.below.trans (hb.mono h.below.size)⟩
theorem Dc.grow (h : Dc w0 g d Z w) (hb : Below w.heap.size w w') : Dc w0 g d Z w' :=
  ⟨h.dk.below hb, h.lo, fun b hz => (h.kd b hz).below hb, h.below.trans (hb.mono h.below.size)⟩
theorem Dc.wrote (h : Dc w0 g d Z w) (hd : Dk w' Z' g d') (hk : Kept (fun b => ¬ Z b) w w') (hz : ∀ b, Z' b → Z b ∨ w.heap.size ≤ b) : ∃ Z2, Dc w0 g d' Z2 w' := by
  obtain ⟨Z2, h2, h3, h4⟩ := hd.tight
  refine ⟨Z2, h2, fun b hb => ?_, h4, h.below.trans (hk.toBelow (B := w0.heap.size) h.below.size (fun b hb hz => by have := h.lo b hz; omega))⟩
  rcases hz b (h3 b hb) with h1 | h1
  · exact h.lo b h1
  · exact Nat.le_trans h.below.size h1
theorem OwO.wrote (h : OwO w w0.heap.size v ls) (hd : Dc w0 g d Z w) (hk : Kept (fun b => ¬ Z b) w w') : OwO w' w0.heap.size v ls :=
  h.kept hk (hk.toBelow (B := w0.heap.size) hd.below.size (fun b hb hz => by have := hd.lo b hz; omega)) (fun g cs fr _ hh hz => (hd.kd _ hz).ne hh (by decide) (by decide) (by decide) rfl)
theorem Jc.app (h : Jc w0 bj g j Z w) (hj : Jn w' Z bj g j1) (hk : Kept (fun x => ¬ Z x ∧ x ≠ bj) w w') : ∃ Z2, Jc w0 bj g j1 Z2 w' := by
  obtain ⟨Z2, h2, h3, h4⟩ := hj.dk.tight
  exact ⟨Z2, ⟨hj.hd, h2, fun hz => hj.nz (h3 _ hz)⟩, fun b hb => h.lo b (h3 b hb), h4, h.lob, h.below.trans (hk.toBelow (B := w0.heap.size) h.below.size (fun b hb => ⟨fun hz => by have := h.lo b hz; omega, fun e => by have := h.lob; omega⟩))⟩
theorem OwO.app (h : OwO w w0.heap.size v ls) (hj : Jc w0 bj g j Z w) (hk : Kept (fun x => ¬ Z x ∧ x ≠ bj) w w') : OwO w' w0.heap.size v ls :=
  h.kept hk (hk.toBelow (B := w0.heap.size) hj.below.size (fun b hb => ⟨fun hz => by have := hj.lo b hz; omega, fun e => by have := hj.lob; omega⟩)) (fun g cs fr _ hh => ⟨fun hz => (hj.kd _ hz).ne hh (by decide) (by decide) (by decide) rfl, kind_ne hh hj.jn.hd (by decide)⟩)
theorem Jq.fused (h : Jq w0 bj g j Z w) (hd : Dk w' (fun b => Z b ∨ (w.heap.size ≤ b ∧ b < w'.heap.size)) g d') (hk : Kept (fun b => ¬ Z b) w w') : ∃ Z2, Jc w0 bj g ⟨d', j.many, j.tail, j.dead⟩ Z2 w' := by
  obtain ⟨Z2, h2, h3, h4⟩ := hd.tight
  have hlt := h.jn.lt
  refine ⟨Z2, ⟨hk.heap h.jn.hd h.jn.nz, h2, fun hz => ?_⟩, fun b hb => ?_, h4, h.lob, h.below.trans (hk.toBelow (B := w0.heap.size) h.below.size (fun b hb hz => by have := h.lo b hz; omega))⟩
  · rcases h3 _ hz with h1 | h1
    · exact h.jn.nz h1
    · omega
  · rcases h3 b hb with h1 | h1
    · exact h.lo b h1
    · exact Nat.le_trans h.below.size h1.1
theorem Jc.disk (h : Jc w0 bj g j Z w) : Dc w0 g j.d Z w := ⟨h.jn.dk, h.lo, h.kd, h.below⟩
/-- a row of slices grew -/
theorem Jc.grown {row : Option Nat} (h : Jc w0 bj g j Z w) (hg : w.grownBy w' row) (hb : Below w0.heap.size w w') (hr : ∀ g, row = some g → ∃ cs fr, w.heap[g]? = some (.cells cs 23 fr)) : Jc w0 bj g j Z w' := by
  have hne : row ≠ some bj := fun e => by
    obtain ⟨cs, fr, hh⟩ := hr bj e
    exact kind_ne hh h.jn.hd (by decide) rfl
  have hk : Kept (fun b => row ≠ some b) w w' := (Kept.refl _ w).grown hg (fun k hk _ hS => hS hk)
  exact ⟨⟨hk.heap h.jn.hd hne, h.jn.dk.kept hk (fun b hz => ((h.kd b hz).grown hg hr).2), h.jn.nz⟩, h.lo, fun b hz => ((h.kd b hz).grown hg hr).1, h.lob, h.below.trans hb⟩
end
theorem fuses_dead2 (d : Dv) (a t : Int) : (d.fuses a t).1.dead = d.dead ∧ (d.fuses a t).1.n = d.n := by
  unfold Dv.fuses
  split <;> exact ⟨rfl, rfl⟩
/-- Open, told of the disk alone -/
theorem jopen_dk {w : World} {Z : Nat → Prop} {g : Nat} {d : Dv} {A : List (List UInt8)} {t : Nat} (h : Dk w Z g d) (hhi : ∀ b, Z b → b < w.heap.size) (hd : d.dead = false) (hw : d.writes + 5000 ≤ 1000000000) (hst : Stands d A t) :
    Calls Try.prog 76 #[.pointer (some ⟨g, 0, none⟩)] w fun e w' => ∃ p v e', e = .returned (.tuple #[p, v, .int .i64 e']) ∧ Dk w' Z g (wipeR d (t : Int)).1 ∧ Kept (fun b => ¬ Z b) w w' := by
  have ho := jopen_any h hhi hd hw
  rw [hst.find] at ho
  simp only at ho
  refine ho.mono fun e w' he => ?_
  rcases he with ⟨_, bj, v, he, hj, _, _, hk⟩ | ⟨_, he, hj, hk⟩
  · exact ⟨_, _, _, he, hj.dk, hk⟩
  · exact ⟨_, _, _, he, hj, hk⟩
/-- Open, with power that stays -/
theorem jopen_last {w : World} {Z : Nat → Prop} {g : Nat} {d : Dv} {A : List (List UInt8)} {t : Nat} (h : Dk w Z g d) (hhi : ∀ b, Z b → b < w.heap.size) (hd : d.dead = false) (hf : d.fuse = none) (hw : d.writes + 5000 ≤ 1000000000) (hst : Stands d A t) :
    Calls Try.prog 76 #[.pointer (some ⟨g, 0, none⟩)] w fun e w' => ∃ bk v d4, e = .returned (.tuple #[.pointer (some ⟨bk, 0, none⟩), v, .int .i64 0]) ∧ Jn w' Z bk g ⟨d4, A.length, t, false⟩ ∧ OwB (fun b => w.heap.size ≤ b) w' w.heap.size v A ∧ Kept (fun b => ¬ Z b) w w' ∧
      Stands d4 A t ∧ On d4 ∧ d4.writes ≤ d.writes + 4096 ∧ ∀ i, t ≤ i → i < d4.n → page d4.L i = z64 := by
  have ho := jopen_any h hhi hd hw
  rw [hst.find] at ho
  simp only at ho
  obtain ⟨q1, q2, q3, _, q5⟩ := hst.wipe hd hw
  obtain ⟨q6, q7, q8⟩ := q5 hf
  refine ho.mono fun e w' he => ?_
  rcases he with ⟨_, bj, v, he, hj, _, hO, hk⟩ | ⟨hne, _⟩
  · exact ⟨bj, v, _, he, hj, hO, hk, q1, q7, q3, by rw [q2]; exact q8⟩
  · exact absurd q6 hne
/-- Open, where nothing is to be wiped -/
theorem jopen_again {w : World} {Z : Nat → Prop} {g : Nat} {d : Dv} {A : List (List UInt8)} {t : Nat} (h : Dk w Z g d) (hhi : ∀ b, Z b → b < w.heap.size) (hd : d.dead = false) (hw : d.writes + 5000 ≤ 1000000000) (hst : Stands d A t) (hz : ∀ i, t ≤ i → i < d.n → page d.L i = z64) :
    Calls Try.prog 76 #[.pointer (some ⟨g, 0, none⟩)] w fun e w' => ∃ bk v, e = .returned (.tuple #[.pointer (some ⟨bk, 0, none⟩), v, .int .i64 0]) ∧ Jn w' Z bk g ⟨d, A.length, t, false⟩ ∧ OwB (fun b => w.heap.size ≤ b) w' w.heap.size v A ∧ Kept (fun b => ¬ Z b) w w' := by
  have ho := jopen_any h hhi hd hw
  rw [hst.find] at ho
  simp only at ho
  rw [hst.blank hd hz] at ho
  refine ho.mono fun e w' he => ?_
  rcases he with ⟨_, bj, v, he, hj, _, hO, hk⟩ | ⟨hne, _⟩
  · exact ⟨bj, v, he, hj, hO, hk⟩
  · exact absurd rfl hne
theorem Stands.len {d : Dv} {A : List (List UInt8)} {t : Nat} (h : Stands d A t) : A.length ≤ 4096 := by
  have hff := find_facts (pg := page d.L) (n := d.n) d.n 0 [] (by omega) (by omega)
  rw [h.find] at hff
  obtain ⟨_, h2, _, _, h5⟩ := hff
  simp only [List.length_nil] at h2 h5
  have := h.ok.n2
  omega
/-- behind the appends: what was acknowledged, what was on its way -/
structure Behind (w0 : World) (g : Nat) (d : Dv) (Z : Nat → Prop) (x13 x14 : Value) (A ac : List (List UInt8)) (t : Nat) (b : List UInt8) (w : World) : Prop where
  dc : Dc w0 g d Z w
  ow : OwO w w0.heap.size x13 ac
  len : ac.length ≤ 30
  by_ : Byt w0 w0.heap.size x14 b
  on : A = ac ∨ (A = ac ++ [b] ∧ 1 ≤ b.length)
  st : Stands d A t
  wr : d.writes ≤ 40000
/-- a new disk with a fuse -/
theorem new_fused (N : Nat) (h1 : 1 ≤ N) (h2 : N ≤ 4096) (a tr : Int) (ha : a ≤ 9223372036854775807) :
    Stands ((Dv.new N).fuses a tr).1 [] 0 ∧ (∀ i, 0 ≤ i → i < ((Dv.new N).fuses a tr).1.n → page ((Dv.new N).fuses a tr).1.L i = z64) ∧ ((Dv.new N).fuses a tr).1.dead = false ∧ ((Dv.new N).fuses a tr).1.writes ≤ 0 := by
  obtain ⟨q1, _, q3⟩ := new_open N h1 h2
  have hz : ∀ i, 0 ≤ i → i < N → page (Dv.new N).L i = z64 := fun i _ hi => page_zero N i hi
  have hs : Stands (Dv.new N) [] 0 := ⟨q3.ok, Nat.zero_le _, q1, .inl hz⟩
  have hL : ((Dv.new N).fuses a tr).1.L = (Dv.new N).L ∧ ((Dv.new N).fuses a tr).1.writes = 0 := by
    unfold Dv.fuses
    split <;> exact ⟨rfl, rfl⟩
  obtain ⟨f1, f2⟩ := fuses_dead2 (Dv.new N) a tr
  exact ⟨hs.fuses a tr ha, by rw [hL.1, f2]; exact hz, f1, by rw [hL.2]; exact Nat.le_refl _⟩
end Go.Proofs.Ytmcjefdnkcpghaa
