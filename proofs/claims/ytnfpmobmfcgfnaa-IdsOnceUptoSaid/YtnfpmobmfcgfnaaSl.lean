/- SLICES WHOSE ELEMENTS LIE IN ONE CELL, of any kind: read as lists; rows of the call's own; append. -/
import Derived.Test.YtnfpmobmfcgfnaaMem
import Derived.OneCell
import Derived.Lib.BufferWrite
namespace Go.Proofs.Ytnfpmobmfcgfnaa
open Go.RowKit
/-- a kind of element: its type, how it lies in a cell -/
structure Kd (α : Type) where
  E : TypeId
  enc : α → Value
  z : Value
  bytes : Nat
  one : ∀ x, (enc x).oneCell' = true
  info : (Try.prog.info? E).map (fun i => (i.zero, i.size, i.bytes)) = some (some z, 1, bytes)
  zs : z.cells.size = 1
def strK : Kd ByteArray := ⟨9, .string, .string ⟨#[]⟩, 16, fun _ => rfl, by kernel_rfl, rfl⟩
/-- the slice v reads as the list l, in blocks below B -/
def Sl {α : Type} (K : Kd α) (w : World) (B : Nat) (v : Value) (l : List α) : Prop :=
  ∃ (A : Option Addr) (c : Nat), v = .slice A l.length c ∧ l.length ≤ c ∧ c ≤ maxLen ∧
    (0 < l.length → ∃ ad : Addr, A = some ad ∧ ad.block < B ∧ ∀ (j : Nat) (x : α), l[j]? = some x → w.cell? (ad.add j) = some (K.enc x))
section
variable {α : Type} {K : Kd α} {w w' : World} {B B' : Nat} {v : Value} {l m : List α}
theorem Sl.keep (h : Sl K w B v l) (hk : ∀ p : Addr, p.block < B → w'.cell? p = w.cell? p) : Sl K w' B v l := by
  obtain ⟨A, c, hv, hc, hm, hr⟩ := h
  refine ⟨A, c, hv, hc, hm, fun h0 => ?_⟩
  obtain ⟨ad, hA, hb, hx⟩ := hr h0
  exact ⟨ad, hA, hb, fun j x hj => (hk _ (by rw [addr_add_block]; exact hb)).trans (hx j x hj)⟩
theorem Sl.more (h : Sl K w B v l) (hB : B ≤ B') : Sl K w B' v l := by
  obtain ⟨A, c, hv, hc, hm, hr⟩ := h
  refine ⟨A, c, hv, hc, hm, fun h0 => ?_⟩
  obtain ⟨ad, hA, hb, hx⟩ := hr h0
  exact ⟨ad, hA, by omega, hx⟩
theorem Sl.heap (h : Sl K w B v l) : Sl K w w.heap.size v l := by
  obtain ⟨A, c, hv, hc, hm, hr⟩ := h
  refine ⟨A, c, hv, hc, hm, fun h0 => ?_⟩
  obtain ⟨ad, hA, hb, hx⟩ := hr h0
  refine ⟨ad, hA, ?_, hx⟩
  have := World.block_lt_of_cell? w _ (hx 0 _ (List.getElem?_eq_getElem h0))
  rwa [addr_add_block] at this
theorem Sl.below (h : Sl K w B v l) (hb : Below B w w') : Sl K w' B v l := h.keep fun _ hp => hb.cell hp
theorem Sl.drew (h : Sl K w B v l) : Sl K w.drew B v l := h
theorem Sl.alloc (h : Sl K w B v l) (hB : B ≤ w.heap.size) (o : Obj) : Sl K (w.alloc o) B v l := h.keep fun p hp => World.cell?_alloc_lt w o p (by omega)
theorem Sl.grown (h : Sl K w B v l) {row : Option Nat} (hg : w.grownBy w' row) (hB : B ≤ w.heap.size) (hr : ∀ g, row = some g → B ≤ g) : Sl K w' B v l :=
  h.keep fun p hp => World.cell?_of_block (hg.block p.block (by omega) (fun e => by have := hr _ e.symm; omega))
theorem Sl.nil_ (K : Kd α) (w : World) (B : Nat) : Sl K w B (.slice none 0 0) [] := ⟨none, 0, rfl, Nat.le_refl _, by simp [maxLen], fun h => absurd h (by simp)⟩
theorem Sl.len_le (h : Sl K w B v l) : l.length ≤ maxLen := by
  obtain ⟨A, c, hv, hc, hm, hr⟩ := h; omega
/-- element k, as the walk asks for it -/
theorem Sl.at_ (h : Sl K w B v l) (k : Nat) (hk : k < l.length) : ∃ (ad : Addr) (c : Nat), v = .slice (some ad) l.length c ∧ l.length ≤ c ∧ c ≤ maxLen ∧ ad.block < B ∧ w.cell? (ad.add k) = some (K.enc l[k]) := by
  obtain ⟨A, c, rfl, hc, hm, hr⟩ := h
  obtain ⟨ad, rfl, hb, hx⟩ := hr (by omega)
  exact ⟨ad, c, rfl, hc, hm, hb, hx k _ (List.getElem?_eq_getElem hk)⟩
/-- a row of the call's own -/
def Ow {α : Type} (K : Kd α) (w : World) (base : Nat) (v : Value) (l : List α) : Prop := w.ownsRow base K.E 1 v l.length (l.map K.enc)
variable {base base' : Nat} {ad' : Addr} {n' c' : Nat}
theorem Ow.sl (h : Ow K w base v l) : Sl K w w.heap.size v l := by
  obtain ⟨h1, h2⟩ := h
  have hsl : (w.ownsRow base K.E 1 v l.length (l.map K.enc)) := ⟨h1, h2⟩
  rcases h2 with ⟨rfl, hn⟩ | ⟨g, cap, cur, rfl, hb, hg, hc, hm, hs, ht⟩
  · have : l = [] := List.eq_nil_of_length_eq_zero hn
    subst this
    exact Sl.nil_ _ _ _
  · refine ⟨_, cap, rfl, hc, hm, fun h0 => ⟨⟨g, 0, none⟩, rfl, (Array.getElem?_eq_some_iff.1 hg).1, fun j x hj => ?_⟩⟩
    exact hsl.cells (g := g) rfl j (K.enc x) (by rw [List.getElem?_map, hj]; rfl)
theorem Ow.more (h : Ow K w base v l) (hb : base' ≤ base) : Ow K w base' v l := by
  obtain ⟨h1, h2⟩ := h
  refine ⟨h1, ?_⟩
  rcases h2 with h2 | ⟨g, cap, cur, rfl, hb', r⟩
  · exact .inl h2
  · exact .inr ⟨g, cap, cur, rfl, by omega, r⟩
theorem Ow.nil_ (K : Kd α) (w : World) (base : Nat) : Ow K w base (.slice none 0 0) [] := World.ownsRow_nil w base K.E 1
theorem Ow.below (h : Ow K w base v l) (hb : Below w.heap.size w w') : Ow K w' base v l := by
  obtain ⟨h1, h2⟩ := h
  refine ⟨h1, ?_⟩
  rcases h2 with h2 | ⟨g, cap, cur, rfl, hb', hg, r⟩
  · exact .inl h2
  · exact .inr ⟨g, cap, cur, rfl, hb', by rw [hb.block g (Array.getElem?_eq_some_iff.1 hg).1]; exact hg, r⟩
theorem Ow.drew (h : Ow K w base v l) : Ow K w.drew base v l := h
theorem Ow.alloc (h : Ow K w base v l) (o : Obj) : Ow K (w.alloc o) base v l := World.ownsRow.alloc h o
/-- a block that a literal made -/
theorem ow_lit (K : Kd α) (w : World) (l : List α) (hl : l.length ≤ maxLen) : Ow K (w.alloc (.cells (l.map K.enc).toArray K.E)) w.heap.size (.slice (some ⟨w.heap.size, 0, none⟩) l.length l.length) l := by
  have := World.ownsRow_lit (w := w) (e := K.E) (size := 1) (base := w.heap.size) (l.map K.enc).toArray l.length (Nat.le_refl _) hl (by simp)
  exact this
/-- append of elements that read as a list, onto a row of the call's own -/
theorem run_append_sl (K : Kd α) (w : World) (base : Nat) (T ty : TypeId) (hT : Try.prog.underlying T = some (.slice K.E)) (v : Value) (l m : List α) (hown : Ow K w base v l) (B : Nat) (y : Value) (hy : Sl K w B y m)
    (hlen : l.length + m.length ≤ 1000000000) (hby : K.bytes ≤ 4096) (hbase : base ≤ w.heap.size) :
    ∃ v' w', (Builtin.append_ #[T, T] ty #[v, y]).run Try.prog w = .ok v' w' ∧ Ow K w' base v' (l ++ m) ∧ w.grownBy w' v.ownBlock ∧ (v'.ownBlock = v.ownBlock ∨ v'.ownBlock = some w.heap.size) := by
  obtain ⟨i, hi, hz, hs, hb⟩ := info_parts K.info
  obtain ⟨A, c, rfl, hc, hm, hr⟩ := hy
  by_cases h0 : 0 < m.length
  · obtain ⟨ad, rfl, hbl, hx⟩ := hr h0
    obtain ⟨v', w', hrun, h2, h3, _, h5⟩ := run_append_own_at (P := Try.prog) w base T ty K.E i K.z 1 K.bytes hT hi hz hs hb K.zs (by decide) v l.length (l.map K.enc) hown ad m.length c (m.map K.enc) (by simp)
      (fun j u hu => by
        rw [List.getElem?_map] at hu
        cases hj : m[j]? with
        | none => rw [hj] at hu; cases hu
        | some x => rw [hj] at hu; cases hu; exact hx j x hj)
      (fun u hu => by
        obtain ⟨x, _, rfl⟩ := List.mem_map.1 hu
        exact K.one x) (by simp only [maxLen]; omega)
      (Nat.le_trans (Nat.mul_le_mul_left _ hby) (by omega)) hbase
    refine ⟨v', w', hrun, ?_, h3, h5⟩
    unfold Ow
    rw [List.length_append, List.map_append]
    exact h2
  · have hm0 : m = [] := List.eq_nil_of_length_eq_zero (by omega)
    subst hm0
    refine ⟨v, w, run_append_nothing w T ty K.E i 1 base hT hi v _ _ hown A c, by simpa using hown, World.grownBy.refl w _, .inl rfl⟩
theorem wpList_append_sl (K : Kd α) (w : World) {ops : Array Oper} {rest : List Oper} {o : Oper} {a : Act} {Q : Exit → Act → World → Prop} (hgd : o.guard = none) (s x : Operand) (T : TypeId)
    (ho : o.op = .call { callee := .builtin .append, args := #[s, x], argTypes := #[T, T] }) (hT : Try.prog.underlying T = some (.slice K.E))
    (base : Nat) (v : Value) (l : List α) (hs : a.eval s = v) (hown : Ow K w base v l)
    (B : Nat) (y : Value) (m : List α) (hx : a.eval x = y) (hy : Sl K w B y m)
    (hlen : l.length + m.length ≤ 1000000000) (hby : K.bytes ≤ 4096) (hbase : base ≤ w.heap.size)
    (h : ∀ v' w', Ow K w' base v' (l ++ m) → w.grownBy w' v.ownBlock → (v'.ownBlock = v.ownBlock ∨ v'.ownBlock = some w.heap.size) → wpList Try.prog ops Q rest (a.put o.dst v') w') :
    wpList Try.prog ops Q (o :: rest) a w := by
  refine wpList_plain hgd fun Kk hK => ?_
  obtain ⟨v', w', hrun, h2, h3, h4⟩ := run_append_sl K w base T o.type hT v l m hown B y hy hlen hby hbase
  unfold Oper.wp execOp
  simp only [ho, resolve, invoke, builtin, Sem.run_bind, Sem.run_pure, Result.andThen_ok, List.map_toArray, List.map_cons, List.map_nil, hs, hx, hrun]
  exact hK _ _ (h v' w' h2 h3 h4)
/-- append at a step of a region that draws its order -/
theorem step_append_sl (K : Kd α) (w : World) {ops : Array Oper} {o : Oper} {a : Act} {Kk : Act → World → Prop} {Q : Exit → Act → World → Prop} {E : Prop} (hgd : o.guard = none) (s x : Operand) (T : TypeId)
    (ho : o.op = .call { callee := .builtin .append, args := #[s, x], argTypes := #[T, T] }) (hT : Try.prog.underlying T = some (.slice K.E))
    (base : Nat) (v : Value) (l : List α) (hs : a.eval s = v) (hown : Ow K w base v l)
    (B : Nat) (y : Value) (m : List α) (hx : a.eval x = y) (hy : Sl K w B y m)
    (hlen : l.length + m.length ≤ 1000000000) (hby : K.bytes ≤ 4096) (hbase : base ≤ w.heap.size)
    (h : ∀ v' w', Ow K w' base v' (l ++ m) → w.grownBy w' v.ownBlock → (v'.ownBlock = v.ownBlock ∨ v'.ownBlock = some w.heap.size) → Kk (a.put o.dst v') w') :
    if Region.wanted o (yielded ops a.tmps) = true then Oper.wp Try.prog o a w Kk Q else E := by
  have hw : Region.wanted o (yielded ops a.tmps) = true := by simp [Region.wanted, hgd]
  rw [if_pos hw]
  obtain ⟨v', w', hrun, h2, h3, h4⟩ := run_append_sl K w base T o.type hT v l m hown B y hy hlen hby hbase
  unfold Oper.wp execOp
  simp only [ho, resolve, invoke, builtin, Sem.run_bind, Sem.run_pure, Result.andThen_ok, List.map_toArray, List.map_cons, List.map_nil, hs, hx, hrun]
  exact h v' w' h2 h3 h4
/-- a store into a row of the call's own -/
theorem Ow.set (h : Ow K w base (.slice (some ad') n' c') l) (i : Nat) (x : α) : Ow K (w.setCell (ad'.add i) (K.enc x)) base (.slice (some ad') n' c') (l.set i x) := by
  obtain ⟨_, h2⟩ := h
  refine ⟨by simp, ?_⟩
  rcases h2 with ⟨h2, _⟩ | ⟨g, cap, cur, he, hb, hg, hc, hm, hs, ht⟩
  · cases h2
  · cases he
    refine .inr ⟨g, _, cur.setIfInBounds i (K.enc x), by rw [List.length_set], hb, ?_, by rw [List.length_set]; exact hc, hm, by simpa using hs, ?_⟩
    · have := Lib.heap_setCell_same (i := i) hg (K.enc x)
      rw [addr_mk_add, Nat.zero_add]
      exact this
    · rw [List.length_set, List.map_set, ← ht]
      simp [List.take_set]
/-- a slice of one element, laid in a new block -/
theorem sl_one (K : Kd α) (w : World) (x : α) : Sl K (w.alloc (.cells #[K.enc x] K.E)) (w.heap.size + 1) (.slice (some ⟨w.heap.size, 0, none⟩) 1 1) [x] := by
  have := (ow_lit K w [x] (by simp [maxLen])).sl
  simpa using this
end
end Go.Proofs.Ytnfpmobmfcgfnaa
