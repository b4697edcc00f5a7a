/- SLICES WHOSE ELEMENTS LIE IN SEVERAL CELLS: read as lists; rows of the call's own; append. Lines, and documents. -/
import Derived.Test.YtnfpmobmfcgfnaaLnA
import Derived.Test.YtnfpmobmfcgfnaaSl
namespace Go.Proofs.Ytnfpmobmfcgfnaa
open Go.RowKit
/-- a kind of element of several cells -/
structure Ke (α : Type) where
  E : TypeId
  enc : α → List Value
  z : Value
  size : Nat
  bytes : Nat
  len : ∀ x, (enc x).length = size
  one : ∀ x, ∀ u ∈ enc x, u.oneCell' = true
  info : (Try.prog.info? E).map (fun i => (i.zero, i.size, i.bytes)) = some (some z, size, bytes)
  zs : z.cells.size = size
  pos : 0 < size
def Ke.flat {α : Type} (K : Ke α) (l : List α) : List Value := l.flatMap K.enc
theorem Ke.flat_len {α : Type} (K : Ke α) (l : List α) : (K.flat l).length = l.length * K.size := by
  unfold Ke.flat
  induction l with
  | nil => simp
  | cons x r ih => rw [List.flatMap_cons, List.length_append, ih, K.len, List.length_cons, Nat.succ_mul, Nat.add_comm]
theorem Ke.flat_get {α : Type} (K : Ke α) : ∀ (l : List α) (k j : Nat) (x : α), l[k]? = some x → j < K.size → (K.flat l)[k * K.size + j]? = (K.enc x)[j]? := by
  intro l
  unfold Ke.flat
  induction l with
  | nil => intro k j x h; simp at h
  | cons y r ih =>
    intro k j x h hj
    rw [List.flatMap_cons]
    cases k with
    | zero =>
      simp only [List.getElem?_cons_zero, Option.some.injEq] at h
      subst h
      rw [List.getElem?_append_left (by rw [K.len]; omega)]
      congr 1; omega
    | succ k =>
      rw [List.getElem?_append_right (by rw [K.len, Nat.succ_mul]; omega), K.len, ← ih k j x (by simpa using h) hj]
      congr 1
      rw [Nat.succ_mul]; omega
theorem Ke.flat_app {α : Type} (K : Ke α) (l m : List α) : K.flat (l ++ m) = K.flat l ++ K.flat m := List.flatMap_append
theorem Ke.flat_one {α : Type} (K : Ke α) (x : α) : K.flat [x] = K.enc x := by simp [Ke.flat]
/-- every cell of the flat list lies in an element -/
theorem Ke.flat_in {α : Type} (K : Ke α) {l : List α} {i : Nat} {u : Value} (h : (K.flat l)[i]? = some u) : ∃ k j x, i = k * K.size + j ∧ j < K.size ∧ l[k]? = some x ∧ (K.enc x)[j]? = some u := by
  have hp := K.pos
  have hl := (List.getElem?_eq_some_iff.1 h).1
  rw [K.flat_len] at hl
  have hk : i / K.size < l.length := Nat.div_lt_of_lt_mul (by rw [Nat.mul_comm]; exact hl)
  have hj := Nat.mod_lt i hp
  have e : i = i / K.size * K.size + i % K.size := by rw [Nat.mul_comm]; exact (Nat.div_add_mod i K.size).symm
  refine ⟨i / K.size, i % K.size, l[i / K.size], e, hj, List.getElem?_eq_getElem hk, ?_⟩
  rw [← K.flat_get l _ _ _ (List.getElem?_eq_getElem hk) hj, ← e]
  exact h
def SlN {α : Type} (K : Ke α) (w : World) (B : Nat) (v : Value) (l : List α) : Prop :=
  ∃ (A : Option Addr) (c : Nat), v = .slice A l.length c ∧ l.length ≤ c ∧ c ≤ maxLen ∧
    (0 < l.length → ∃ ad : Addr, A = some ad ∧ ad.block < B ∧ ∀ (j : Nat) (u : Value), (K.flat l)[j]? = some u → w.cell? (ad.add j) = some u)
def OwN {α : Type} (K : Ke α) (w : World) (base : Nat) (v : Value) (l : List α) : Prop := w.ownsRow base K.E K.size v l.length (K.flat l)
section
variable {α : Type} {K : Ke α} {w w' : World} {B B' base base' : Nat} {v : Value} {l m : List α} {S : Nat → Prop}
theorem SlN.keep (h : SlN K w B v l) (hk : ∀ p : Addr, p.block < B → w'.cell? p = w.cell? p) : SlN K w' B v l := by
  obtain ⟨A, c, hv, hc, hm, hr⟩ := h
  refine ⟨A, c, hv, hc, hm, fun h0 => ?_⟩
  obtain ⟨ad, hA, hb, hx⟩ := hr h0
  exact ⟨ad, hA, hb, fun j x hj => (hk _ (by rw [addr_add_block]; exact hb)).trans (hx j x hj)⟩
theorem SlN.below (h : SlN K w B v l) (hb : Below B w w') : SlN K w' B v l := h.keep fun _ hp => hb.cell hp
theorem SlN.more (h : SlN K w B v l) (hB : B ≤ B') : SlN K w B' v l := by
  obtain ⟨A, c, hv, hc, hm, hr⟩ := h
  refine ⟨A, c, hv, hc, hm, fun h0 => ?_⟩
  obtain ⟨ad, hA, hb, hx⟩ := hr h0
  exact ⟨ad, hA, by omega, hx⟩
theorem SlN.nil_ (K : Ke α) (w : World) (B : Nat) : SlN K w B (.slice none 0 0) [] := ⟨none, 0, rfl, Nat.le_refl _, by simp [maxLen], fun h => absurd h (by simp)⟩
theorem SlN.form (h : SlN K w B v l) : ∃ A c, v = .slice A l.length c ∧ l.length ≤ c ∧ c ≤ 9223372036854775807 := by
  obtain ⟨A, c, hv, hc, hm, _⟩ := h
  unfold maxLen at hm
  exact ⟨A, c, hv, hc, by omega⟩
/-- a cell of element k -/
theorem SlN.at_ (h : SlN K w B v l) (k : Nat) (hk : k < l.length) : ∃ ad c, v = .slice (some ad) l.length c ∧ ad.block < B ∧ ∀ j u, (K.enc l[k])[j]? = some u → w.cell? ((ad.add (k * K.size)).add j) = some u := by
  obtain ⟨A, c, hv, hc, hm, hr⟩ := h
  obtain ⟨ad, rfl, hb, hx⟩ := hr (by omega)
  refine ⟨ad, c, hv, hb, fun j u hu => ?_⟩
  rw [addr_add_add]
  refine hx _ u ?_
  rw [K.flat_get l k j _ (List.getElem?_eq_getElem hk) (by have := (List.getElem?_eq_some_iff.1 hu).1; rwa [K.len] at this)]
  exact hu
theorem OwN.sl (h : OwN K w base v l) : SlN K w w.heap.size v l := by
  obtain ⟨h1, h2⟩ := h
  have hsl : (w.ownsRow base K.E K.size v l.length (K.flat l)) := ⟨h1, h2⟩
  rcases h2 with ⟨rfl, hn⟩ | ⟨g, cap, cur, rfl, hb, hg, hc, hm, hs, ht⟩
  · have : l = [] := List.eq_nil_of_length_eq_zero hn
    subst this
    exact SlN.nil_ _ _ _
  · exact ⟨_, cap, rfl, hc, hm, fun h0 => ⟨⟨g, 0, none⟩, rfl, (Array.getElem?_eq_some_iff.1 hg).1, fun j u hj => hsl.cells (g := g) rfl j u hj⟩⟩
theorem OwN.more (h : OwN K w base v l) (hb : base' ≤ base) : OwN K w base' v l := by
  obtain ⟨h1, h2⟩ := h
  refine ⟨h1, ?_⟩
  rcases h2 with h2 | ⟨g, cap, cur, rfl, hb', r⟩
  · exact .inl h2
  · exact .inr ⟨g, cap, cur, rfl, by omega, r⟩
theorem OwN.nil_ (K : Ke α) (w : World) (base : Nat) : OwN K w base (.slice none 0 0) [] := World.ownsRow_nil w base K.E K.size
theorem OwN.below (h : OwN K w base v l) (hb : Below w.heap.size w w') : OwN K w' base v l := by
  obtain ⟨h1, h2⟩ := h
  refine ⟨h1, ?_⟩
  rcases h2 with h2 | ⟨g, cap, cur, rfl, hb', hg, r⟩
  · exact .inl h2
  · exact .inr ⟨g, cap, cur, rfl, hb', by rw [hb.block g (Array.getElem?_eq_some_iff.1 hg).1]; exact hg, r⟩
theorem OwN.alloc (h : OwN K w base v l) (o : Obj) : OwN K (w.alloc o) base v l := World.ownsRow.alloc h o
theorem OwN.kept (h : OwN K w base v l) (k : Kept S w w') (hs : ∀ g, v.ownBlock = some g → S g) : OwN K w' base v l := by
  obtain ⟨h1, h2⟩ := h
  refine ⟨h1, ?_⟩
  rcases h2 with h2 | ⟨g, cap, cur, rfl, hb', hg, r⟩
  · exact .inl h2
  · exact .inr ⟨g, cap, cur, rfl, hb', k.heap hg (hs g rfl), r⟩
theorem OwN.lt (h : OwN K w base v l) : ∀ k, v.ownBlock = some k → base ≤ k ∧ k < w.heap.size := World.ownsRow.lt h
theorem OwN.kind (h : OwN K w base v l) : ∀ g, v.ownBlock = some g → ∃ cs, w.heap[g]? = some (.cells cs K.E (0, 0)) := by
  intro g hg
  rcases h.2 with ⟨rfl, _⟩ | ⟨g', cap, cur, rfl, _, hh, _⟩
  · simp [Value.ownBlock] at hg
  · simp [Value.ownBlock] at hg; subst hg; exact ⟨cur, hh⟩
/-- an empty row that a literal made -/
theorem owN_lit (K : Ke α) (w : World) (l : List α) (hl : l.length ≤ maxLen) : OwN K (w.alloc (.cells (K.flat l).toArray K.E)) w.heap.size (.slice (some ⟨w.heap.size, 0, none⟩) l.length l.length) l := by
  refine ⟨K.flat_len l, .inr ⟨w.heap.size, _, _, rfl, Nat.le_refl _, heap_alloc_new w _, Nat.le_refl _, hl, by simp [K.flat_len], ?_⟩⟩
  rw [List.take_of_length_le (by simp [K.flat_len])]
theorem run_append_slN (K : Ke α) (w : World) (base : Nat) (T ty : TypeId) (hT : Try.prog.underlying T = some (.slice K.E)) (v : Value) (l m : List α) (hown : OwN K w base v l) (B : Nat) (y : Value) (hy : SlN K w B y m)
    (hlen : l.length + m.length ≤ 1000000000) (hby : K.bytes ≤ 4096) (hbase : base ≤ w.heap.size) :
    ∃ v' w', (Builtin.append_ #[T, T] ty #[v, y]).run Try.prog w = .ok v' w' ∧ OwN K w' base v' (l ++ m) ∧ w.grownBy w' v.ownBlock ∧ (v'.ownBlock = v.ownBlock ∨ v'.ownBlock = some w.heap.size) := by
  obtain ⟨i, hi, hz, hs, hb⟩ := info_parts K.info
  obtain ⟨A, c, rfl, hc, hm, hr⟩ := hy
  by_cases h0 : 0 < m.length
  · obtain ⟨ad, rfl, hbl, hx⟩ := hr h0
    obtain ⟨v', w', hrun, h2, h3, _, h5⟩ := run_append_own_at (P := Try.prog) w base T ty K.E i K.z K.size K.bytes hT hi hz hs hb K.zs K.pos v l.length (K.flat l) hown ad m.length c (K.flat m) (K.flat_len m)
      hx
      (fun u hu => by
        obtain ⟨x, _, hx⟩ := List.mem_flatMap.1 hu
        exact K.one x u hx) (by simp only [maxLen]; omega)
      (Nat.le_trans (Nat.mul_le_mul_left _ hby) (by omega)) hbase
    refine ⟨v', w', hrun, ?_, h3, h5⟩
    unfold OwN
    rw [List.length_append, K.flat_app]
    exact h2
  · have hm0 : m = [] := List.eq_nil_of_length_eq_zero (by omega)
    subst hm0
    refine ⟨v, w, run_append_nothing w T ty K.E i K.size base hT hi v _ _ hown A c, by simpa using hown, World.grownBy.refl w _, .inl rfl⟩
theorem wpList_append_slN (K : Ke α) (w : World) {ops : Array Oper} {rest : List Oper} {o : Oper} {a : Act} {Q : Exit → Act → World → Prop} (hgd : o.guard = none) (s x : Operand) (T : TypeId)
    (ho : o.op = .call { callee := .builtin .append, args := #[s, x], argTypes := #[T, T] }) (hT : Try.prog.underlying T = some (.slice K.E))
    (base : Nat) (v : Value) (l : List α) (hs : a.eval s = v) (hown : OwN K w base v l)
    (B : Nat) (y : Value) (m : List α) (hx : a.eval x = y) (hy : SlN K w B y m)
    (hlen : l.length + m.length ≤ 1000000000) (hby : K.bytes ≤ 4096) (hbase : base ≤ w.heap.size)
    (h : ∀ v' w', OwN K w' base v' (l ++ m) → w.grownBy w' v.ownBlock → (v'.ownBlock = v.ownBlock ∨ v'.ownBlock = some w.heap.size) → wpList Try.prog ops Q rest (a.put o.dst v') w') :
    wpList Try.prog ops Q (o :: rest) a w := by
  refine wpList_plain hgd fun Kk hK => ?_
  obtain ⟨v', w', hrun, h2, h3, h4⟩ := run_append_slN K w base T o.type hT v l m hown B y hy hlen hby hbase
  unfold Oper.wp execOp
  simp only [ho, resolve, invoke, builtin, Sem.run_bind, Sem.run_pure, Result.andThen_ok, List.map_toArray, List.map_cons, List.map_nil, hs, hx, hrun]
  exact hK _ _ (h v' w' h2 h3 h4)
end
/-- lines as elements -/
def lnK : Ke Ln := ⟨55, fun o => o.vs.toList, .agg Ln.zero.vs, 9, 96, fun _ => rfl, fun o u hu => by
  simp only [Ln.vs, List.mem_cons, List.not_mem_nil, or_false] at hu
  rcases hu with rfl | rfl | rfl | rfl | rfl | rfl | rfl | rfl | rfl <;> rfl, by kernel_rfl, rfl, by decide⟩
theorem LnAt.flat {w : World} {p : Addr} {o : Ln} (h : LnAt w p o) : ∀ j u, o.vs.toList[j]? = some u → w.cell? (p.add j) = some u := by
  intro j u hu
  have e : ∀ j, j ≠ 0 → p.add j = ⟨p.block, p.off + j, none⟩ := fun j hj => by
    unfold Addr.add; rw [if_neg hj]
  match j, hu with
  | 0, hu => cases hu; simpa [Addr.add] using h.c0
  | 1, hu => cases hu; rw [e 1 (by decide)]; exact h.c1
  | 2, hu => cases hu; rw [e 2 (by decide)]; exact h.c2
  | 3, hu => cases hu; rw [e 3 (by decide)]; exact h.c3
  | 4, hu => cases hu; rw [e 4 (by decide)]; exact h.c4
  | 5, hu => cases hu; rw [e 5 (by decide)]; exact h.c5
  | 6, hu => cases hu; rw [e 6 (by decide)]; exact h.c6
  | 7, hu => cases hu; rw [e 7 (by decide)]; exact h.c7
  | 8, hu => cases hu; rw [e 8 (by decide)]; exact h.c8
  | n + 9, hu => simp [Ln.vs] at hu
theorem LnAt.of {w : World} {p : Addr} {o : Ln} (h : ∀ j u, o.vs.toList[j]? = some u → w.cell? (p.add j) = some u) : LnAt w p o := by
  have e : ∀ j, j ≠ 0 → p.add j = ⟨p.block, p.off + j, none⟩ := fun j hj => by
    unfold Addr.add; rw [if_neg hj]
  have h0 := h 0 _ rfl
  have h1 := h 1 _ rfl
  have h2 := h 2 _ rfl
  have h3 := h 3 _ rfl
  have h4 := h 4 _ rfl
  have h5 := h 5 _ rfl
  have h6 := h 6 _ rfl
  have h7 := h 7 _ rfl
  have h8 := h 8 _ rfl
  rw [e 1 (by decide)] at h1
  rw [e 2 (by decide)] at h2
  rw [e 3 (by decide)] at h3
  rw [e 4 (by decide)] at h4
  rw [e 5 (by decide)] at h5
  rw [e 6 (by decide)] at h6
  rw [e 7 (by decide)] at h7
  rw [e 8 (by decide)] at h8
  exact ⟨by simpa [Addr.add] using h0, h1, h2, h3, h4, h5, h6, h7, h8⟩
end Go.Proofs.Ytnfpmobmfcgfnaa
