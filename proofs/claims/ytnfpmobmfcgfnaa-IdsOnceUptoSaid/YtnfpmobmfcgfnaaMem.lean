/- MEMORY WORDS: a slice of bytes that reads as a list; a row of bytes that the call owns; what keeps them. -/
import Derived.WalkKit
import Derived.WalkSpells
import Derived.WalkLawsBesides
import Derived.Lib.Hide
import Derived.Laws.OwnMore
import Derived.Laws.BytesArg
import Derived.Maps.AppendAt
import Derived.Test.YtnfpmobmfcgfnaaRows
namespace Go.Proofs.Ytnfpmobmfcgfnaa
open Go.RowKit
theorem ret_int {k : IntKind} {a b : Int} (h : a = b) : Ending.returned (.int k a) = .returned (.int k b) := by rw [h]
theorem ret_bool {a b : Bool} (h : a = b) : Ending.returned (.bool a) = .returned (.bool b) := by rw [h]
theorem addr_add_block (a : Addr) (n : Nat) : (a.add n).block = a.block := by unfold Addr.add; split <;> rfl
theorem addr_add_add (a : Addr) (i j : Nat) : (a.add i).add j = a.add (i + j) := by
  unfold Addr.add
  by_cases hi : i = 0 <;> by_cases hj : j = 0 <;> simp [hi, hj, Nat.add_assoc]
theorem addr_mk_add (b o j : Nat) : (⟨b, o, none⟩ : Addr).add j = ⟨b, o + j, none⟩ := by unfold Addr.add; split <;> simp_all

/-- a byte as a value -/
def bV (b : UInt8) : Value := .int .u8 (b.toNat : Int)
theorem bV_one (b : UInt8) : (bV b).oneCell' = true := rfl
theorem bsV_one (l : List UInt8) : ∀ u ∈ l.map bV, u.oneCell' = true := by
  intro u hu
  obtain ⟨b, _, rfl⟩ := List.mem_map.1 hu
  rfl

/-- the slice v reads as the bytes l, in blocks below B -/
def Byt (w : World) (B : Nat) (v : Value) (l : List UInt8) : Prop :=
  ∃ (A : Option Addr) (c : Nat), v = .slice A l.length c ∧ l.length ≤ c ∧ c ≤ maxLen ∧
    (0 < l.length → ∃ ad : Addr, A = some ad ∧ ad.block < B ∧ ∀ (j : Nat) (x : UInt8), l[j]? = some x → w.cell? (ad.add j) = some (bV x))
section
variable {w w' : World} {B B' : Nat} {v : Value} {l : List UInt8}
theorem Byt.keep (h : Byt w B v l) (hk : ∀ p : Addr, p.block < B → w'.cell? p = w.cell? p) : Byt w' B v l := by
  obtain ⟨A, c, hv, hc, hm, hr⟩ := h
  refine ⟨A, c, hv, hc, hm, fun h0 => ?_⟩
  obtain ⟨ad, hA, hb, hx⟩ := hr h0
  exact ⟨ad, hA, hb, fun j x hj => (hk _ (by rw [addr_add_block]; exact hb)).trans (hx j x hj)⟩
theorem Byt.more (h : Byt w B v l) (hB : B ≤ B') : Byt w B' v l := by
  obtain ⟨A, c, hv, hc, hm, hr⟩ := h
  refine ⟨A, c, hv, hc, hm, fun h0 => ?_⟩
  obtain ⟨ad, hA, hb, hx⟩ := hr h0
  exact ⟨ad, hA, by omega, hx⟩
/-- whatever bound: a cell that is there lies in the heap -/
theorem Byt.heap (h : Byt w B v l) : Byt w w.heap.size v l := by
  obtain ⟨A, c, hv, hc, hm, hr⟩ := h
  refine ⟨A, c, hv, hc, hm, fun h0 => ?_⟩
  obtain ⟨ad, hA, hb, hx⟩ := hr h0
  refine ⟨ad, hA, ?_, hx⟩
  have := World.block_lt_of_cell? w _ (hx 0 _ (List.getElem?_eq_getElem h0))
  rwa [addr_add_block] at this
theorem Byt.below (h : Byt w B v l) (hb : Below B w w') : Byt w' B v l := h.keep fun _ hp => hb.cell hp
theorem Byt.drew (h : Byt w B v l) : Byt w.drew B v l := h
theorem Byt.alloc (h : Byt w B v l) (hB : B ≤ w.heap.size) (o : Obj) : Byt (w.alloc o) B v l := h.keep fun p hp => World.cell?_alloc_lt w o p (by omega)
theorem Byt.setCell (h : Byt w B v l) {p : Addr} (hB : B ≤ p.block) (u : Value) : Byt (w.setCell p u) B v l :=
  h.keep fun q hq => World.cell?_setCell_other w p q u (fun e => by subst e; omega)
theorem Byt.grown (h : Byt w B v l) {row : Option Nat} (hg : w.grownBy w' row) (hB : B ≤ w.heap.size) (hr : ∀ g, row = some g → B ≤ g) : Byt w' B v l :=
  h.keep fun p hp => World.cell?_of_block (hg.block p.block (by omega) (fun e => by have := hr _ e.symm; omega))
theorem Byt.nil_ (w : World) (B : Nat) : Byt w B (.slice none 0 0) [] := ⟨none, 0, rfl, Nat.le_refl _, by simp [maxLen], fun h => absurd h (by simp)⟩
theorem Byt.len_le (h : Byt w B v l) : l.length ≤ maxLen := by
  obtain ⟨A, c, hv, hc, hm, hr⟩ := h; omega
end
/-- a row of bytes that the call owns -/
def Own (w : World) (base : Nat) (v : Value) (l : List UInt8) : Prop := w.ownsRow base 5 1 v l.length (l.map bV)
section
variable {w w' : World} {base base' B : Nat} {v : Value} {l : List UInt8}
theorem Own.byt (h : Own w base v l) : Byt w w.heap.size v l := by
  obtain ⟨h1, h2⟩ := h
  have hsl : (w.ownsRow base 5 1 v l.length (l.map bV)) := ⟨h1, h2⟩
  rcases h2 with ⟨rfl, hn⟩ | ⟨g, cap, cur, rfl, hb, hg, hc, hm, hs, ht⟩
  · have : l = [] := List.eq_nil_of_length_eq_zero hn
    subst this
    exact Byt.nil_ _ _
  · refine ⟨_, cap, rfl, hc, hm, fun h0 => ⟨⟨g, 0, none⟩, rfl, (Array.getElem?_eq_some_iff.1 hg).1, fun j x hj => ?_⟩⟩
    exact hsl.cells (g := g) rfl j (bV x) (by rw [List.getElem?_map, hj]; rfl)
theorem Own.more (h : Own w base v l) (hb : base' ≤ base) : Own w base' v l := by
  obtain ⟨h1, h2⟩ := h
  refine ⟨h1, ?_⟩
  rcases h2 with h2 | ⟨g, cap, cur, rfl, hb', r⟩
  · exact .inl h2
  · exact .inr ⟨g, cap, cur, rfl, by omega, r⟩
theorem Own.nil_ (w : World) (base : Nat) : Own w base (.slice none 0 0) [] := World.ownsRow_nil w base 5 1
theorem Own.below (h : Own w base v l) (hb : Below w.heap.size w w') : Own w' base v l := by
  obtain ⟨h1, h2⟩ := h
  refine ⟨h1, ?_⟩
  rcases h2 with h2 | ⟨g, cap, cur, rfl, hb', hg, r⟩
  · exact .inl h2
  · exact .inr ⟨g, cap, cur, rfl, hb', by rw [hb.block g (Array.getElem?_eq_some_iff.1 hg).1]; exact hg, r⟩
theorem Own.drew (h : Own w base v l) : Own w.drew base v l := h
theorem Own.alloc (h : Own w base v l) (o : Obj) : Own (w.alloc o) base v l := World.ownsRow.alloc h o
end
/-- a block of bytes that a literal made -/
theorem own_lit (w : World) (l : List UInt8) (hl : l.length ≤ maxLen) : Own (w.alloc (.cells (l.map bV).toArray 5)) w.heap.size (.slice (some ⟨w.heap.size, 0, none⟩) l.length l.length) l := by
  have := World.ownsRow_lit (w := w) (e := 5) (size := 1) (base := w.heap.size) (l.map bV).toArray l.length (Nat.le_refl _) hl (by simp)
  exact this
theorem bcell {W w1 : World} (hb : Below W.heap.size W w1) : (∀ b o, b < W.heap.size → w1.cell? ⟨b, o, none⟩ = W.cell? ⟨b, o, none⟩) ∧ (∀ b o, b < W.heap.size → w1.frozen? ⟨b, o, none⟩ = W.frozen? ⟨b, o, none⟩) :=
  ⟨fun b o h => hb.cell (p := ⟨b, o, none⟩) h, fun b o h => hb.frozen (p := ⟨b, o, none⟩) h⟩

theorem Try.byteInfo : (Try.prog.info? 5).map (fun i => (i.zero, i.size, i.bytes)) = some (some (.int .u8 0), 1, 1) := by kernel_rfl

theorem run_append_nothing (w : World) (t ty e : TypeId) (i : TypeInfo) (size base : Nat) (ht : Try.prog.underlying t = some (.slice e)) (hi : Try.prog.info? e = some i)
    (v : Value) (n : Nat) (xs : List Value) (hown : w.ownsRow base e size v n xs) (A : Option Addr) (c : Nat) : (Builtin.append_ #[t, t] ty #[v, .slice A 0 c]).run Try.prog w = .ok v w := by
  rcases hown.2 with ⟨rfl, rfl⟩ | ⟨g, cap, cur, rfl, _, _, hnc, _⟩
  · cases A <;> simp [Builtin.append_, run_underlying ht, sizeOf, typeInfo, hi, Builtin.lenOf, Builtin.firstCells, loadCells, loadCellsFrom]
  · cases A <;> simp [Builtin.append_, run_underlying ht, sizeOf, typeInfo, hi, Builtin.lenOf, Builtin.firstCells, hnc, storeCells, loadCells, loadCellsFrom]

/-- append of bytes that read as a list, onto a row of the call's own -/
theorem run_append_byt (w : World) (base : Nat) (ty : TypeId) (v : Value) (l m : List UInt8) (hown : Own w base v l) (B : Nat) (y : Value) (hy : Byt w B y m)
    (hbytes : l.length + m.length ≤ 140737488355328) (hbase : base ≤ w.heap.size) :
    ∃ v' w', (Builtin.append_ #[59, 59] ty #[v, y]).run Try.prog w = .ok v' w' ∧ Own w' base v' (l ++ m) ∧ w.grownBy w' v.ownBlock ∧ (v'.ownBlock = v.ownBlock ∨ v'.ownBlock = some w.heap.size) := by
  obtain ⟨i, hi, hz, hs, hby⟩ := info_parts Try.byteInfo
  obtain ⟨A, c, rfl, hc, hm, hr⟩ := hy
  by_cases h0 : 0 < m.length
  · obtain ⟨ad, rfl, hb, hx⟩ := hr h0
    obtain ⟨v', w', hrun, h2, h3, _, h5⟩ := run_append_own_at (P := Try.prog) w base 59 ty 5 i (.int .u8 0) 1 1 Try.underlying59 hi hz hs hby rfl (by decide) v l.length (l.map bV) hown ad m.length c (m.map bV) (by simp)
      (fun j u hu => by
        rw [List.getElem?_map] at hu
        cases hj : m[j]? with
        | none => rw [hj] at hu; cases hu
        | some x => rw [hj] at hu; cases hu; exact hx j x hj)
      (bsV_one m) (by simp only [maxLen]; omega) (by omega) hbase
    refine ⟨v', w', hrun, ?_, h3, h5⟩
    unfold Own
    rw [List.length_append, List.map_append]
    exact h2
  · have hm0 : m = [] := List.eq_nil_of_length_eq_zero (by omega)
    subst hm0
    refine ⟨v, w, run_append_nothing w 59 ty 5 i 1 base Try.underlying59 hi v _ _ hown A c, by simpa using hown, World.grownBy.refl w _, .inl rfl⟩

theorem wpList_append_byt (w : World) {ops : Array Oper} {rest : List Oper} {o : Oper} {a : Act} {Q : Exit → Act → World → Prop} (hgd : o.guard = none) (s x : Operand)
    (ho : o.op = .call { callee := .builtin .append, args := #[s, x], argTypes := #[59, 59] })
    (base : Nat) (v : Value) (l : List UInt8) (hs : a.eval s = v) (hown : Own w base v l)
    (B : Nat) (y : Value) (m : List UInt8) (hx : a.eval x = y) (hy : Byt w B y m)
    (hbytes : l.length + m.length ≤ 140737488355328) (hbase : base ≤ w.heap.size)
    (h : ∀ v' w', Own w' base v' (l ++ m) → w.grownBy w' v.ownBlock → (v'.ownBlock = v.ownBlock ∨ v'.ownBlock = some w.heap.size) → wpList Try.prog ops Q rest (a.put o.dst v') w') :
    wpList Try.prog ops Q (o :: rest) a w := by
  refine wpList_plain hgd fun K hK => ?_
  obtain ⟨v', w', hrun, h2, h3, h4⟩ := run_append_byt w base o.type v l m hown B y hy hbytes hbase
  unfold Oper.wp execOp
  simp only [ho, resolve, invoke, builtin, Sem.run_bind, Sem.run_pure, Result.andThen_ok, List.map_toArray, List.map_cons, List.map_nil, hs, hx, hrun]
  exact hK _ _ (h v' w' h2 h3 h4)

/-- bytes as a text -/
theorem Byt.str {w : World} {B : Nat} {v : Value} {l : List UInt8} (h : Byt w B v l) : (convert 59 9 v).run Try.prog w = .ok (.string ⟨l.toArray⟩) w := by
  obtain ⟨A, c, rfl, hc, hm, hr⟩ := h
  by_cases h0 : 0 < l.length
  · obtain ⟨ad, rfl, hb, hx⟩ := hr h0
    rw [run_convert_bytes_string w 59 9 5 _ _ c Try.underlying59 Try.underlying5 Try.underlying9]
    have hl : (loadCells ad l.length).run Try.prog w = .ok ((l.map fun b => (b.toNat : Int)).map (Value.int .u8)).toArray w := by
      have := run_loadCells_list (P := Try.prog) w ad (l.map bV) (fun j u hu => by
        rw [List.getElem?_map] at hu
        cases hj : l[j]? with
        | none => rw [hj] at hu; cases hu
        | some x => rw [hj] at hu; cases hu; exact hx j x hj)
      rw [List.length_map] at this
      rw [List.map_map]
      exact this
    rw [run_bytesToString w ad _ c _ hl, foldl_push_bytes]
    have : ((fun n : Int => UInt8.ofNat n.toNat) ∘ fun b : UInt8 => (b.toNat : Int)) = id := by
      funext b
      simp
    rw [List.map_map, this, List.map_id, show ByteArray.empty.data = #[] from rfl, Array.empty_append]
  · have hl0 : l = [] := List.eq_nil_of_length_eq_zero (by omega)
    subst hl0
    cases A with
    | none =>
      exact run_convert_bytes_nil w 59 5 Try.underlying59 Try.underlying5 _ _ 9 Try.underlying9
    | some ad =>
      rw [run_convert_bytes_string w 59 9 5 _ _ c Try.underlying59 Try.underlying5 Try.underlying9]
      have hl : (loadCells ad ([] : List UInt8).length).run Try.prog w = .ok (([] : List Int).map (Value.int .u8)).toArray w := by
        simp [loadCells, loadCellsFrom]
      rw [run_bytesToString w ad _ c [] hl]
      rfl
end Go.Proofs.Ytnfpmobmfcgfnaa
