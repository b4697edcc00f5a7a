/- WHICH BLOCKS STAND: 'Kept S w w'': the blocks in S are as they were. Append of a text; append at a step of a region that draws. -/
import Derived.Test.YtmcjefdnkcpghaaMem
import Derived.Lib.AppendStr
import Derived.Lib.BufferWrite
import Derived.OneCell
import Derived.Orders
import Derived.StillTail
import Derived.Tactics
import Derived.Below
import Derived.RangeFuncNested
import Derived.Deep.QuietTactic
import Derived.BigQuiet
import Derived.OrdersIn
import Derived.TacticsIn
namespace Go.Proofs.Ytmcjefdnkcpghaa
open Go.RowKit
/-- the blocks in S are as they were; the streams too; no block has gone -/
structure Kept (S : Nat → Prop) (w w' : World) : Prop where
  os : w'.os = w.os
  tape : w'.tape = w.tape
  output : w'.output = w.output
  size : w.heap.size ≤ w'.heap.size
  block : ∀ k, k < w.heap.size → S k → w'.heap[k]? = w.heap[k]?
section
variable {S S' : Nat → Prop} {w w' w'' : World} {B base : Nat} {v : Value} {l : List UInt8}
theorem Kept.refl (S : Nat → Prop) (w : World) : Kept S w w := ⟨rfl, rfl, rfl, Nat.le_refl _, fun _ _ _ => rfl⟩
theorem Kept.trans (h : Kept S w w') (k : Kept S' w' w'') (hs : ∀ b, b < w.heap.size → S b → S' b) : Kept S w w'' :=
  ⟨k.os.trans h.os, k.tape.trans h.tape, k.output.trans h.output, Nat.le_trans h.size k.size,
    fun b hb hS => (k.block b (Nat.lt_of_lt_of_le hb h.size) (hs b hb hS)).trans (h.block b hb hS)⟩
theorem Kept.mono (h : Kept S w w') (hs : ∀ b, b < w.heap.size → S' b → S b) : Kept S' w w' := ⟨h.os, h.tape, h.output, h.size, fun b hb hS => h.block b hb (hs b hb hS)⟩
theorem Kept.ofBelow (h : Below w.heap.size w w') : Kept S w w' := ⟨h.os, h.tape, h.output, h.size, fun b hb _ => h.block b hb⟩
theorem Kept.ofBelow' (h : Below B w w') (hB : ∀ b, b < w.heap.size → S b → b < B) : Kept S w w' := ⟨h.os, h.tape, h.output, h.size, fun b hb hS => h.block b (hB b hb hS)⟩
theorem Kept.toBelow (h : Kept S w w') (hB : B ≤ w.heap.size) (hs : ∀ b, b < B → S b) : Below B w w' := ⟨h.os, h.tape, h.output, h.size, fun b hb => h.block b (by omega) (hs b hb)⟩
theorem Kept.drew (h : Kept S w w') : Kept S w w'.drew := ⟨h.os, h.tape, h.output, h.size, h.block⟩
theorem Kept.alloc (h : Kept S w w') (o : Obj) : Kept S w (w'.alloc o) :=
  ⟨h.os, h.tape, h.output, Nat.le_trans h.size (by simp), fun b hb hS => (Below.heap_alloc _ _ _ (Nat.lt_of_lt_of_le hb h.size)).trans (h.block b hb hS)⟩
theorem Kept.setCell (h : Kept S w w') (p : Addr) (u : Value) (hp : p.block < w.heap.size → ¬ S p.block) : Kept S w (w'.setCell p u) :=
  ⟨h.os, h.tape, h.output, Nat.le_trans h.size (by simp [World.setCell]), fun b hb hS => (Below.heap_setCell _ _ _ _ (fun e => hp (e ▸ hb) (e ▸ hS))).trans (h.block b hb hS)⟩
theorem Kept.grown {row : Option Nat} (h : Kept S w w') (hg : w'.grownBy w'' row) (hr : ∀ k, row = some k → k < w.heap.size → ¬ S k) : Kept S w w'' :=
  ⟨hg.os.trans h.os, hg.tape.trans h.tape, hg.output.trans h.output, Nat.le_trans h.size hg.size,
    fun b hb hS => (hg.block b (Nat.lt_of_lt_of_le hb h.size) (fun e => hr b e.symm hb hS)).trans (h.block b hb hS)⟩
theorem Kept.heap {g : Nat} {o : Obj} (h : Kept S w w') (hg : w.heap[g]? = some o) (hS : S g) : w'.heap[g]? = some o := (h.block g (lt_of_block hg) hS).trans hg
theorem Kept.cell {p : Addr} (h : Kept S w w') (hp : p.block < w.heap.size) (hS : S p.block) : w'.cell? p = w.cell? p := World.cell?_of_block (w := w) (h.block p.block hp hS)
theorem Own.kept (ho : Own w base v l) (h : Kept S w w') (hs : ∀ g, v.ownBlock = some g → S g) : Own w' base v l := by
  obtain ⟨h1, h2⟩ := ho
  refine ⟨h1, ?_⟩
  rcases h2 with h2 | ⟨g, cap, cur, rfl, hb', hg, r⟩
  · exact .inl h2
  · exact .inr ⟨g, cap, cur, rfl, hb', h.heap hg (hs g rfl), r⟩
theorem Byt.kept (ho : Byt w B v l) (h : Kept S w w') (hB : B ≤ w.heap.size) (hs : ∀ b, b < B → S b) : Byt w' B v l := ho.below (h.toBelow hB hs)
theorem Own.setOther (ho : Own w base v l) {p : Addr} (hp : v.ownBlock ≠ some p.block) (u : Value) : Own (w.setCell p u) base v l := ownsRow_setCell_other ho hp u
/-- an owned row of bytes lies in a block of bytes -/
theorem Own.kind (ho : Own w base v l) : ∀ g, v.ownBlock = some g → ∃ cs, w.heap[g]? = some (.cells cs 5 (0, 0)) := by
  intro g hg
  rcases ho.2 with ⟨rfl, _⟩ | ⟨g', cap, cur, rfl, _, hgg, _⟩
  · simp [Value.ownBlock] at hg
  · simp [Value.ownBlock] at hg; subst hg; exact ⟨cur, hgg⟩
theorem Own.apart {g : Nat} {cs : Array Value} {t : TypeId} {fr : Nat × Nat} (ho : Own w base v l) (hg : w.heap[g]? = some (.cells cs t fr)) (ht : t ≠ 5) : v.ownBlock ≠ some g := by
  intro e
  obtain ⟨c, hc⟩ := ho.kind g e
  rw [hg] at hc
  cases hc
  exact ht rfl
end
theorem Try.underString : Try.prog.underlying 9 = some .string := Try.underlying9
/-- append of a text's bytes, onto a row of the call's own -/
theorem run_append_str (w : World) (base : Nat) (ty : TypeId) (v : Value) (l : List UInt8) (hown : Own w base v l) (s : ByteArray)
    (hbytes : l.length + s.size ≤ 140737488355328) (hbase : base ≤ w.heap.size) :
    ∃ v' w', (Builtin.append_ #[23, 9] ty #[v, .string s]).run Try.prog w = .ok v' w' ∧ Own w' base v' (l ++ s.data.toList) ∧ w.grownBy w' v.ownBlock ∧ (v'.ownBlock = v.ownBlock ∨ v'.ownBlock = none ∨ v'.ownBlock = some w.heap.size) := by
  obtain ⟨i, hi, hz, hs, hby⟩ := info_parts Try.byteInfo
  have h63 : l.length + s.size ≤ maxLen := by simp only [maxLen]; omega
  obtain ⟨v', w', hrun, h2, h3, h4⟩ := Lib.run_append_own_string (P := Try.prog) w base 23 9 ty 5 i Try.underlying23 Try.underlying9 hi hz hs hby v l.length (l.map bV) hown s h63 hbytes hbase
  refine ⟨v', w', hrun, ?_, h3, ?_⟩
  · unfold Own
    rw [List.length_append, List.map_append]
    exact h2
  · rcases hown.2 with ⟨rfl, hn⟩ | ⟨g, cap, cur, rfl, hbg, hg, hnc, hcm, hcs, htake⟩
    · by_cases hm : s.size = 0
      · rw [h4.2 ⟨rfl, hm⟩]; exact .inl rfl
      · have hr := run_append_nil_string (P := Try.prog) w 23 9 ty 5 i (.int .u8 0) Try.underlying23 Try.underlying9 hi hz s (by omega) (by unfold maxLen at h63; omega) (by rw [hby]; omega)
        rw [hr] at hrun
        injection hrun with e1 e2
        subst e1
        exact .inr (.inr rfl)
    · by_cases hroom : l.length + s.size ≤ cap
      · have hr := Lib.run_append_room_string (P := Try.prog) w 23 9 ty 5 i Try.underlying23 Try.underlying9 hi hs g l.length cap cur hg s hroom (by omega)
        rw [hr] at hrun
        injection hrun with e1 e2
        subst e1
        exact .inl rfl
      · have holds : ∀ j u, (l.map bV)[j]? = some u → w.cell? ((⟨g, 0, none⟩ : Addr).add j) = some u := hown.cells (g := g) rfl
        have hr := Lib.run_append_grow_string (P := Try.prog) w 23 9 ty 5 i (.int .u8 0) Try.underlying23 Try.underlying9 hi hz ⟨g, 0, none⟩ l.length cap (l.map bV) (by rw [hs]; simp) holds s (by omega) (by unfold maxLen at h63; omega) (by rw [hby]; exact growslice_fits (by omega) (by omega))
        rw [hr] at hrun
        injection hrun with e1 e2
        subst e1
        exact .inr (.inr rfl)
theorem wpList_append_str (w : World) {ops : Array Oper} {rest : List Oper} {o : Oper} {a : Act} {Q : Exit → Act → World → Prop} (hgd : o.guard = none) (s x : Operand)
    (ho : o.op = .call { callee := .builtin .append, args := #[s, x], argTypes := #[23, 9] })
    (base : Nat) (v : Value) (l : List UInt8) (hs : a.eval s = v) (hown : Own w base v l) (m : ByteArray) (hx : a.eval x = .string m)
    (hbytes : l.length + m.size ≤ 140737488355328) (hbase : base ≤ w.heap.size)
    (h : ∀ v' w', Own w' base v' (l ++ m.data.toList) → w.grownBy w' v.ownBlock → (v'.ownBlock = v.ownBlock ∨ v'.ownBlock = none ∨ v'.ownBlock = some w.heap.size) → wpList Try.prog ops Q rest (a.put o.dst v') w') :
    wpList Try.prog ops Q (o :: rest) a w := by
  refine wpList_plain hgd fun K hK => ?_
  obtain ⟨v', w', hrun, h2, h3, h4⟩ := run_append_str w base o.type v l hown m hbytes hbase
  unfold Oper.wp execOp
  simp only [ho, resolve, invoke, builtin, Sem.run_bind, Sem.run_pure, Result.andThen_ok, List.map_toArray, List.map_cons, List.map_nil, hs, hx, hrun]
  exact hK _ _ (h v' w' h2 h3 h4)
/-- append at a step of a region that draws its order -/
theorem step_append_byt (w : World) {ops : Array Oper} {o : Oper} {a : Act} {K : Act → World → Prop} {Q : Exit → Act → World → Prop} {E : Prop} (hgd : o.guard = none) (s x : Operand)
    (ho : o.op = .call { callee := .builtin .append, args := #[s, x], argTypes := #[23, 23] })
    (base : Nat) (v : Value) (l : List UInt8) (hs : a.eval s = v) (hown : Own w base v l)
    (B : Nat) (y : Value) (m : List UInt8) (hx : a.eval x = y) (hy : Byt w B y m)
    (hbytes : l.length + m.length ≤ 140737488355328) (hbase : base ≤ w.heap.size)
    (h : ∀ v' w', Own w' base v' (l ++ m) → w.grownBy w' v.ownBlock → (v'.ownBlock = v.ownBlock ∨ v'.ownBlock = some w.heap.size) → K (a.put o.dst v') w') :
    if Region.wanted o (yielded ops a.tmps) = true then Oper.wp Try.prog o a w K Q else E := by
  have hw : Region.wanted o (yielded ops a.tmps) = true := by simp [Region.wanted, hgd]
  rw [if_pos hw]
  obtain ⟨v', w', hrun, h2, h3, h4⟩ := run_append_byt w base o.type v l m hown B y hy hbytes hbase
  unfold Oper.wp execOp
  simp only [ho, resolve, invoke, builtin, Sem.run_bind, Sem.run_pure, Result.andThen_ok, List.map_toArray, List.map_cons, List.map_nil, hs, hx, hrun]
  exact h v' w' h2 h3 h4
/-- a slice of one byte, laid in a new block -/
theorem byt_one (w : World) (n : Int) (b : UInt8) (hb : n = (b.toNat : Int)) : Byt (w.alloc (.cells #[.int .u8 n] 5)) (w.heap.size + 1) (.slice (some ⟨w.heap.size, 0, none⟩) 1 1) [b] := by
  subst hb
  have := (own_lit w [b] (by simp [maxLen])).byt
  simpa [bV] using this
end Go.Proofs.Ytmcjefdnkcpghaa
/- SLICES WHOSE ELEMENTS LIE IN ONE CELL, of any kind: read as lists; rows of the call's own; append. -/
namespace Go.Proofs.Ytmcjefdnkcpghaa
open Go.RowKit
/-- a kind of element: its type, how it lies in a cell -/
structure Kd (α : Type) where
  E : TypeId
  enc : α → Value
  z : Value
  bytes : Nat
  one : ∀ x, (enc x).oneCell' = true
  info : (Try.prog.info? E).map (fun i => (i.zero, i.size, i.bytes)) = some (some z, 1, bytes)
  zs : z.cells.size = 1
def strK : Kd ByteArray := ⟨9, .string, .string ⟨#[]⟩, 16, fun _ => rfl, by kernel_rfl, rfl⟩
/-- the slice v reads as the list l, in blocks below B -/
def Sl {α : Type} (K : Kd α) (w : World) (B : Nat) (v : Value) (l : List α) : Prop :=
  ∃ (A : Option Addr) (c : Nat), v = .slice A l.length c ∧ l.length ≤ c ∧ c ≤ maxLen ∧
    (0 < l.length → ∃ ad : Addr, A = some ad ∧ ad.block < B ∧ ∀ (j : Nat) (x : α), l[j]? = some x → w.cell? (ad.add j) = some (K.enc x))
section
variable {α : Type} {K : Kd α} {w w' : World} {B B' : Nat} {v : Value} {l m : List α}
theorem Sl.keep (h : Sl K w B v l) (hk : ∀ p : Addr, p.block < B → w'.cell? p = w.cell? p) : Sl K w' B v l := by
  obtain ⟨A, c, hv, hc, hm, hr⟩ := h
  refine ⟨A, c, hv, hc, hm, fun h0 => ?_⟩
  obtain ⟨ad, hA, hb, hx⟩ := hr h0
  exact ⟨ad, hA, hb, fun j x hj => (hk _ (by rw [addr_add_block]; exact hb)).trans (hx j x hj)⟩
theorem Sl.more (h : Sl K w B v l) (hB : B ≤ B') : Sl K w B' v l := by
  obtain ⟨A, c, hv, hc, hm, hr⟩ := h
  refine ⟨A, c, hv, hc, hm, fun h0 => ?_⟩
  obtain ⟨ad, hA, hb, hx⟩ := hr h0
  exact ⟨ad, hA, by omega, hx⟩
theorem Sl.heap (h : Sl K w B v l) : Sl K w w.heap.size v l := by
  obtain ⟨A, c, hv, hc, hm, hr⟩ := h
  refine ⟨A, c, hv, hc, hm, fun h0 => ?_⟩
  obtain ⟨ad, hA, hb, hx⟩ := hr h0
  refine ⟨ad, hA, ?_, hx⟩
  have := World.block_lt_of_cell? w _ (hx 0 _ (List.getElem?_eq_getElem h0))
  rwa [addr_add_block] at this
theorem Sl.below (h : Sl K w B v l) (hb : Below B w w') : Sl K w' B v l := h.keep fun _ hp => hb.cell hp
theorem Sl.drew (h : Sl K w B v l) : Sl K w.drew B v l := h
theorem Sl.alloc (h : Sl K w B v l) (hB : B ≤ w.heap.size) (o : Obj) : Sl K (w.alloc o) B v l := h.keep fun p hp => World.cell?_alloc_lt w o p (by omega)
theorem Sl.grown (h : Sl K w B v l) {row : Option Nat} (hg : w.grownBy w' row) (hB : B ≤ w.heap.size) (hr : ∀ g, row = some g → B ≤ g) : Sl K w' B v l :=
  h.keep fun p hp => World.cell?_of_block (hg.block p.block (by omega) (fun e => by have := hr _ e.symm; omega))
theorem Sl.nil_ (K : Kd α) (w : World) (B : Nat) : Sl K w B (.slice none 0 0) [] := ⟨none, 0, rfl, Nat.le_refl _, by simp [maxLen], fun h => absurd h (by simp)⟩
theorem Sl.len_le (h : Sl K w B v l) : l.length ≤ maxLen := by
  obtain ⟨A, c, hv, hc, hm, hr⟩ := h; omega
/-- element k, as the walk asks for it -/
theorem Sl.at_ (h : Sl K w B v l) (k : Nat) (hk : k < l.length) : ∃ (ad : Addr) (c : Nat), v = .slice (some ad) l.length c ∧ l.length ≤ c ∧ c ≤ maxLen ∧ ad.block < B ∧ w.cell? (ad.add k) = some (K.enc l[k]) := by
  obtain ⟨A, c, rfl, hc, hm, hr⟩ := h
  obtain ⟨ad, rfl, hb, hx⟩ := hr (by omega)
  exact ⟨ad, c, rfl, hc, hm, hb, hx k _ (List.getElem?_eq_getElem hk)⟩
/-- a row of the call's own -/
def Ow {α : Type} (K : Kd α) (w : World) (base : Nat) (v : Value) (l : List α) : Prop := w.ownsRow base K.E 1 v l.length (l.map K.enc)
variable {base base' : Nat} {ad' : Addr} {n' c' : Nat}
theorem Ow.sl (h : Ow K w base v l) : Sl K w w.heap.size v l := by
  obtain ⟨h1, h2⟩ := h
  have hsl : (w.ownsRow base K.E 1 v l.length (l.map K.enc)) := ⟨h1, h2⟩
  rcases h2 with ⟨rfl, hn⟩ | ⟨g, cap, cur, rfl, hb, hg, hc, hm, hs, ht⟩
  · have : l = [] := List.eq_nil_of_length_eq_zero hn
    subst this
    exact Sl.nil_ _ _ _
  · refine ⟨_, cap, rfl, hc, hm, fun h0 => ⟨⟨g, 0, none⟩, rfl, (Array.getElem?_eq_some_iff.1 hg).1, fun j x hj => ?_⟩⟩
    exact hsl.cells (g := g) rfl j (K.enc x) (by rw [List.getElem?_map, hj]; rfl)
theorem Ow.more (h : Ow K w base v l) (hb : base' ≤ base) : Ow K w base' v l := by
  obtain ⟨h1, h2⟩ := h
  refine ⟨h1, ?_⟩
  rcases h2 with h2 | ⟨g, cap, cur, rfl, hb', r⟩
  · exact .inl h2
  · exact .inr ⟨g, cap, cur, rfl, by omega, r⟩
theorem Ow.nil_ (K : Kd α) (w : World) (base : Nat) : Ow K w base (.slice none 0 0) [] := World.ownsRow_nil w base K.E 1
theorem Ow.below (h : Ow K w base v l) (hb : Below w.heap.size w w') : Ow K w' base v l := by
  obtain ⟨h1, h2⟩ := h
  refine ⟨h1, ?_⟩
  rcases h2 with h2 | ⟨g, cap, cur, rfl, hb', hg, r⟩
  · exact .inl h2
  · exact .inr ⟨g, cap, cur, rfl, hb', by rw [hb.block g (Array.getElem?_eq_some_iff.1 hg).1]; exact hg, r⟩
theorem Ow.drew (h : Ow K w base v l) : Ow K w.drew base v l := h
theorem Ow.alloc (h : Ow K w base v l) (o : Obj) : Ow K (w.alloc o) base v l := World.ownsRow.alloc h o
/-- a block that a literal made -/
theorem ow_lit (K : Kd α) (w : World) (l : List α) (hl : l.length ≤ maxLen) : Ow K (w.alloc (.cells (l.map K.enc).toArray K.E)) w.heap.size (.slice (some ⟨w.heap.size, 0, none⟩) l.length l.length) l := by
  have := World.ownsRow_lit (w := w) (e := K.E) (size := 1) (base := w.heap.size) (l.map K.enc).toArray l.length (Nat.le_refl _) hl (by simp)
  exact this
/-- append of elements that read as a list, onto a row of the call's own -/
theorem run_append_sl (K : Kd α) (w : World) (base : Nat) (T ty : TypeId) (hT : Try.prog.underlying T = some (.slice K.E)) (v : Value) (l m : List α) (hown : Ow K w base v l) (B : Nat) (y : Value) (hy : Sl K w B y m)
    (hlen : l.length + m.length ≤ 1000000000) (hby : K.bytes ≤ 4096) (hbase : base ≤ w.heap.size) :
    ∃ v' w', (Builtin.append_ #[T, T] ty #[v, y]).run Try.prog w = .ok v' w' ∧ Ow K w' base v' (l ++ m) ∧ w.grownBy w' v.ownBlock ∧ (v'.ownBlock = v.ownBlock ∨ v'.ownBlock = some w.heap.size) := by
  obtain ⟨i, hi, hz, hs, hb⟩ := info_parts K.info
  obtain ⟨A, c, rfl, hc, hm, hr⟩ := hy
  by_cases h0 : 0 < m.length
  · obtain ⟨ad, rfl, hbl, hx⟩ := hr h0
    obtain ⟨v', w', hrun, h2, h3, _, h5⟩ := run_append_own_at (P := Try.prog) w base T ty K.E i K.z 1 K.bytes hT hi hz hs hb K.zs (by decide) v l.length (l.map K.enc) hown ad m.length c (m.map K.enc) (by simp)
      (fun j u hu => by
        rw [List.getElem?_map] at hu
        cases hj : m[j]? with
        | none => rw [hj] at hu; cases hu
        | some x => rw [hj] at hu; cases hu; exact hx j x hj)
      (fun u hu => by
        obtain ⟨x, _, rfl⟩ := List.mem_map.1 hu
        exact K.one x) (by simp only [maxLen]; omega)
      (Nat.le_trans (Nat.mul_le_mul_left _ hby) (by omega)) hbase
    refine ⟨v', w', hrun, ?_, h3, h5⟩
    unfold Ow
    rw [List.length_append, List.map_append]
    exact h2
  · have hm0 : m = [] := List.eq_nil_of_length_eq_zero (by omega)
    subst hm0
    refine ⟨v, w, run_append_nothing w T ty K.E i 1 base hT hi v _ _ hown A c, by simpa using hown, World.grownBy.refl w _, .inl rfl⟩
theorem wpList_append_sl (K : Kd α) (w : World) {ops : Array Oper} {rest : List Oper} {o : Oper} {a : Act} {Q : Exit → Act → World → Prop} (hgd : o.guard = none) (s x : Operand) (T : TypeId)
    (ho : o.op = .call { callee := .builtin .append, args := #[s, x], argTypes := #[T, T] }) (hT : Try.prog.underlying T = some (.slice K.E))
    (base : Nat) (v : Value) (l : List α) (hs : a.eval s = v) (hown : Ow K w base v l)
    (B : Nat) (y : Value) (m : List α) (hx : a.eval x = y) (hy : Sl K w B y m)
    (hlen : l.length + m.length ≤ 1000000000) (hby : K.bytes ≤ 4096) (hbase : base ≤ w.heap.size)
    (h : ∀ v' w', Ow K w' base v' (l ++ m) → w.grownBy w' v.ownBlock → (v'.ownBlock = v.ownBlock ∨ v'.ownBlock = some w.heap.size) → wpList Try.prog ops Q rest (a.put o.dst v') w') :
    wpList Try.prog ops Q (o :: rest) a w := by
  refine wpList_plain hgd fun Kk hK => ?_
  obtain ⟨v', w', hrun, h2, h3, h4⟩ := run_append_sl K w base T o.type hT v l m hown B y hy hlen hby hbase
  unfold Oper.wp execOp
  simp only [ho, resolve, invoke, builtin, Sem.run_bind, Sem.run_pure, Result.andThen_ok, List.map_toArray, List.map_cons, List.map_nil, hs, hx, hrun]
  exact hK _ _ (h v' w' h2 h3 h4)
/-- append at a step of a region that draws its order -/
theorem step_append_sl (K : Kd α) (w : World) {ops : Array Oper} {o : Oper} {a : Act} {Kk : Act → World → Prop} {Q : Exit → Act → World → Prop} {E : Prop} (hgd : o.guard = none) (s x : Operand) (T : TypeId)
    (ho : o.op = .call { callee := .builtin .append, args := #[s, x], argTypes := #[T, T] }) (hT : Try.prog.underlying T = some (.slice K.E))
    (base : Nat) (v : Value) (l : List α) (hs : a.eval s = v) (hown : Ow K w base v l)
    (B : Nat) (y : Value) (m : List α) (hx : a.eval x = y) (hy : Sl K w B y m)
    (hlen : l.length + m.length ≤ 1000000000) (hby : K.bytes ≤ 4096) (hbase : base ≤ w.heap.size)
    (h : ∀ v' w', Ow K w' base v' (l ++ m) → w.grownBy w' v.ownBlock → (v'.ownBlock = v.ownBlock ∨ v'.ownBlock = some w.heap.size) → Kk (a.put o.dst v') w') :
    if Region.wanted o (yielded ops a.tmps) = true then Oper.wp Try.prog o a w Kk Q else E := by
  have hw : Region.wanted o (yielded ops a.tmps) = true := by simp [Region.wanted, hgd]
  rw [if_pos hw]
  obtain ⟨v', w', hrun, h2, h3, h4⟩ := run_append_sl K w base T o.type hT v l m hown B y hy hlen hby hbase
  unfold Oper.wp execOp
  simp only [ho, resolve, invoke, builtin, Sem.run_bind, Sem.run_pure, Result.andThen_ok, List.map_toArray, List.map_cons, List.map_nil, hs, hx, hrun]
  exact h v' w' h2 h3 h4
/-- a store into a row of the call's own -/
theorem Ow.set (h : Ow K w base (.slice (some ad') n' c') l) (i : Nat) (x : α) : Ow K (w.setCell (ad'.add i) (K.enc x)) base (.slice (some ad') n' c') (l.set i x) := by
  obtain ⟨_, h2⟩ := h
  refine ⟨by simp, ?_⟩
  rcases h2 with ⟨h2, _⟩ | ⟨g, cap, cur, he, hb, hg, hc, hm, hs, ht⟩
  · cases h2
  · cases he
    refine .inr ⟨g, _, cur.setIfInBounds i (K.enc x), by rw [List.length_set], hb, ?_, by rw [List.length_set]; exact hc, hm, by simpa using hs, ?_⟩
    · have := Lib.heap_setCell_same (i := i) hg (K.enc x)
      rw [addr_mk_add, Nat.zero_add]
      exact this
    · rw [List.length_set, List.map_set, ← ht]
      simp [List.take_set]
/-- a slice of one element, laid in a new block -/
theorem sl_one (K : Kd α) (w : World) (x : α) : Sl K (w.alloc (.cells #[K.enc x] K.E)) (w.heap.size + 1) (.slice (some ⟨w.heap.size, 0, none⟩) 1 1) [x] := by
  have := (ow_lit K w [x] (by simp [maxLen])).sl
  simpa using this
end
end Go.Proofs.Ytmcjefdnkcpghaa
/- A REGION THAT DRAWS ITS ORDER, WHOSE OPERATIONS ONLY READ OR MAKE NEW MEMORY: one obligation an operation, whatever the order. Over any program. -/
namespace Go.Proofs.Ytmcjefdnkcpghaa
open Go.RowKit
/-- the slot that operation i writes -/
def dstOf (ops : Array Oper) (i : Nat) : Option Tmp := (ops[i]?).bind (·.dst)
/-- does operation i look at what operation j writes? -/
def depB (ops : Array Oper) (i j : Nat) : Bool :=
  match ops[i]?, dstOf ops j with
  | some o, some d => (o.looksAt ops).contains d
  | _, _ => false
/-- no operation of the region writes slot t -/
def freeB (ops : Array Oper) (t : Nat) : Bool := (List.range ops.size).all fun j => dstOf ops j != some t
def growB (ops : Array Oper) : Bool :=
  (List.range ops.size).all fun i =>
    match ops[i]? with
    | none => true
    | some o => (o.after.all fun e => decide (e.on < i)) &&
        (List.range ops.size).all fun j => (!depB ops i j || (o.after.any fun e => Region.binds .any e && e.on == j)) &&
          (j == i || dstOf ops i == none || dstOf ops i != dstOf ops j)
def slotOf (ops : Array Oper) (a : Act) (j : Nat) : Value :=
  match dstOf ops j with
  | some d => a.tmps[d]?.getD undef
  | none => undef
structure GrowCtx (ops : Array Oper) (a0 : Act) (w0 : World) (a : Act) (w : World) : Prop where
  below : Below w0.heap.size w0 w
  defers : a.defers = a0.defers
  size : a.tmps.size = a0.tmps.size
  same : ∀ t, freeB ops t = true → a.tmps[t]?.getD undef = a0.tmps[t]?.getD undef
def Oblig (P : Program) (ops : Array Oper) (Q : Exit → Act → World → Prop) (a0 : Act) (w0 : World) (sp : Nat → Value → World → Prop) (i : Nat) : Prop :=
  ∀ (a : Act) (w : World), GrowCtx ops a0 w0 a w → (∀ j, depB ops i j = true → sp j (slotOf ops a j) w) →
    wpOp P ops Q i (fun a' w' => ∃ v, a' = a.put (dstOf ops i) v ∧ sp i v w' ∧ Below w.heap.size w w') a w
theorem growB_spec {ops : Array Oper} (h : growB ops = true) {i : Nat} {o : Oper} (hi : ops[i]? = some o) :
    (∀ e ∈ o.after, e.on < i) ∧ (∀ j, j < ops.size → depB ops i j = true → ∃ e ∈ o.after, Region.binds .any e = true ∧ e.on = j) ∧
    (∀ j, j < ops.size → j ≠ i → dstOf ops i = none ∨ dstOf ops i ≠ dstOf ops j) := by
  have hlt : i < ops.size := (Array.getElem?_eq_some_iff.1 hi).1
  have h1 := List.all_eq_true.1 h i (List.mem_range.2 hlt)
  simp only [hi, Bool.and_eq_true] at h1
  obtain ⟨h2, h3⟩ := h1
  have h4 := List.all_eq_true.1 h3
  refine ⟨fun e he => ?_, fun j hj hd => ?_, fun j hj hne => ?_⟩
  · have := (Array.all_eq_true_iff_forall_mem.1 h2) e he
    simpa using this
  · have := h4 j (List.mem_range.2 hj)
    simp only [Bool.and_eq_true, Bool.or_eq_true, Bool.not_eq_true'] at this
    rcases this.1 with h5 | h5
    · rw [hd] at h5; cases h5
    · obtain ⟨e, he, hb⟩ := Array.any_eq_true'.1 h5
      simp only [Bool.and_eq_true, beq_iff_eq] at hb
      exact ⟨e, he, hb.1, hb.2⟩
  · have := h4 j (List.mem_range.2 hj)
    simp only [Bool.and_eq_true, Bool.or_eq_true, beq_iff_eq, bne_iff_ne] at this
    rcases this.2 with (h5 | h5) | h5
    · exact absurd h5 hne
    · exact .inl h5
    · exact .inr h5
theorem put_slot (a : Act) (dst : Option Tmp) (v : Value) (t : Nat) (h : dst ≠ some t) : (a.put dst v).tmps[t]?.getD undef = a.tmps[t]?.getD undef := by
  cases dst with
  | none => rfl
  | some d =>
    have hne : d ≠ t := fun e => h (by rw [e])
    simp [Act.put, Array.getElem?_setIfInBounds_ne hne]
theorem put_size (a : Act) (dst : Option Tmp) (v : Value) : (a.put dst v).tmps.size = a.tmps.size := by cases dst <;> simp [Act.put]
theorem put_defs (a : Act) (dst : Option Tmp) (v : Value) : (a.put dst v).defers = a.defers := by cases dst <;> rfl
theorem put_self (a : Act) (d : Nat) (v : Value) (h : d < a.tmps.size) : (a.put (some d) v).tmps[d]?.getD undef = v := by
  simp [Act.put, h]
section
variable {P : Program} {ops : Array Oper} {Q : Exit → Act → World → Prop} {a0 : Act} {w0 : World} {sp : Nat → Value → World → Prop}
theorem wpAny_grow (hB : growB ops = true) (hfit : ∀ i d, dstOf ops i = some d → d < a0.tmps.size) (hst : ∀ i v w w', sp i v w → Below w.heap.size w w' → sp i v w')
    (hob : ∀ i, i < ops.size → Oblig P ops Q a0 w0 sp i)
    (hfin : ∀ a w, GrowCtx ops a0 w0 a w → (∀ j d, j < ops.size → dstOf ops j = some d → sp j (a.tmps[d]?.getD undef) w) → Q .normal a w) :
    ∀ (fuel : Nat) (listed : Array Bool) (a : Act) (w : World), listed.size = ops.size → (List.range ops.size).countP (fun i => listed.getD i true == false) ≤ fuel → GrowCtx ops a0 w0 a w →
      (∀ j d, listed.getD j false = true → dstOf ops j = some d → sp j (a.tmps[d]?.getD undef) w) → wpAny P .any ops Q fuel listed a w := by
  -- if nothing may come up, all have come up
  have hall : ∀ listed : Array Bool, listed.size = ops.size → Region.ready .any ops listed = [] → ∀ j, j < ops.size → listed.getD j false = true := by
    intro listed hsz hr
    have key : ∀ n j, j ≤ n → j < ops.size → listed.getD j false = true := by
      intro n
      induction n with
      | zero =>
        intro j hj hjs
        obtain rfl : j = 0 := by omega
        cases hl : listed.getD 0 false with
        | true => rfl
        | false =>
          exfalso
          have hm : 0 ∈ Region.ready .any ops listed := by
            refine mem_ready.2 ⟨getD_in (by omega) hl, ops[0], Array.getElem?_eq_getElem hjs, fun e he _ => ?_⟩
            have := (growB_spec hB (Array.getElem?_eq_getElem hjs)).1 e he
            omega
          rw [hr] at hm; cases hm
      | succ n ih =>
        intro j hj hjs
        by_cases hjn : j ≤ n
        · exact ih j hjn hjs
        · cases hl : listed.getD j false with
          | true => rfl
          | false =>
            exfalso
            have hm : j ∈ Region.ready .any ops listed := by
              refine mem_ready.2 ⟨getD_in (by omega) hl, ops[j], Array.getElem?_eq_getElem hjs, fun e he _ => ?_⟩
              have := (growB_spec hB (Array.getElem?_eq_getElem hjs)).1 e he
              exact ih e.on (by omega) (by omega)
            rw [hr] at hm; cases hm
    exact fun j hj => key j j (Nat.le_refl _) hj
  have hdone : ∀ (listed : Array Bool) (a : Act) (w : World), listed.size = ops.size → GrowCtx ops a0 w0 a w →
      (∀ j d, listed.getD j false = true → dstOf ops j = some d → sp j (a.tmps[d]?.getD undef) w) → Region.ready .any ops listed = [] → Q .normal a w :=
    fun listed a w hsz hc hs hr => hfin a w hc fun j d hj hd => hs j d (hall listed hsz hr j hj) hd
  intro fuel
  induction fuel with
  | zero =>
    intro listed a w hsz hcnt hc hs
    have hr : Region.ready .any ops listed = [] := by
      apply List.eq_nil_iff_forall_not_mem.2
      intro i hi
      obtain ⟨h1, o, ho, _⟩ := mem_ready.1 hi
      have hlt : i < ops.size := (Array.getElem?_eq_some_iff.1 ho).1
      have : 0 < (List.range ops.size).countP (fun i => listed.getD i true == false) :=
        List.countP_pos_iff.2 ⟨i, List.mem_range.2 hlt, by simpa using h1⟩
      omega
    exact ⟨hr, hdone listed a w hsz hc hs hr⟩
  | succ fuel ih =>
    intro listed a w hsz hcnt hc hs
    refine ⟨hdone listed a w hsz hc hs, fun i hi => ?_⟩
    obtain ⟨h1, o, ho, hrdy⟩ := mem_ready.1 hi
    have hlt : i < ops.size := (Array.getElem?_eq_some_iff.1 ho).1
    obtain ⟨hb1, hb2, hb3⟩ := growB_spec hB ho
    refine wpOp_mono (fun a' w' hK => ?_) (hob i hlt a w hc (fun j hj => ?_))
    · obtain ⟨v, rfl, hv, hgrow⟩ := hK
      have hsz' : (listed.setIfInBounds i true).size = ops.size := by simpa using hsz
      refine ih _ _ _ hsz' ?_ ⟨hc.below.trans (hgrow.mono hc.below.size), (put_defs _ _ _).trans hc.defers, (put_size _ _ _).trans hc.size, fun t ht => ?_⟩ ?_
      · -- one less
        have hlt2 : (List.range ops.size).countP (fun k => (listed.setIfInBounds i true).getD k true == false) < (List.range ops.size).countP (fun k => listed.getD k true == false) := by
          have hsub : ∀ k, ((listed.setIfInBounds i true).getD k true == false) = true → (listed.getD k true == false) = true := by
            intro k hk
            by_cases hik : i = k
            · subst hik
              simp [show i < listed.size by omega] at hk
            · rw [getD_set_ne true hik] at hk; exact hk
          have hnot : ((listed.setIfInBounds i true).getD i true == false) = false := by simp [show i < listed.size by omega]
          have hmem : i ∈ List.range ops.size := List.mem_range.2 hlt
          have h1' : (listed.getD i true == false) = true := by simpa using h1
          clear hcnt ih hdone hall hob hfin hs hc
          generalize List.range ops.size = L at hmem
          induction L with
          | nil => cases hmem
          | cons x L ihL =>
            rw [List.countP_cons, List.countP_cons]
            have hmono : L.countP (fun k => (listed.setIfInBounds i true).getD k true == false) ≤ L.countP (fun k => listed.getD k true == false) :=
              List.countP_mono_left (fun k _ hk => hsub k hk)
            rcases List.mem_cons.1 hmem with e | hm
            · subst e
              rw [if_neg (by rw [hnot]; decide), if_pos h1']
              omega
            · have h2 := ihL hm
              by_cases hx : ((listed.setIfInBounds i true).getD x true == false) = true
              · rw [if_pos hx, if_pos (hsub x hx)]; omega
              · rw [if_neg hx]; omega
        omega
      · rw [put_slot _ _ _ _ (fun e => ?_)]
        · exact hc.same t ht
        · have h2 := List.all_eq_true.1 ht i (List.mem_range.2 hlt)
          simp only [bne_iff_ne] at h2
          exact h2 e
      · intro j d hl hd
        by_cases hji : j = i
        · subst hji
          rw [hd, put_self _ _ _ (by rw [hc.size]; exact hfit _ _ hd)]
          exact hv
        · have hl' : listed.getD j false = true := by rwa [getD_set_ne false (fun e => hji e.symm)] at hl
          have hjs : j < ops.size := by
            rcases Nat.lt_or_ge j ops.size with h | h
            · exact h
            · rw [Array.getD_eq_getD_getElem?, Array.getElem?_eq_none (by omega)] at hl'; simp at hl'
          rw [put_slot _ _ _ _ (fun e => ?_)]
          · exact hst _ _ _ _ (hs j d hl' hd) hgrow
          · rcases hb3 j hjs hji with h | h
            · rw [h] at e; cases e
            · exact h (e.trans hd.symm)
    · -- what it looks at has come up
      have hjd : ∃ d, dstOf ops j = some d := by
        unfold depB at hj
        rw [ho] at hj
        cases hd : dstOf ops j with
        | none => rw [hd] at hj; cases hj
        | some d => exact ⟨d, rfl⟩
      obtain ⟨d, hd⟩ := hjd
      have hjs : j < ops.size := by
        unfold dstOf at hd
        cases hoj : ops[j]? with
        | none => rw [hoj] at hd; cases hd
        | some oj => exact (Array.getElem?_eq_some_iff.1 hoj).1
      obtain ⟨e, he, hbd, hon⟩ := hb2 j hjs hj
      have hl := hrdy e he hbd
      rw [hon] at hl
      have := hs j d hl hd
      unfold slotOf
      rw [hd]
      exact this
theorem wp_region_grow {id : Nat} {w : World} (hm : P.follows .mixedOrders = true) (sp : Nat → Value → World → Prop) (hB : growB ops = true) (hfit : ∀ i d, dstOf ops i = some d → d < a0.tmps.size)
    (hst : ∀ i v w w', sp i v w → Below w.heap.size w w' → sp i v w')
    (hob : ∀ i, i < ops.size → Oblig P ops Q a0 w.drew sp i)
    (hfin : ∀ a w', GrowCtx ops a0 w.drew a w' → (∀ j d, j < ops.size → dstOf ops j = some d → sp j (a.tmps[d]?.getD undef) w') → Q .normal a w') :
    (Code.region id ops true).wp P Q a0 w := by
  refine wp_region_any hm (wpAny_grow (w0 := w.drew) hB hfit hst hob hfin _ _ _ _ (by simp) ?_ ⟨Below.refl _ _, rfl, rfl, fun _ _ => rfl⟩ (fun j d hl _ => ?_))
  · exact Nat.le_trans (List.countP_le_length) (by simp)
  · rw [getD_replicate_false] at hl; cases hl
theorem wanted_none {o : Oper} {tmps : Array Value} (h : o.guard = none) : Region.wanted o (yielded ops tmps) = true := by simp [Region.wanted, h]
theorem wanted_some {o : Oper} {a : Act} {g : Nat} {b : Bool} {d : Nat} (h : o.guard = some (g, b)) (hd : dstOf ops g = some d) (hv : a.tmps[d]?.getD undef = .bool b) : Region.wanted o (yielded ops a.tmps) = true := by
  unfold Region.wanted
  rw [h]
  have : yielded ops a.tmps g = some b := by
    unfold yielded
    unfold dstOf at hd
    rw [hd]
    cases hx : a.tmps[d]? with
    | none => rw [hx] at hv; cases hv
    | some x =>
      rw [hx] at hv
      simp only [Option.getD_some] at hv
      subst hv
      simp [hx]
  simp [this]
/-- an operation that is carried out and yields a value in the world as it is -/
theorem obl_val {i : Nat} {o : Oper} {a : Act} {w : World} {v : Value} (ho : ops[i]? = some o) (hw : Region.wanted o (yielded ops a.tmps) = true) (hr : (execOp a.eval o).run P w = .ok (.value v) w) (hv : sp i v w) :
    wpOp P ops Q i (fun a' w' => ∃ v, a' = a.put (dstOf ops i) v ∧ sp i v w' ∧ Below w.heap.size w w') a w := by
  unfold wpOp
  simp only [ho, hw, if_true]
  refine .inl ?_
  unfold Oper.wp
  rw [hr]
  exact ⟨v, by unfold dstOf; rw [ho]; rfl, hv, Below.refl _ _⟩
/-- a call of a Go function that is met by a contract -/
theorem obl_call {i : Nat} {o : Oper} {a : Act} {w : World} {f : FuncId} {args : Array Value} {R : Ending → World → Prop} (ho : ops[i]? = some o) (hw : Region.wanted o (yielded ops a.tmps) = true)
    (hr : (execOp a.eval o).run P w = .ok (.enter f args) w) (hc : Calls P f args w R) (hR : ∀ e w', R e w' → ∃ v, e = .returned v ∧ sp i v w' ∧ Below w.heap.size w w') :
    wpOp P ops Q i (fun a' w' => ∃ v, a' = a.put (dstOf ops i) v ∧ sp i v w' ∧ Below w.heap.size w w') a w := by
  unfold wpOp
  simp only [ho, hw, if_true]
  refine .inl ?_
  unfold Oper.wp
  rw [hr, Oper.upon_enter]
  refine hc.mono fun e w' he => ?_
  obtain ⟨v, rfl, hv, hb⟩ := hR e w' he
  exact ⟨v, by unfold dstOf; rw [ho]; rfl, hv, hb⟩
/-- an operation that is passed over -/
theorem obl_skip {i : Nat} {o : Oper} {a : Act} {w : World} (ho : ops[i]? = some o) (hw : Region.wanted o (yielded ops a.tmps) = false) (hv : sp i undef w) :
    wpOp P ops Q i (fun a' w' => ∃ v, a' = a.put (dstOf ops i) v ∧ sp i v w' ∧ Below w.heap.size w w') a w := by
  unfold wpOp
  simp only [ho, hw]
  exact ⟨undef, by unfold dstOf; rw [ho]; rfl, hv, Below.refl _ _⟩
end
/-- what is said of a value, and stays true while the world grows -/
structure Sp where
  f : Value → World → Prop
  st : ∀ v w w', f v w → Below w.heap.size w w' → f v w'
/-- what is said of the operations, one behind the other -/
def spOf (l : List Sp) (i : Nat) (v : Value) (w : World) : Prop :=
  match l[i]? with
  | some s => s.f v w
  | none => True
theorem spOf_st (l : List Sp) : ∀ i v w w', spOf l i v w → Below w.heap.size w w' → spOf l i v w' := by
  intro i v w w' hs hb
  unfold spOf at *
  cases hi : l[i]? with
  | none => trivial
  | some f =>
    rw [hi] at hs
    exact f.st v w w' hs hb
/-- 'the value is this one' -/
def isS (c : Value) : Sp := ⟨fun v _ => v = c, fun _ _ _ h _ => h⟩
/-- nothing is said -/
def anyS : Sp := ⟨fun _ _ => True, fun _ _ _ h _ => h⟩
def slotFitB (ops : Array Oper) (n : Nat) : Bool := (List.range ops.size).all fun i => match dstOf ops i with | some d => decide (d < n) | none => true
theorem fit_of {ops : Array Oper} {a0 : Act} (h : slotFitB ops a0.tmps.size = true) : ∀ i d, dstOf ops i = some d → d < a0.tmps.size := by
  intro i d hd
  have hlt : i < ops.size := by
    unfold dstOf at hd
    cases ho : ops[i]? with
    | none => rw [ho] at hd; cases hd
    | some o => exact (Array.getElem?_eq_some_iff.1 ho).1
  have := List.all_eq_true.1 h i (List.mem_range.2 hlt)
  rw [hd] at this
  simpa using this
theorem wp_region_sp {P : Program} {ops : Array Oper} {Q : Exit → Act → World → Prop} {a0 : Act} {id : Nat} {w : World} (hm : P.follows .mixedOrders = true) (l : List Sp) (hB : growB ops = true) (hfit : slotFitB ops a0.tmps.size = true)
    (hob : ∀ i, i < ops.size → Oblig P ops Q a0 w.drew (spOf l) i)
    (hfin : ∀ a w', GrowCtx ops a0 w.drew a w' → (∀ j d, j < ops.size → dstOf ops j = some d → spOf l j (a.tmps[d]?.getD undef) w') → Q .normal a w') :
    (Code.region id ops true).wp P Q a0 w := wp_region_grow hm (spOf l) hB (fit_of hfit) (spOf_st l) hob hfin
end Go.Proofs.Ytmcjefdnkcpghaa
/- 'the value reads as these bytes', as a thing that is said of an operation's value. -/
namespace Go.Proofs.Ytmcjefdnkcpghaa
open Go.RowKit
def bytS (l : List UInt8) : Sp := ⟨fun v w => Byt w w.heap.size v l, fun _ _ _ h hb => (h.below hb).heap⟩
end Go.Proofs.Ytmcjefdnkcpghaa
/- BEHIND A DRAWN REGION WHOSE OPERATIONS ALL HAVE KNOWN VALUES: the frame, written out. -/
namespace Go.Proofs.Ytmcjefdnkcpghaa
open Go.RowKit
/-- is every slot free, or among these? -/
def covB (ops : Array Oper) (n : Nat) (vals : List (Nat × Value)) : Bool := (List.range n).all fun t => freeB ops t || (vals.lookup t).isSome
theorem grow_frame {ops : Array Oper} {a0 a : Act} {w0 w : World} (hc : GrowCtx ops a0 w0 a w) (vals : List (Nat × Value)) (hcov : covB ops a0.tmps.size vals = true)
    (hv : ∀ p ∈ vals, a.tmps[p.1]?.getD undef = p.2) :
    a = ⟨((List.range a0.tmps.size).map fun t => (vals.lookup t).getD (a0.tmps[t]?.getD undef)).toArray, a0.defers⟩ := by
  obtain ⟨tmps, defers⟩ := a
  have h1 := hc.defers
  have h2 := hc.size
  simp only at h1 h2
  subst h1
  congr 1
  apply Array.ext
  · simp [h2]
  · intro i hi1 hi2
    simp only [List.getElem_toArray, List.getElem_map, List.getElem_range]
    have hi : i < a0.tmps.size := by rw [← h2]; exact hi1
    have hs := hc.same i
    simp only [Array.getElem?_eq_getElem hi1, Option.getD_some] at hs
    cases hl : vals.lookup i with
    | none =>
      have := List.all_eq_true.1 hcov i (List.mem_range.2 hi)
      rw [hl] at this
      simp only [Option.isSome_none, Bool.or_false] at this
      exact hs this
    | some v =>
      have hm : ∀ (l : List (Nat × Value)), l.lookup i = some v → (i, v) ∈ l := by
        intro l
        induction l with
        | nil => intro h; cases h
        | cons p t ih =>
          intro h
          rw [List.lookup_cons] at h
          split at h
          · rename_i he
            rw [beq_iff_eq] at he
            cases h
            subst he
            simp
          · exact List.mem_cons_of_mem _ (ih h)
      have := hv _ (hm vals hl)
      simp only [Array.getElem?_eq_getElem hi1, Option.getD_some] at this
      exact this
end Go.Proofs.Ytmcjefdnkcpghaa
/- A DRAWN REGION: a head whose operations only read or make new memory, in whatever order; a tail that waits for it, one behind the other (a store at the end, an append and a store ..). -/
namespace Go.Proofs.Ytmcjefdnkcpghaa
open Go.RowKit
section
variable {P : Program} {ops : Array Oper} {Q : Exit → Act → World → Prop} {a0 : Act} {w0 : World} {sp : Nat → Value → World → Prop} {n : Nat}
/-- all of the head have come up, none of the tail -/
def canon (ops : Array Oper) (n : Nat) : Array Bool := Array.ofFn fun i : Fin ops.size => decide (i.val < n)
theorem canon_of {listed : Array Bool} (hsz : listed.size = ops.size) (h1 : ∀ i, i < n → i < ops.size → listed.getD i false = true) (h2 : ∀ i, n ≤ i → i < ops.size → listed.getD i true = false) : listed = canon ops n := by
  apply Array.ext
  · simp [canon, hsz]
  · intro i h3 h4
    have hi : i < ops.size := by omega
    simp only [canon, Array.getElem_ofFn]
    by_cases h : i < n
    · have := h1 i h hi
      rw [Array.getD_eq_getD_getElem?, Array.getElem?_eq_getElem h3] at this
      simpa [h] using this
    · have := h2 i (by omega) hi
      rw [Array.getD_eq_getD_getElem?, Array.getElem?_eq_getElem h3] at this
      simpa [h] using this
theorem wpAny_grow_tail (hB : growB ops = true) (hfit : ∀ i d, dstOf ops i = some d → d < a0.tmps.size) (hst : ∀ i v w w', sp i v w → Below w.heap.size w w' → sp i v w')
    (hs : Region.sinkB .any ops n = true) (hc : Region.chainB .any ops n = true) (hn : n < ops.size) (hseq : Region.seqB .any ops (ops.toList.drop n).length n (canon ops n) = true)
    (hob : ∀ i, i < n → Oblig P ops Q a0 w0 sp i)
    (hfin : ∀ a w, GrowCtx ops a0 w0 a w → (∀ j d, j < n → dstOf ops j = some d → sp j (a.tmps[d]?.getD undef) w) → wpList P ops Q (ops.toList.drop n) a w) :
    ∀ (c : Nat) (listed : Array Bool) (a : Act) (w : World), HeadInv .any ops n listed → (List.range n).countP (fun i => listed.getD i true == false) = c → GrowCtx ops a0 w0 a w →
      (∀ j d, listed.getD j false = true → dstOf ops j = some d → sp j (a.tmps[d]?.getD undef) w) → wpAny P .any ops Q (c + (ops.toList.drop n).length) listed a w := by
  intro c
  induction c with
  | zero =>
    intro listed a w inv hcnt hg hsp
    have hall : ∀ i, i < n → listed.getD i false = true := by
      intro i hi
      have h0 := List.countP_eq_zero.1 hcnt i (List.mem_range.2 hi)
      have hi' : i < listed.size := by rw [inv.size]; omega
      simp only [beq_iff_eq, Bool.not_eq_false] at h0
      rw [Array.getD_eq_getD_getElem?, Array.getElem?_eq_getElem hi'] at h0 ⊢
      simpa using h0
    have he := canon_of (n := n) inv.size (fun i hi _ => hall i hi) (fun i hi hi' => inv.tail i hi hi')
    rw [Nat.zero_add]
    refine wpAny_of_seq (ops.toList.drop n) n listed a w (fun j => ?_) (by rw [he]; exact hseq) (hfin a w hg fun j d hj hd => hsp j d (hall j hj) hd)
    rw [List.getElem?_drop, Array.getElem?_toList]
  | succ c ih =>
    intro listed a w inv hcnt hg hsp
    have hex : ∃ i, i < n ∧ listed.getD i true = false := by
      obtain ⟨i, hi, h⟩ := List.countP_pos_iff.1 (by omega : 0 < (List.range n).countP (fun i => listed.getD i true == false))
      exact ⟨i, List.mem_range.1 hi, by simpa using h⟩
    rw [show c + 1 + (ops.toList.drop n).length = (c + (ops.toList.drop n).length) + 1 by omega]
    refine ⟨fun hr => ?_, fun i hi => ?_⟩
    · -- the least that has not come up may come up
      exfalso
      have key : ∀ d i, i ≤ d → i < n → listed.getD i true = false → ∃ k, k ∈ Region.ready .any ops listed := by
        intro d
        induction d using Nat.strongRecOn with
        | _ d ihd =>
          intro i hid hin hun
          have his : i < ops.size := by omega
          by_cases hall : ∀ e ∈ ops[i].after, Region.binds .any e = true → listed.getD e.on false = true
          · exact ⟨i, mem_ready.2 ⟨hun, ops[i], Array.getElem?_eq_getElem his, hall⟩⟩
          · obtain ⟨e, hall⟩ := Classical.not_forall.1 hall
            obtain ⟨he, hall⟩ := Classical.not_imp.1 hall
            obtain ⟨hb, hne⟩ := Classical.not_imp.1 hall
            have hlt := (growB_spec hB (Array.getElem?_eq_getElem his)).1 e he
            have hun2 : listed.getD e.on true = false := getD_in (by rw [inv.size]; omega) (by simpa using hne)
            exact ihd e.on (by omega) e.on (Nat.le_refl _) (by omega) hun2
      obtain ⟨i, hi, hun⟩ := hex
      obtain ⟨k, hk⟩ := key i i (Nat.le_refl _) hi hun
      rw [hr] at hk; cases hk
    · obtain ⟨h1, o, ho, hrdy⟩ := mem_ready.1 hi
      have hlt : i < ops.size := (Array.getElem?_eq_some_iff.1 ho).1
      have hin : i < n := by
        rcases Nat.lt_or_ge i n with h | h
        · exact h
        · obtain ⟨k, hk, hun⟩ := hex
          exact absurd hi (tail_waits hs hc hn inv _ k rfl hk hun i h)
      obtain ⟨hb1, hb2, hb3⟩ := growB_spec hB ho
      refine wpOp_mono (fun a' w' hK => ?_) (hob i hin a w hg (fun j hj => ?_))
      · obtain ⟨v, rfl, hv, hgrow⟩ := hK
        refine ih _ _ _ (inv.set hi hin) ?_ ⟨hg.below.trans (hgrow.mono hg.below.size), (put_defs _ _ _).trans hg.defers, (put_size _ _ _).trans hg.size, fun t ht => ?_⟩ ?_
        · -- one less
          have hi' : i < listed.size := by rw [inv.size]; exact hlt
          have hsame : ∀ k, k ≠ i → ((listed.setIfInBounds i true).getD k true == false) = (listed.getD k true == false) := fun k hk => by rw [getD_set_ne true (fun e => hk e.symm)]
          have hnot : ((listed.setIfInBounds i true).getD i true == false) = false := by simp [hi']
          have h1' : (listed.getD i true == false) = true := by simpa using h1
          have hmem : i ∈ List.range n := List.mem_range.2 hin
          have hnd : (List.range n).Nodup := List.nodup_range
          clear ih hob hfin hsp hg hrdy
          have : ∀ L : List Nat, i ∈ L → L.Nodup → L.countP (fun k => (listed.setIfInBounds i true).getD k true == false) + 1 = L.countP (fun k => listed.getD k true == false) := by
            intro L
            induction L with
            | nil => intro h; cases h
            | cons x L ihL =>
              intro hm hd
              rw [List.countP_cons, List.countP_cons]
              rw [List.nodup_cons] at hd
              by_cases hx : x = i
              · subst hx
                have : L.countP (fun k => (listed.setIfInBounds x true).getD k true == false) = L.countP (fun k => listed.getD k true == false) := by
                  apply List.countP_congr
                  intro k hk
                  rw [hsame k (fun e => hd.1 (e ▸ hk))]
                rw [this, if_neg (by rw [hnot]; decide), if_pos h1']
              · have h2 := ihL ((List.mem_cons.1 hm).resolve_left (fun e => hx e.symm)) hd.2
                rw [hsame x hx]
                omega
          have := this _ hmem hnd
          omega
        · rw [put_slot _ _ _ _ (fun e => ?_)]
          · exact hg.same t ht
          · have h2 := List.all_eq_true.1 ht i (List.mem_range.2 hlt)
            simp only [bne_iff_ne] at h2
            exact h2 e
        · intro j d hl hd
          by_cases hji : j = i
          · subst hji
            rw [hd, put_self _ _ _ (by rw [hg.size]; exact hfit _ _ hd)]
            exact hv
          · have hl' : listed.getD j false = true := by rwa [getD_set_ne false (fun e => hji e.symm)] at hl
            have hjs : j < ops.size := by
              rcases Nat.lt_or_ge j ops.size with h | h
              · exact h
              · rw [Array.getD_eq_getD_getElem?, Array.getElem?_eq_none (by rw [inv.size]; omega)] at hl'; simp at hl'
            rw [put_slot _ _ _ _ (fun e => ?_)]
            · exact hst _ _ _ _ (hsp j d hl' hd) hgrow
            · rcases hb3 j hjs hji with h | h
              · rw [h] at e; cases e
              · exact h (e.trans hd.symm)
      · have hjd : ∃ d, dstOf ops j = some d := by
          unfold depB at hj
          rw [ho] at hj
          cases hd : dstOf ops j with
          | none => rw [hd] at hj; cases hj
          | some d => exact ⟨d, rfl⟩
        obtain ⟨d, hd⟩ := hjd
        have hjs : j < ops.size := by
          unfold dstOf at hd
          cases hoj : ops[j]? with
          | none => rw [hoj] at hd; cases hd
          | some oj => exact (Array.getElem?_eq_some_iff.1 hoj).1
        obtain ⟨e, he, hbd, hon⟩ := hb2 j hjs hj
        have hl := hrdy e he hbd
        rw [hon] at hl
        have := hsp j d hl hd
        unfold slotOf
        rw [hd]
        exact this
end
theorem wp_region_tail {P : Program} {ops : Array Oper} {Q : Exit → Act → World → Prop} {a0 : Act} {id : Nat} {w : World} (n : Nat) (hm : P.follows .mixedOrders = true) (l : List Sp) (hB : growB ops = true) (hfit : slotFitB ops a0.tmps.size = true)
    (hs : Region.sinkB .any ops n = true) (hc : Region.chainB .any ops n = true) (hn : n < ops.size) (hseq : Region.seqB .any ops (ops.toList.drop n).length n (canon ops n) = true)
    (hob : ∀ i, i < n → Oblig P ops Q a0 w.drew (spOf l) i)
    (hfin : ∀ a w', GrowCtx ops a0 w.drew a w' → (∀ j d, j < n → dstOf ops j = some d → spOf l j (a.tmps[d]?.getD undef) w') → wpList P ops Q (ops.toList.drop n) a w') :
    (Code.region id ops true).wp P Q a0 w := by
  refine wp_region_any hm ?_
  have hrep : ∀ i, i < ops.size → (Array.replicate ops.size false).getD i true = false := fun i hi => getD_in (by simpa using hi) (getD_replicate_false _ _)
  have inv0 : HeadInv .any ops n (Array.replicate ops.size false) :=
    ⟨by simp, fun j oj _ hl => (by rw [getD_replicate_false] at hl; cases hl), fun t _ ht => hrep t ht⟩
  have hcnt : (List.range n).countP (fun i => (Array.replicate ops.size false).getD i true == false) = n := by
    have : (List.range n).countP (fun i => (Array.replicate ops.size false).getD i true == false) = (List.range n).length := by
      apply List.countP_eq_length.2
      intro i hi
      rw [hrep i (by have := List.mem_range.1 hi; omega)]; rfl
    rw [this, List.length_range]
  have H := wpAny_grow_tail (P := P) (Q := Q) (a0 := a0) (w0 := w.drew) (sp := spOf l) hB (fit_of hfit) (spOf_st l) hs hc hn hseq hob hfin n _ a0 w.drew inv0 hcnt ⟨Below.refl _ _, rfl, rfl, fun _ _ => rfl⟩ (fun j d hl _ => by rw [getD_replicate_false] at hl; cases hl)
  rw [show n + (ops.toList.drop n).length = ops.size by rw [List.length_drop, Array.length_toList]; omega] at H
  exact H
end Go.Proofs.Ytmcjefdnkcpghaa
/- A RANGE OVER A FUNCTION, where the iterator hands out what it has made (and may write a cell of its own): own forms of the contract and of the law. -/
namespace Go.Proofs.Ytmcjefdnkcpghaa
open Go.RowKit
/-- an iterator: it writes no block of S; it leans on the blocks of T; 'Arg pre x W' is what it says of x, where x is handed out -/
def SeqK {α : Type} (F : Fence) (n : Nat) (P : Program) (gf : Nat) (lb : Array Value) (encs : α → Array Value) (S T : Nat → Prop) (Arg : List α → α → World → Prop) (Done Part : List α → Prop) (w0 : World) : Prop :=
  ∀ (l : Nat) (J Jx : List α → World → Prop) (W : World), Below w0.heap.size w0 W → (∀ s A B, J s A → Kept S A B → J s B) → (∀ s A B, Jx s A → Kept S A B → Jx s B) →
    (∀ pre x A, J pre A → Arg pre x A → YieldAt F (n - 1) P l (encs x) A fun e B => (e = .returned (.bool true) ∧ J (pre ++ [x]) B ∧ Kept T A B) ∨ (e = .returned (.bool false) ∧ Jx (pre ++ [x]) B)) →
    J [] W → CallsIn F n P gf (#[.func (.yield l) #[] #[]] ++ lb) W fun e W' => (∃ v, e = .returned v) ∧ ((∃ xs, Done xs ∧ J xs W') ∨ (∃ pre, Part pre ∧ Jx pre W'))
theorem kept_putObj {T : Nat → Prop} {W : World} {l B : Nat} (hT : ∀ b, T b → b < B) (hl : B ≤ l) (o : Obj) : Kept T W (W.putObj l o) :=
  ⟨rfl, rfl, rfl, by simp, fun b _ hb => World.putObj_heap_other (fun e => by have := hT b hb; omega)⟩
theorem wpIn_range {F : Fence} {n : Nat} {P : Program} {α : Type} {g : Operand} {ps : Array Tmp} {assign body : Code} {Q : Exit → Act → World → Prop} {a : Act} {w : World}
    (hro : F.round = none) (h1 : 1 ≤ n) {gf : Nat} {lb : Array Value} (hg : a.eval g = .func (.func gf) #[] lb) (hFg : F.fn gf) (eg : ∀ args w, (callFunc gf args).run P w = .ok (.enter gf args) w)
    {encs : α → Array Value} {S T : Nat → Prop} {Arg : List α → α → World → Prop} {Done Part : List α → Prop} {w0 : World} (hseq : SeqK F (n - 1) P gf lb encs S T Arg Done Part w0)
    (hS : ∀ b, w.heap.size ≤ b → S b) (hT : ∀ b, T b → b < w.heap.size) (hb0 : Below w0.heap.size w0 w) (hps : ∀ x, (encs x).size = ps.size)
    (I : List α → World → Prop) (Ix : Code → List α → World → Prop) (hI : OwnFrom w.heap.size I) (hIx : ∀ c, OwnFrom w.heap.size (Ix c)) (hIk : ∀ s A B, I s A → Kept S A B → I s B) (hIxk : ∀ c s A B, Ix c s A → Kept S A B → Ix c s B)
    (hArg : ∀ pre x, OwnFrom w.heap.size (fun (_ : Unit) W => Arg pre x W)) (h0 : I [] w) (a₁ : α → Act)
    (hassign : ∀ (l : Nat) (x : α) (W : World) (K : Act → World → Prop), K (a₁ x) W →
      assign.wpIn (F.inRound l) (n - 1 - 1) P (Exit.then K (fun _ _ _ => False)) { tmps := (ps.zip (encs x)).foldl (fun t (p, v) => t.setIfInBounds p v) a.tmps, defers := [] } W)
    (hbody : ∀ (l : Nat) (pre : List α) (x : α) (W : World), w.heap.size ≤ l → (∃ r, W.heap[l]? = some (.loop r)) → I pre W → Arg pre x W → body.wpIn (F.inRound l) (n - 1 - 1) P (ownPostG w.heap.size (Kept T) I Ix (pre ++ [x]) W) (a₁ x) W)
    (hdone : ∀ (D : Nat) (xs : List α) (W : World), w.heap.size ≤ D → Done xs → I xs W → W.heap[D]? = some (.deferred (some [])) → Q .normal { a with defers := { target := .collected D, args := #[] } :: a.defers } W)
    (hstop : ∀ (D : Nat) (c : Code) (pre : List α) (W : World), w.heap.size ≤ D → Part pre → Ix c pre W → W.heap[D]? = some (.deferred (some [])) → c.wpIn F n P Q { a with defers := { target := .collected D, args := #[] } :: a.defers } W) :
    (Code.rangeFunc g ps assign body).wpIn F n P Q a w := by
  refine wpIn_rangeFunc fun fn hfn => ?_
  rw [hro]
  obtain ⟨rec, hrec⟩ : ∃ rec : LoopState → Option Code → Loop, rec = fun st pe => { state := st, pending := pe, fn, tmps := a.tmps, params := ps, assign, body, defers := w.heap.size } := ⟨_, rfl⟩
  obtain ⟨W1, hW1⟩ : ∃ W1, (w.alloc (.deferred (some []))).alloc (.loop (rec .ready none)) = W1 := ⟨_, rfl⟩
  obtain ⟨L, hL⟩ : ∃ L, L = w.heap.size + 1 := ⟨_, rfl⟩
  have hL1 : W1.heap[L]? = some (.loop (rec .ready none)) := by
    rw [← hW1, hL]; have := World.alloc_heap_new (w.alloc (.deferred (some []))) (.loop (rec .ready none)); rwa [World.size_alloc] at this
  have hK1 : W1.heap[w.heap.size]? = some (.deferred (some [])) := by
    rw [← hW1]; exact (Below.heap_alloc _ _ _ (by simp)).trans (World.alloc_heap_new w _)
  have hI1 : I [] W1 := by rw [← hW1]; exact hI.alloc _ (hI.alloc _ h0)
  have hb1 : Below w0.heap.size w0 W1 := by
    rw [← hW1]; exact hb0.trans ((((Below.refl _ w).alloc (Nat.le_refl _) _).alloc (by simp) _).mono hb0.size)
  refine ⟨L, [{ target := .collected w.heap.size, args := #[] }], W1, { target := .fn (.func gf) lb, args := #[.func (.yield L) #[] #[]] }, W1, gf, #[.func (.yield L) #[] #[]] ++ lb, W1, ?_, ?_, ?_, ?_, fun _ => h1, ?_⟩
  · rw [← hW1, hrec, hL]; exact run_enterLoop_outer _ _ _ _ _
  · simp only [resolve, hg]
    simp [go_sem]
  · intro f' hf'; simp [Target.leads] at hf'; subst hf'; exact hFg
  · simp [invoke, go_sem, eg]
  · -- what stands between two rounds, the book-keeping beside it
    refine (hseq L (fun pre W => I pre W ∧ W.heap[L]? = some (.loop (rec .ready none)) ∧ W.heap[w.heap.size]? = some (.deferred (some [])))
      (fun pre W => ∃ c, Ix c pre W ∧ W.heap[L]? = some (.loop (rec .done (some c))) ∧ W.heap[w.heap.size]? = some (.deferred (some []))) W1 hb1
      (fun s A B hs hk => ⟨hIk s A B hs.1 hk, hk.heap hs.2.1 (hS _ (by omega)), hk.heap hs.2.2 (hS _ (Nat.le_refl _))⟩)
      (fun s A B hs hk => by obtain ⟨c, h, h2, h3⟩ := hs; exact ⟨c, hIxk c s A B h hk, hk.heap h2 (hS _ (by omega)), hk.heap h3 (hS _ (Nat.le_refl _))⟩) ?_ ⟨hI1, hL1, hK1⟩).mono ?_
    · rintro pre x W ⟨hi, hl, hk⟩ hag
      have hlt : L < W.heap.size := lt_of_block hl
      have hy := run_yield (P := P) (args := encs x) hl (by rw [hrec]; exact hps x)
      rw [hrec] at hy
      refine ⟨fn, _, assign, body, hy, roundIn_of_wpIn hfn (hassign _ x W _ ?_)⟩
      clear hy
      refine ⟨_, run_beginRound hl (by rw [hrec]), ?_⟩
      have hl2 : (W.putObj L (.loop { rec .ready none with state := .busy })).heap[L]? = some (.loop { rec .ready none with state := .busy }) := World.putObj_heap_same hlt
      have hk2 : (W.putObj L (.loop { rec .ready none with state := .busy })).heap[w.heap.size]? = some (.deferred (some [])) := (World.putObj_heap_other (by omega)).trans hk
      have hw2 : Kept T W (W.putObj L (.loop { rec .ready none with state := .busy })) := kept_putObj hT (by omega) _
      refine wpIn_mono (hbody L pre x _ (by omega) ⟨_, hl2⟩ (hI.putObj _ hi (by omega) hl rfl) ((hArg pre x).putObj (s := ()) _ hag (by omega) hl rfl)) ?_
      have fin : ∀ (jump : Option Code) (W3 : World), KeepsFrom w.heap.size (W.putObj L (.loop { rec .ready none with state := .busy })) W3 →
          (Instr.endRound L jump).run P W3 = .ok (.bool jump.isNone) (W3.putObj L (.loop (rec (if jump.isNone then .ready else .done) jump))) ∧
          W3.heap[L]? = some (.loop { rec .ready none with state := .busy }) ∧
          (W3.putObj L (.loop (rec (if jump.isNone then .ready else .done) jump))).heap[L]? = some (.loop (rec (if jump.isNone then .ready else .done) jump)) ∧
          (W3.putObj L (.loop (rec (if jump.isNone then .ready else .done) jump))).heap[w.heap.size]? = some (.deferred (some [])) := fun jump W3 hk3 => by
        have hl3 := hk3.same _ _ (by omega) hl2 rfl
        have := run_endRound (P := P) jump hl3
        rw [hrec] at this ⊢
        exact ⟨this, by rw [hrec] at hl3; exact hl3, World.putObj_heap_same (lt_of_block hl3), (World.putObj_heap_other (by omega)).trans (hk3.same _ _ (Nat.le_refl _) hk2 rfl)⟩
      have out : ∀ (c : Code) (W3 : World), KeepsFrom w.heap.size (W.putObj L (.loop { rec .ready none with state := .busy })) W3 ∧ Ix c (pre ++ [x]) W3 → ∃ v W4, (Instr.endRound L (some c)).run P W3 = .ok v W4 ∧
          ((Ending.returned v = .returned (.bool true) ∧ (I (pre ++ [x]) W4 ∧ W4.heap[L]? = some (.loop (rec .ready none)) ∧ W4.heap[w.heap.size]? = some (.deferred (some []))) ∧ Kept T W W4) ∨
           (Ending.returned v = .returned (.bool false) ∧ ∃ c, Ix c (pre ++ [x]) W4 ∧ W4.heap[L]? = some (.loop (rec .done (some c))) ∧ W4.heap[w.heap.size]? = some (.deferred (some [])))) := fun c W3 hp => by
        obtain ⟨hk3, hi3⟩ := hp
        obtain ⟨hr, hl3, hl4, hk4⟩ := fin (some c) W3 hk3
        exact ⟨_, _, hr, .inr ⟨rfl, c, (hIx _).putObj _ hi3 (by omega) hl3 rfl, hl4, hk4⟩⟩
      rintro e a3 W3 hp
      cases e with
      | normal =>
        obtain ⟨hk3, hkp3, hi3⟩ := hp
        obtain ⟨hr, hl3, hl4, hk4⟩ := fin none W3 hk3
        exact ⟨_, _, hr, .inl ⟨rfl, ⟨hI.putObj _ hi3 (by omega) hl3 rfl, hl4, hk4⟩, (hw2.trans hkp3 (fun _ _ h => h)).trans (kept_putObj hT (by omega) _) (fun _ _ h => h)⟩⟩
      | ret => exact out _ W3 hp
      | exit id => exact out _ W3 hp
      | goto t => exact out _ W3 hp
      | panic ch => exact hp.elim
      | outgrown => exact hp.elim
    · rintro e W2 ⟨⟨v, rfl⟩, (⟨xs, hd, hi, hl, hk⟩ | ⟨pre, hp, c, hi, hl, hk⟩)⟩
      · exact ⟨none, _, by have := run_endLoop (P := P) hl (by rw [hrec]; simp); rw [hrec] at this; exact this, hdone _ xs _ (Nat.le_refl _) hd (hI.putObj _ hi (by omega) hl rfl) ((World.putObj_heap_other (by omega)).trans hk)⟩
      · exact ⟨some c, _, by have := run_endLoop (P := P) hl (by rw [hrec]; simp); rw [hrec] at this; exact this, hstop _ c pre _ (Nat.le_refl _) hp ((hIx c).putObj _ hi (by omega) hl rfl) ((World.putObj_heap_other (by omega)).trans hk)⟩
end Go.Proofs.Ytmcjefdnkcpghaa
/- A REGION THAT DRAWS, IN A ROUND OF A LOOP: the plain walk's word serves there. -/
namespace Go.Proofs.Ytmcjefdnkcpghaa
open Go.RowKit
def plainOp (o : Oper) : Bool := match o.op with | .defer _ => false | _ => true
theorem plain_sem {o : Oper} (h : plainOp o = true) (l : Nat) (ρ : Operand → Value) : Oper.semAt (some l) ρ o = execOp ρ o :=
  Oper.semAt_some l ρ o fun c e => by unfold plainOp at h; rw [e] at h; cases h
section
variable {P : Program} {ops : Array Oper} {Q : Exit → Act → World → Prop} {r n : Nat}
theorem upon_round {o : Oper} {a : Act} {K : Act → World → Prop} {x : Result Next} (h : o.upon P a K Q x) : o.uponIn (Fence.wide.inRound r) n P a K Q x := by
  cases x with
  | ok v w' =>
    cases v with
    | value v => exact h
    | skip => exact h
    | defer d => exact h
    | enter f args => exact ⟨fun e => (by cases e), CallsIn.inRound r (callsIn_wide.2 h)⟩
    | row s args => exact ⟨fun e => (by cases e), fun c cs _ => let ⟨v, w'', q, s⟩ := h c cs; ⟨v, w'', q, stepsIn_wide.2 s⟩⟩
    | _ => exact (show False from h).elim
  | halt s w' => cases s <;> exact h
theorem wp_round {o : Oper} {a : Act} {w : World} {K : Act → World → Prop} (hp : plainOp o = true) (h : o.wp P a w K Q) : o.wpIn (Fence.wide.inRound r) n P a w K Q :=
  ⟨fun _ _ => trivial, by rw [Fence.inRound_round, plain_sem hp]; exact upon_round h⟩
theorem wpAny_round {md : Region.Mode} (hops : ∀ (i : Nat) (o : Oper), ops[i]? = some o → plainOp o = true) (hQ : ¬ LetsOut Q) : ∀ (fuel : Nat) (listed : Array Bool) (a : Act) (w : World), wpAny P md ops Q fuel listed a w → wpAnyIn (Fence.wide.inRound r) n P md ops Q fuel listed a w := by
  intro fuel
  induction fuel with
  | zero => exact fun _ _ _ h => h
  | succ fuel ih =>
    intro listed a w h
    refine ⟨h.1, fun i hi => ?_⟩
    have h2 := h.2 i hi
    unfold wpOp at h2
    unfold wpOpIn
    cases ho : ops[i]? with
    | none => rw [ho] at h2; exact ih _ _ _ h2
    | some o =>
      rw [ho] at h2
      simp only at h2 ⊢
      split at h2
      · rename_i hw
        rw [if_pos hw]
        rcases h2 with h2 | h2
        · exact Oper.wpIn_mono (fun a w => ih _ a w) (wp_round (hops i o ho) h2)
        · exact absurd h2.2 hQ
      · rename_i hw
        rw [if_neg hw]
        exact ⟨fun _ _ => trivial, ih _ _ _ h2⟩
theorem wpIn_round_quiet {id : Nat} {a : Act} {w : World} {l : List Oper} (hm : P.follows .mixedOrders = true) (hB : Region.lexB .any l.toArray = true) (hp : l.all plainOp = true) (hQ : ¬ LetsOut Q)
    (h : wpQuiet P l.toArray (fun w' => ∃ n, w' = w.drewN n) (fun a' => ∀ w', (∃ n, w' = w.drewN n) → Q .normal a' w') l a) : (Code.region id l.toArray true).wpIn (Fence.wide.inRound r) n P Q a w := by
  simp only [Region.lexB, Bool.and_eq_true] at hB
  refine wpIn_region_any hm (wpAny_round (fun i o ho => ?_) hQ _ _ _ _ (wpAny_of_quiet (C := fun w' => ∃ n, w' = w.drewN n) (Q := fun a' => ∀ w', (∃ n, w' = w.drewN n) → Q .normal a' w') (fun _ w' hw' h => h w' hw') _ _ _ _ ⟨1, rfl⟩ ?_))
  · exact List.all_eq_true.1 hp o (List.mem_of_getElem? (by simpa using ho))
  · have := wpAnyQ_lex (P := P) (C := fun w' => ∃ n, w' = w.drewN n) (md := .any) hB.1 l 0 (Array.replicate l.toArray.size false) a (by simp) (by simpa using hB.2) h
    simpa using this
end
end Go.Proofs.Ytmcjefdnkcpghaa
/- A SEQUENTIAL REGION IN A ROUND: the plain walk's word serves there too. -/
namespace Go.Proofs.Ytmcjefdnkcpghaa
open Go.RowKit
theorem wpListIn_round {P : Program} {ops : Array Oper} {Q : Exit → Act → World → Prop} {r n : Nat} (hQ : ¬ LetsOut Q) : ∀ (l : List Oper) (_hp : l.all plainOp = true) (a : Act) (w : World), wpList P ops Q l a w → wpListIn (Fence.wide.inRound r) n P ops Q l a w := by
  intro l
  induction l with
  | nil => exact fun _ _ _ h => h
  | cons o rest ih =>
    intro hp a w h
    rw [List.all_cons, Bool.and_eq_true] at hp
    unfold wpList at h
    unfold wpListIn
    split at h
    · rename_i hw
      rw [if_pos hw]
      rcases h with h | h
      · exact Oper.wpIn_mono (fun a w => ih hp.2 a w) (wp_round hp.1 h)
      · exact absurd h.2 hQ
    · rename_i hw
      rw [if_neg hw]
      exact ⟨fun _ _ => trivial, ih hp.2 _ _ h⟩
theorem wpIn_round_list {P : Program} {id : Nat} {l : List Oper} {Q : Exit → Act → World → Prop} {r n : Nat} {a : Act} {w : World} (hQ : ¬ LetsOut Q) (hp : l.all plainOp = true) (h : wpList P l.toArray Q l a w) : (Code.region id l.toArray false).wpIn (Fence.wide.inRound r) n P Q a w :=
  wpIn_region_lit (wpListIn_round hQ l hp a w h)
end Go.Proofs.Ytmcjefdnkcpghaa
/- A DRAWN REGION WHOSE TAIL WRITES A SLOT THAT ITS HEAD READS; such regions in a round of a range over a function. -/
namespace Go.Proofs.Ytmcjefdnkcpghaa
open Go.RowKit
/-- no operation of the head writes slot t -/
def freeN (ops : Array Oper) (n : Nat) (t : Nat) : Bool := (List.range n).all fun j => dstOf ops j != some t
def growN (ops : Array Oper) (n : Nat) : Bool :=
  (List.range n).all fun i =>
    match ops[i]? with
    | none => true
    | some o => (o.after.all fun e => decide (e.on < i)) &&
        (List.range n).all fun j => (!depB ops i j || (o.after.any fun e => Region.binds .any e && e.on == j)) &&
          (j == i || dstOf ops i == none || dstOf ops i != dstOf ops j)
structure GrowCtxN (ops : Array Oper) (n : Nat) (a0 : Act) (w0 : World) (a : Act) (w : World) : Prop where
  below : Below w0.heap.size w0 w
  defers : a.defers = a0.defers
  size : a.tmps.size = a0.tmps.size
  same : ∀ t, freeN ops n t = true → a.tmps[t]?.getD undef = a0.tmps[t]?.getD undef
def ObligN (P : Program) (ops : Array Oper) (n : Nat) (Q : Exit → Act → World → Prop) (a0 : Act) (w0 : World) (sp : Nat → Value → World → Prop) (i : Nat) : Prop :=
  ∀ (a : Act) (w : World), GrowCtxN ops n a0 w0 a w → (∀ j, j < n → depB ops i j = true → sp j (slotOf ops a j) w) →
    wpOp P ops Q i (fun a' w' => ∃ v, a' = a.put (dstOf ops i) v ∧ sp i v w' ∧ Below w.heap.size w w') a w
theorem growN_spec {ops : Array Oper} {n : Nat} (h : growN ops n = true) {i : Nat} {o : Oper} (hin : i < n) (hi : ops[i]? = some o) :
    (∀ e ∈ o.after, e.on < i) ∧ (∀ j, j < n → depB ops i j = true → ∃ e ∈ o.after, Region.binds .any e = true ∧ e.on = j) ∧
    (∀ j, j < n → j ≠ i → dstOf ops i = none ∨ dstOf ops i ≠ dstOf ops j) := by
  have h1 := List.all_eq_true.1 h i (List.mem_range.2 hin)
  simp only [hi, Bool.and_eq_true] at h1
  obtain ⟨h2, h3⟩ := h1
  have h4 := List.all_eq_true.1 h3
  refine ⟨fun e he => ?_, fun j hj hd => ?_, fun j hj hne => ?_⟩
  · have := (Array.all_eq_true_iff_forall_mem.1 h2) e he
    simpa using this
  · have := h4 j (List.mem_range.2 hj)
    simp only [Bool.and_eq_true, Bool.or_eq_true, Bool.not_eq_true'] at this
    rcases this.1 with h5 | h5
    · rw [hd] at h5; cases h5
    · obtain ⟨e, he, hb⟩ := Array.any_eq_true'.1 h5
      simp only [Bool.and_eq_true, beq_iff_eq] at hb
      exact ⟨e, he, hb.1, hb.2⟩
  · have := h4 j (List.mem_range.2 hj)
    simp only [Bool.and_eq_true, Bool.or_eq_true, beq_iff_eq, bne_iff_ne] at this
    rcases this.2 with (h5 | h5) | h5
    · exact absurd h5 hne
    · exact .inl h5
    · exact .inr h5
section
variable {P : Program} {ops : Array Oper} {Q : Exit → Act → World → Prop} {a0 : Act} {w0 : World} {sp : Nat → Value → World → Prop} {n : Nat}
theorem wpAny_growN_tail (hB : growN ops n = true) (hfit : ∀ i d, dstOf ops i = some d → d < a0.tmps.size) (hst : ∀ i v w w', sp i v w → Below w.heap.size w w' → sp i v w')
    (hs : Region.sinkB .any ops n = true) (hc : Region.chainB .any ops n = true) (hn : n < ops.size) (hseq : Region.seqB .any ops (ops.toList.drop n).length n (canon ops n) = true)
    (hob : ∀ i, i < n → ObligN P ops n Q a0 w0 sp i)
    (hfin : ∀ a w, GrowCtxN ops n a0 w0 a w → (∀ j d, j < n → dstOf ops j = some d → sp j (a.tmps[d]?.getD undef) w) → wpList P ops Q (ops.toList.drop n) a w) :
    ∀ (c : Nat) (listed : Array Bool) (a : Act) (w : World), HeadInv .any ops n listed → (List.range n).countP (fun i => listed.getD i true == false) = c → GrowCtxN ops n a0 w0 a w →
      (∀ j d, listed.getD j false = true → dstOf ops j = some d → sp j (a.tmps[d]?.getD undef) w) → wpAny P .any ops Q (c + (ops.toList.drop n).length) listed a w := by
  intro c
  induction c with
  | zero =>
    intro listed a w inv hcnt hg hsp
    have hall : ∀ i, i < n → listed.getD i false = true := by
      intro i hi
      have h0 := List.countP_eq_zero.1 hcnt i (List.mem_range.2 hi)
      have hi' : i < listed.size := by rw [inv.size]; omega
      simp only [beq_iff_eq, Bool.not_eq_false] at h0
      rw [Array.getD_eq_getD_getElem?, Array.getElem?_eq_getElem hi'] at h0 ⊢
      simpa using h0
    have he := canon_of (n := n) inv.size (fun i hi _ => hall i hi) (fun i hi hi' => inv.tail i hi hi')
    rw [Nat.zero_add]
    refine wpAny_of_seq (ops.toList.drop n) n listed a w (fun j => ?_) (by rw [he]; exact hseq) (hfin a w hg fun j d hj hd => hsp j d (hall j hj) hd)
    rw [List.getElem?_drop, Array.getElem?_toList]
  | succ c ih =>
    intro listed a w inv hcnt hg hsp
    have hex : ∃ i, i < n ∧ listed.getD i true = false := by
      obtain ⟨i, hi, h⟩ := List.countP_pos_iff.1 (by omega : 0 < (List.range n).countP (fun i => listed.getD i true == false))
      exact ⟨i, List.mem_range.1 hi, by simpa using h⟩
    rw [show c + 1 + (ops.toList.drop n).length = (c + (ops.toList.drop n).length) + 1 by omega]
    refine ⟨fun hr => ?_, fun i hi => ?_⟩
    · -- the least that has not come up may come up
      exfalso
      have key : ∀ d i, i ≤ d → i < n → listed.getD i true = false → ∃ k, k ∈ Region.ready .any ops listed := by
        intro d
        induction d using Nat.strongRecOn with
        | _ d ihd =>
          intro i hid hin hun
          have his : i < ops.size := by omega
          by_cases hall : ∀ e ∈ ops[i].after, Region.binds .any e = true → listed.getD e.on false = true
          · exact ⟨i, mem_ready.2 ⟨hun, ops[i], Array.getElem?_eq_getElem his, hall⟩⟩
          · obtain ⟨e, hall⟩ := Classical.not_forall.1 hall
            obtain ⟨he, hall⟩ := Classical.not_imp.1 hall
            obtain ⟨hb, hne⟩ := Classical.not_imp.1 hall
            have hlt := (growN_spec hB hin (Array.getElem?_eq_getElem his)).1 e he
            have hun2 : listed.getD e.on true = false := getD_in (by rw [inv.size]; omega) (by simpa using hne)
            exact ihd e.on (by omega) e.on (Nat.le_refl _) (by omega) hun2
      obtain ⟨i, hi, hun⟩ := hex
      obtain ⟨k, hk⟩ := key i i (Nat.le_refl _) hi hun
      rw [hr] at hk; cases hk
    · obtain ⟨h1, o, ho, hrdy⟩ := mem_ready.1 hi
      have hlt : i < ops.size := (Array.getElem?_eq_some_iff.1 ho).1
      have hin : i < n := by
        rcases Nat.lt_or_ge i n with h | h
        · exact h
        · obtain ⟨k, hk, hun⟩ := hex
          exact absurd hi (tail_waits hs hc hn inv _ k rfl hk hun i h)
      obtain ⟨hb1, hb2, hb3⟩ := growN_spec hB hin ho
      refine wpOp_mono (fun a' w' hK => ?_) (hob i hin a w hg (fun j hjn hj => ?_))
      · obtain ⟨v, rfl, hv, hgrow⟩ := hK
        refine ih _ _ _ (inv.set hi hin) ?_ ⟨hg.below.trans (hgrow.mono hg.below.size), (put_defs _ _ _).trans hg.defers, (put_size _ _ _).trans hg.size, fun t ht => ?_⟩ ?_
        · -- one less
          have hi' : i < listed.size := by rw [inv.size]; exact hlt
          have hsame : ∀ k, k ≠ i → ((listed.setIfInBounds i true).getD k true == false) = (listed.getD k true == false) := fun k hk => by rw [getD_set_ne true (fun e => hk e.symm)]
          have hnot : ((listed.setIfInBounds i true).getD i true == false) = false := by simp [hi']
          have h1' : (listed.getD i true == false) = true := by simpa using h1
          have hmem : i ∈ List.range n := List.mem_range.2 hin
          have hnd : (List.range n).Nodup := List.nodup_range
          clear ih hob hfin hsp hg hrdy
          have : ∀ L : List Nat, i ∈ L → L.Nodup → L.countP (fun k => (listed.setIfInBounds i true).getD k true == false) + 1 = L.countP (fun k => listed.getD k true == false) := by
            intro L
            induction L with
            | nil => intro h; cases h
            | cons x L ihL =>
              intro hm hd
              rw [List.countP_cons, List.countP_cons]
              rw [List.nodup_cons] at hd
              by_cases hx : x = i
              · subst hx
                have : L.countP (fun k => (listed.setIfInBounds x true).getD k true == false) = L.countP (fun k => listed.getD k true == false) := by
                  apply List.countP_congr
                  intro k hk
                  rw [hsame k (fun e => hd.1 (e ▸ hk))]
                rw [this, if_neg (by rw [hnot]; decide), if_pos h1']
              · have h2 := ihL ((List.mem_cons.1 hm).resolve_left (fun e => hx e.symm)) hd.2
                rw [hsame x hx]
                omega
          have := this _ hmem hnd
          omega
        · rw [put_slot _ _ _ _ (fun e => ?_)]
          · exact hg.same t ht
          · have h2 := List.all_eq_true.1 ht i (List.mem_range.2 hin)
            simp only [bne_iff_ne] at h2
            exact h2 e
        · intro j d hl hd
          by_cases hji : j = i
          · subst hji
            rw [hd, put_self _ _ _ (by rw [hg.size]; exact hfit _ _ hd)]
            exact hv
          · have hl' : listed.getD j false = true := by rwa [getD_set_ne false (fun e => hji e.symm)] at hl
            have hjs : j < n := by
              rcases Nat.lt_or_ge j n with h | h
              · exact h
              · rcases Nat.lt_or_ge j ops.size with h4 | h4
                · have h3 := inv.tail j h h4
                  rw [Array.getD_eq_getD_getElem?, Array.getElem?_eq_getElem (by rw [inv.size]; exact h4)] at hl' h3
                  simp only [Option.getD_some] at hl' h3
                  rw [hl'] at h3; cases h3
                · rw [Array.getD_eq_getD_getElem?, Array.getElem?_eq_none (by rw [inv.size]; omega)] at hl'; simp at hl'
            rw [put_slot _ _ _ _ (fun e => ?_)]
            · exact hst _ _ _ _ (hsp j d hl' hd) hgrow
            · rcases hb3 j hjs hji with h | h
              · rw [h] at e; cases e
              · exact h (e.trans hd.symm)
      · have hjd : ∃ d, dstOf ops j = some d := by
          unfold depB at hj
          rw [ho] at hj
          cases hd : dstOf ops j with
          | none => rw [hd] at hj; cases hj
          | some d => exact ⟨d, rfl⟩
        obtain ⟨d, hd⟩ := hjd
        have hjs : j < ops.size := by
          unfold dstOf at hd
          cases hoj : ops[j]? with
          | none => rw [hoj] at hd; cases hd
          | some oj => exact (Array.getElem?_eq_some_iff.1 hoj).1
        obtain ⟨e, he, hbd, hon⟩ := hb2 j hjn hj
        have hl := hrdy e he hbd
        rw [hon] at hl
        have := hsp j d hl hd
        unfold slotOf
        rw [hd]
        exact this
end
theorem wpAny_region_tailN {P : Program} {ops : Array Oper} {Q : Exit → Act → World → Prop} {a0 : Act} {w : World} (n : Nat) (l : List Sp) (hB : growN ops n = true) (hfit : slotFitB ops a0.tmps.size = true)
    (hs : Region.sinkB .any ops n = true) (hc : Region.chainB .any ops n = true) (hn : n < ops.size) (hseq : Region.seqB .any ops (ops.toList.drop n).length n (canon ops n) = true)
    (hob : ∀ i, i < n → ObligN P ops n Q a0 w.drew (spOf l) i)
    (hfin : ∀ a w', GrowCtxN ops n a0 w.drew a w' → (∀ j d, j < n → dstOf ops j = some d → spOf l j (a.tmps[d]?.getD undef) w') → wpList P ops Q (ops.toList.drop n) a w') :
    wpAny P .any ops Q ops.size (Array.replicate ops.size false) a0 w.drew := by
  have hrep : ∀ i, i < ops.size → (Array.replicate ops.size false).getD i true = false := fun i hi => getD_in (by simpa using hi) (getD_replicate_false _ _)
  have inv0 : HeadInv .any ops n (Array.replicate ops.size false) :=
    ⟨by simp, fun j oj _ hl => (by rw [getD_replicate_false] at hl; cases hl), fun t _ ht => hrep t ht⟩
  have hcnt : (List.range n).countP (fun i => (Array.replicate ops.size false).getD i true == false) = n := by
    have : (List.range n).countP (fun i => (Array.replicate ops.size false).getD i true == false) = (List.range n).length := by
      apply List.countP_eq_length.2
      intro i hi
      rw [hrep i (by have := List.mem_range.1 hi; omega)]; rfl
    rw [this, List.length_range]
  have H := wpAny_growN_tail (P := P) (Q := Q) (a0 := a0) (w0 := w.drew) (sp := spOf l) hB (fit_of hfit) (spOf_st l) hs hc hn hseq hob hfin n _ a0 w.drew inv0 hcnt ⟨Below.refl _ _, rfl, rfl, fun _ _ => rfl⟩ (fun j d hl _ => by rw [getD_replicate_false] at hl; cases hl)
  rw [show n + (ops.toList.drop n).length = ops.size by rw [List.length_drop, Array.length_toList]; omega] at H
  exact H
theorem wp_region_tailN {P : Program} {ops : Array Oper} {Q : Exit → Act → World → Prop} {a0 : Act} {id : Nat} {w : World} (n : Nat) (hm : P.follows .mixedOrders = true) (l : List Sp) (hB : growN ops n = true) (hfit : slotFitB ops a0.tmps.size = true)
    (hs : Region.sinkB .any ops n = true) (hc : Region.chainB .any ops n = true) (hn : n < ops.size) (hseq : Region.seqB .any ops (ops.toList.drop n).length n (canon ops n) = true)
    (hob : ∀ i, i < n → ObligN P ops n Q a0 w.drew (spOf l) i)
    (hfin : ∀ a w', GrowCtxN ops n a0 w.drew a w' → (∀ j d, j < n → dstOf ops j = some d → spOf l j (a.tmps[d]?.getD undef) w') → wpList P ops Q (ops.toList.drop n) a w') :
    (Code.region id ops true).wp P Q a0 w := wp_region_any hm (wpAny_region_tailN n l hB hfit hs hc hn hseq hob hfin)
/-- the same in a round of a range over a function -/
theorem wpIn_round_tailN {P : Program} {ops : Array Oper} {Q : Exit → Act → World → Prop} {a0 : Act} {id : Nat} {w : World} {r m : Nat} (n : Nat) (hm : P.follows .mixedOrders = true) (l : List Sp) (hB : growN ops n = true) (hfit : slotFitB ops a0.tmps.size = true)
    (hs : Region.sinkB .any ops n = true) (hc : Region.chainB .any ops n = true) (hn : n < ops.size) (hseq : Region.seqB .any ops (ops.toList.drop n).length n (canon ops n) = true)
    (hp : ops.toList.all plainOp = true) (hQ : ¬ LetsOut Q)
    (hob : ∀ i, i < n → ObligN P ops n Q a0 w.drew (spOf l) i)
    (hfin : ∀ a w', GrowCtxN ops n a0 w.drew a w' → (∀ j d, j < n → dstOf ops j = some d → spOf l j (a.tmps[d]?.getD undef) w') → wpList P ops Q (ops.toList.drop n) a w') :
    (Code.region id ops true).wpIn (Fence.wide.inRound r) m P Q a0 w :=
  wpIn_region_any hm (wpAny_round (fun i o ho => List.all_eq_true.1 hp o (List.mem_of_getElem? (by simpa using ho))) hQ _ _ _ _ (wpAny_region_tailN n l hB hfit hs hc hn hseq hob hfin))
/-- a region without a tail, in a round -/
theorem wpIn_round_sp {P : Program} {ops : Array Oper} {Q : Exit → Act → World → Prop} {a0 : Act} {id : Nat} {w : World} {r m : Nat} (hm : P.follows .mixedOrders = true) (l : List Sp) (hB : growB ops = true) (hfit : slotFitB ops a0.tmps.size = true)
    (hp : ops.toList.all plainOp = true) (hQ : ¬ LetsOut Q)
    (hob : ∀ i, i < ops.size → Oblig P ops Q a0 w.drew (spOf l) i)
    (hfin : ∀ a w', GrowCtx ops a0 w.drew a w' → (∀ j d, j < ops.size → dstOf ops j = some d → spOf l j (a.tmps[d]?.getD undef) w') → Q .normal a w') :
    (Code.region id ops true).wpIn (Fence.wide.inRound r) m P Q a0 w :=
  wpIn_region_any hm (wpAny_round (fun i o ho => List.all_eq_true.1 hp o (List.mem_of_getElem? (by simpa using ho))) hQ _ _ _ _
    (wpAny_grow (w0 := w.drew) hB (fit_of hfit) (spOf_st l) hob hfin _ _ _ _ (by simp) (Nat.le_trans (List.countP_le_length) (by simp)) ⟨Below.refl _ _, rfl, rfl, fun _ _ => rfl⟩ (fun j d hl _ => by rw [getD_replicate_false] at hl; cases hl)))
/-- is every slot free, or among these? -/
def covN (ops : Array Oper) (m : Nat) (n : Nat) (vals : List (Nat × Value)) : Bool := (List.range n).all fun t => freeN ops m t || (vals.lookup t).isSome
theorem grow_frameN {ops : Array Oper} {m : Nat} {a0 a : Act} {w0 w : World} (hc : GrowCtxN ops m a0 w0 a w) (vals : List (Nat × Value)) (hcov : covN ops m a0.tmps.size vals = true)
    (hv : ∀ p ∈ vals, a.tmps[p.1]?.getD undef = p.2) :
    a = ⟨((List.range a0.tmps.size).map fun t => (vals.lookup t).getD (a0.tmps[t]?.getD undef)).toArray, a0.defers⟩ := by
  obtain ⟨tmps, defers⟩ := a
  have h1 := hc.defers
  have h2 := hc.size
  simp only at h1 h2
  subst h1
  congr 1
  apply Array.ext
  · simp [h2]
  · intro i hi1 hi2
    simp only [List.getElem_toArray, List.getElem_map, List.getElem_range]
    have hi : i < a0.tmps.size := by rw [← h2]; exact hi1
    have hs := hc.same i
    simp only [Array.getElem?_eq_getElem hi1, Option.getD_some] at hs
    cases hl : vals.lookup i with
    | none =>
      have := List.all_eq_true.1 hcov i (List.mem_range.2 hi)
      rw [hl] at this
      simp only [Option.isSome_none, Bool.or_false] at this
      exact hs this
    | some v =>
      have hm : ∀ (l : List (Nat × Value)), l.lookup i = some v → (i, v) ∈ l := by
        intro l
        induction l with
        | nil => intro h; cases h
        | cons p t ih =>
          intro h
          rw [List.lookup_cons] at h
          split at h
          · rename_i he
            rw [beq_iff_eq] at he
            cases h
            subst he
            simp
          · exact List.mem_cons_of_mem _ (ih h)
      have := hv _ (hm vals hl)
      simp only [Array.getElem?_eq_getElem hi1, Option.getD_some] at this
      exact this
end Go.Proofs.Ytmcjefdnkcpghaa
/- A DRAWN REGION: its head in whatever order; what stands behind it may come in several orders. -/
namespace Go.Proofs.Ytmcjefdnkcpghaa
open Go.RowKit
def headB (ops : Array Oper) (n : Nat) : Bool :=
  ((List.range n).all fun i => i + 1 == n || (List.range n).any fun j => decide (i < j) && Region.waitsFor .any ops j i) &&
  (List.range ops.size).all fun t => decide (t < n) || (List.range t).any fun j => decide (n ≤ j + 1) && Region.waitsFor .any ops t j
theorem head_waits {ops : Array Oper} {n : Nat} {listed : Array Bool} (hh : headB ops n = true) (hn : n < ops.size) (inv : HeadInv .any ops n listed) (hex : ∃ k, k < n ∧ listed.getD k true = false) :
    ∀ t, n ≤ t → t ∉ Region.ready .any ops listed := by
  unfold headB at hh
  rw [Bool.and_eq_true] at hh
  obtain ⟨hs, hc⟩ := hh
  have hup : ∀ d i, n - i ≤ d → i < n → listed.getD i true = false → listed.getD (n - 1) true = false := by
    intro d
    induction d with
    | zero => intro i h1 h2; omega
    | succ d ih =>
      intro i h1 h2 hun
      by_cases hl : i + 1 = n
      · rw [show n - 1 = i by omega]; exact hun
      · have h3 := List.all_eq_true.1 hs i (List.mem_range.2 h2)
        simp only [Bool.or_eq_true, beq_iff_eq] at h3
        obtain ⟨j, hj, h4⟩ := List.any_eq_true.1 (h3.resolve_left hl)
        simp only [Bool.and_eq_true, decide_eq_true_eq] at h4
        obtain ⟨oj, hoj, e, he, hb, hon⟩ := Region.waitsFor_spec h4.2
        have hjn := List.mem_range.1 hj
        cases hlj : listed.getD j false with
        | true =>
          have h5 := inv.closed j oj hoj hlj e he hb
          rw [hon, getD_both hun] at h5
          cases h5
        | false => exact ih j (by omega) hjn (getD_in (by rw [inv.size]; omega) hlj)
  obtain ⟨k, hk, hun⟩ := hex
  have hlast := hup _ k (Nat.le_refl _) hk hun
  intro t ht hr
  obtain ⟨_, ot, hot, hall⟩ := mem_ready.1 hr
  have htlt : t < ops.size := (Array.getElem?_eq_some_iff.1 hot).1
  have h3 := List.all_eq_true.1 hc t (List.mem_range.2 htlt)
  simp only [Bool.or_eq_true, decide_eq_true_eq] at h3
  obtain ⟨j, hj, h4⟩ := List.any_eq_true.1 (h3.resolve_left (by omega))
  simp only [Bool.and_eq_true, decide_eq_true_eq] at h4
  obtain ⟨o', ho', e, he, hb, hon⟩ := Region.waitsFor_spec h4.2
  have hoo : o' = ot := Option.some.inj (ho'.symm.trans hot)
  subst hoo
  have h5 := hall e he hb
  rw [hon] at h5
  have hjt := List.mem_range.1 hj
  by_cases hjn : j + 1 = n
  · rw [show j = n - 1 by omega, getD_both hlast] at h5; cases h5
  · rw [getD_both (inv.tail j (by omega) (by omega))] at h5; cases h5
section
variable {P : Program} {ops : Array Oper} {Q : Exit → Act → World → Prop} {a0 : Act} {w0 : World} {sp : Nat → Value → World → Prop} {n : Nat}
theorem wpAny_growN_head (hB : growN ops n = true) (hfit : ∀ i d, dstOf ops i = some d → d < a0.tmps.size) (hst : ∀ i v w w', sp i v w → Below w.heap.size w w' → sp i v w')
    (hh : headB ops n = true) (hn : n < ops.size)
    (hob : ∀ i, i < n → ObligN P ops n Q a0 w0 sp i)
    (m : Nat)
    (hfin : ∀ a w, GrowCtxN ops n a0 w0 a w → (∀ j d, j < n → dstOf ops j = some d → sp j (a.tmps[d]?.getD undef) w) → wpAny P .any ops Q m (canon ops n) a w) :
    ∀ (c : Nat) (listed : Array Bool) (a : Act) (w : World), HeadInv .any ops n listed → (List.range n).countP (fun i => listed.getD i true == false) = c → GrowCtxN ops n a0 w0 a w →
      (∀ j d, listed.getD j false = true → dstOf ops j = some d → sp j (a.tmps[d]?.getD undef) w) → wpAny P .any ops Q (c + m) listed a w := by
  intro c
  induction c with
  | zero =>
    intro listed a w inv hcnt hg hsp
    have hall : ∀ i, i < n → listed.getD i false = true := by
      intro i hi
      have h0 := List.countP_eq_zero.1 hcnt i (List.mem_range.2 hi)
      have hi' : i < listed.size := by rw [inv.size]; omega
      simp only [beq_iff_eq, Bool.not_eq_false] at h0
      rw [Array.getD_eq_getD_getElem?, Array.getElem?_eq_getElem hi'] at h0 ⊢
      simpa using h0
    have he := canon_of (n := n) inv.size (fun i hi _ => hall i hi) (fun i hi hi' => inv.tail i hi hi')
    rw [Nat.zero_add]
    rw [he]
    exact hfin a w hg fun j d hj hd => hsp j d (hall j hj) hd
  | succ c ih =>
    intro listed a w inv hcnt hg hsp
    have hex : ∃ i, i < n ∧ listed.getD i true = false := by
      obtain ⟨i, hi, h⟩ := List.countP_pos_iff.1 (by omega : 0 < (List.range n).countP (fun i => listed.getD i true == false))
      exact ⟨i, List.mem_range.1 hi, by simpa using h⟩
    rw [show c + 1 + m = (c + m) + 1 by omega]
    refine ⟨fun hr => ?_, fun i hi => ?_⟩
    · -- the least that has not come up may come up
      exfalso
      have key : ∀ d i, i ≤ d → i < n → listed.getD i true = false → ∃ k, k ∈ Region.ready .any ops listed := by
        intro d
        induction d using Nat.strongRecOn with
        | _ d ihd =>
          intro i hid hin hun
          have his : i < ops.size := by omega
          by_cases hall : ∀ e ∈ ops[i].after, Region.binds .any e = true → listed.getD e.on false = true
          · exact ⟨i, mem_ready.2 ⟨hun, ops[i], Array.getElem?_eq_getElem his, hall⟩⟩
          · obtain ⟨e, hall⟩ := Classical.not_forall.1 hall
            obtain ⟨he, hall⟩ := Classical.not_imp.1 hall
            obtain ⟨hb, hne⟩ := Classical.not_imp.1 hall
            have hlt := (growN_spec hB hin (Array.getElem?_eq_getElem his)).1 e he
            have hun2 : listed.getD e.on true = false := getD_in (by rw [inv.size]; omega) (by simpa using hne)
            exact ihd e.on (by omega) e.on (Nat.le_refl _) (by omega) hun2
      obtain ⟨i, hi, hun⟩ := hex
      obtain ⟨k, hk⟩ := key i i (Nat.le_refl _) hi hun
      rw [hr] at hk; cases hk
    · obtain ⟨h1, o, ho, hrdy⟩ := mem_ready.1 hi
      have hlt : i < ops.size := (Array.getElem?_eq_some_iff.1 ho).1
      have hin : i < n := by
        rcases Nat.lt_or_ge i n with h | h
        · exact h
        · obtain ⟨k, hk, hun⟩ := hex
          exact absurd hi (head_waits hh hn inv ⟨k, hk, hun⟩ i h)
      obtain ⟨hb1, hb2, hb3⟩ := growN_spec hB hin ho
      refine wpOp_mono (fun a' w' hK => ?_) (hob i hin a w hg (fun j hjn hj => ?_))
      · obtain ⟨v, rfl, hv, hgrow⟩ := hK
        refine ih _ _ _ (inv.set hi hin) ?_ ⟨hg.below.trans (hgrow.mono hg.below.size), (put_defs _ _ _).trans hg.defers, (put_size _ _ _).trans hg.size, fun t ht => ?_⟩ ?_
        · -- one less
          have hi' : i < listed.size := by rw [inv.size]; exact hlt
          have hsame : ∀ k, k ≠ i → ((listed.setIfInBounds i true).getD k true == false) = (listed.getD k true == false) := fun k hk => by rw [getD_set_ne true (fun e => hk e.symm)]
          have hnot : ((listed.setIfInBounds i true).getD i true == false) = false := by simp [hi']
          have h1' : (listed.getD i true == false) = true := by simpa using h1
          have hmem : i ∈ List.range n := List.mem_range.2 hin
          have hnd : (List.range n).Nodup := List.nodup_range
          clear ih hob hfin hsp hg hrdy
          have : ∀ L : List Nat, i ∈ L → L.Nodup → L.countP (fun k => (listed.setIfInBounds i true).getD k true == false) + 1 = L.countP (fun k => listed.getD k true == false) := by
            intro L
            induction L with
            | nil => intro h; cases h
            | cons x L ihL =>
              intro hm hd
              rw [List.countP_cons, List.countP_cons]
              rw [List.nodup_cons] at hd
              by_cases hx : x = i
              · subst hx
                have : L.countP (fun k => (listed.setIfInBounds x true).getD k true == false) = L.countP (fun k => listed.getD k true == false) := by
                  apply List.countP_congr
                  intro k hk
                  rw [hsame k (fun e => hd.1 (e ▸ hk))]
                rw [this, if_neg (by rw [hnot]; decide), if_pos h1']
              · have h2 := ihL ((List.mem_cons.1 hm).resolve_left (fun e => hx e.symm)) hd.2
                rw [hsame x hx]
                omega
          have := this _ hmem hnd
          omega
        · rw [put_slot _ _ _ _ (fun e => ?_)]
          · exact hg.same t ht
          · have h2 := List.all_eq_true.1 ht i (List.mem_range.2 hin)
            simp only [bne_iff_ne] at h2
            exact h2 e
        · intro j d hl hd
          by_cases hji : j = i
          · subst hji
            rw [hd, put_self _ _ _ (by rw [hg.size]; exact hfit _ _ hd)]
            exact hv
          · have hl' : listed.getD j false = true := by rwa [getD_set_ne false (fun e => hji e.symm)] at hl
            have hjs : j < n := by
              rcases Nat.lt_or_ge j n with h | h
              · exact h
              · rcases Nat.lt_or_ge j ops.size with h4 | h4
                · have h3 := inv.tail j h h4
                  rw [Array.getD_eq_getD_getElem?, Array.getElem?_eq_getElem (by rw [inv.size]; exact h4)] at hl' h3
                  simp only [Option.getD_some] at hl' h3
                  rw [hl'] at h3; cases h3
                · rw [Array.getD_eq_getD_getElem?, Array.getElem?_eq_none (by rw [inv.size]; omega)] at hl'; simp at hl'
            rw [put_slot _ _ _ _ (fun e => ?_)]
            · exact hst _ _ _ _ (hsp j d hl' hd) hgrow
            · rcases hb3 j hjs hji with h | h
              · rw [h] at e; cases e
              · exact h (e.trans hd.symm)
      · have hjd : ∃ d, dstOf ops j = some d := by
          unfold depB at hj
          rw [ho] at hj
          cases hd : dstOf ops j with
          | none => rw [hd] at hj; cases hj
          | some d => exact ⟨d, rfl⟩
        obtain ⟨d, hd⟩ := hjd
        have hjs : j < ops.size := by
          unfold dstOf at hd
          cases hoj : ops[j]? with
          | none => rw [hoj] at hd; cases hd
          | some oj => exact (Array.getElem?_eq_some_iff.1 hoj).1
        obtain ⟨e, he, hbd, hon⟩ := hb2 j hjn hj
        have hl := hrdy e he hbd
        rw [hon] at hl
        have := hsp j d hl hd
        unfold slotOf
        rw [hd]
        exact this
end
theorem wp_region_headN {P : Program} {ops : Array Oper} {Q : Exit → Act → World → Prop} {a0 : Act} {id : Nat} {w : World} (n m : Nat) (hm : P.follows .mixedOrders = true) (l : List Sp) (hB : growN ops n = true) (hfit : slotFitB ops a0.tmps.size = true)
    (hh : headB ops n = true) (hn : n < ops.size) (hsz : n + m = ops.size)
    (hob : ∀ i, i < n → ObligN P ops n Q a0 w.drew (spOf l) i)
    (hfin : ∀ a w', GrowCtxN ops n a0 w.drew a w' → (∀ j d, j < n → dstOf ops j = some d → spOf l j (a.tmps[d]?.getD undef) w') → wpAny P .any ops Q m (canon ops n) a w') :
    (Code.region id ops true).wp P Q a0 w := by
  refine wp_region_any hm ?_
  have hrep : ∀ i, i < ops.size → (Array.replicate ops.size false).getD i true = false := fun i hi => getD_in (by simpa using hi) (getD_replicate_false _ _)
  have inv0 : HeadInv .any ops n (Array.replicate ops.size false) :=
    ⟨by simp, fun j oj _ hl => (by rw [getD_replicate_false] at hl; cases hl), fun t _ ht => hrep t ht⟩
  have hcnt : (List.range n).countP (fun i => (Array.replicate ops.size false).getD i true == false) = n := by
    have : (List.range n).countP (fun i => (Array.replicate ops.size false).getD i true == false) = (List.range n).length := by
      apply List.countP_eq_length.2
      intro i hi
      rw [hrep i (by have := List.mem_range.1 hi; omega)]; rfl
    rw [this, List.length_range]
  have H := wpAny_growN_head (P := P) (Q := Q) (a0 := a0) (w0 := w.drew) (sp := spOf l) hB (fit_of hfit) (spOf_st l) hh hn hob m hfin n _ a0 w.drew inv0 hcnt ⟨Below.refl _ _, rfl, rfl, fun _ _ => rfl⟩ (fun j d hl _ => by rw [getD_replicate_false] at hl; cases hl)
  rw [hsz] at H
  exact H
/-- what is left comes in one order -/
theorem wpAny_seq {P : Program} {ops : Array Oper} {Q : Exit → Act → World → Prop} {a : Act} {w : World} {listed : Array Bool} (k m : Nat) (hk : (ops.toList.drop k).length = m) (hseq : Region.seqB .any ops m k listed = true) (h : wpList P ops Q (ops.toList.drop k) a w) : wpAny P .any ops Q m listed a w := by
  subst hk
  exact wpAny_of_seq (ops.toList.drop k) k listed a w (fun j => by rw [List.getElem?_drop, Array.getElem?_toList]) hseq h
end Go.Proofs.Ytmcjefdnkcpghaa
/- A DRAWN REGION: a head whose operations grow, in whatever order; a tail that waits for all of them but one (e), which yields in whatever world. -/
namespace Go.Proofs.Ytmcjefdnkcpghaa
open Go.RowKit
def growQ (ops : Array Oper) (n : Nat) : Bool :=
  (List.range n).all fun i =>
    match ops[i]? with
    | none => true
    | some o => (o.after.all fun e => !Region.binds .any e || decide (e.on < i)) &&
        (List.range n).all fun j => (!depB ops i j || (o.after.any fun e => Region.binds .any e && e.on == j)) &&
          (j == i || dstOf ops i == none || dstOf ops i != dstOf ops j)
theorem growQ_spec {ops : Array Oper} {n : Nat} (h : growQ ops n = true) {i : Nat} {o : Oper} (hin : i < n) (hi : ops[i]? = some o) :
    (∀ e ∈ o.after, Region.binds .any e = true → e.on < i) ∧ (∀ j, j < n → depB ops i j = true → ∃ e ∈ o.after, Region.binds .any e = true ∧ e.on = j) ∧
    (∀ j, j < n → j ≠ i → dstOf ops i = none ∨ dstOf ops i ≠ dstOf ops j) := by
  have h1 := List.all_eq_true.1 h i (List.mem_range.2 hin)
  simp only [hi, Bool.and_eq_true] at h1
  obtain ⟨h2, h3⟩ := h1
  have h4 := List.all_eq_true.1 h3
  refine ⟨fun e he hbd => ?_, fun j hj hd => ?_, fun j hj hne => ?_⟩
  · have := (Array.all_eq_true_iff_forall_mem.1 h2) e he
    rw [hbd] at this
    simpa using this
  · have := h4 j (List.mem_range.2 hj)
    simp only [Bool.and_eq_true, Bool.or_eq_true, Bool.not_eq_true'] at this
    rcases this.1 with h5 | h5
    · rw [hd] at h5; cases h5
    · obtain ⟨e, he, hb⟩ := Array.any_eq_true'.1 h5
      simp only [Bool.and_eq_true, beq_iff_eq] at hb
      exact ⟨e, he, hb.1, hb.2⟩
  · have := h4 j (List.mem_range.2 hj)
    simp only [Bool.and_eq_true, Bool.or_eq_true, beq_iff_eq, bne_iff_ne] at this
    rcases this.2 with (h5 | h5) | h5
    · exact absurd h5 hne
    · exact .inl h5
    · exact .inr h5
/-- the head is through, but for e -/
def eCanon (ops : Array Oper) (n e : Nat) : Array Bool := Array.ofFn fun i : Fin ops.size => decide (i.val < n) && decide (i.val ≠ e)
theorem eCanon_of {ops : Array Oper} {n e : Nat} {listed : Array Bool} (hsz : listed.size = ops.size) (h1 : ∀ i, i < n → i ≠ e → i < ops.size → listed.getD i true = true) (h2 : ∀ i, n ≤ i → i < ops.size → listed.getD i true = false) (he : listed.getD e true = false) : listed = eCanon ops n e := by
  apply Array.ext
  · simp [eCanon, hsz]
  · intro i h3 h4
    have hi : i < ops.size := by omega
    simp only [eCanon, Array.getElem_ofFn]
    by_cases hie : i = e
    · subst hie
      rw [Array.getD_eq_getD_getElem?, Array.getElem?_eq_getElem h3] at he
      simpa using he
    · by_cases h : i < n
      · have := h1 i h hie hi
        rw [Array.getD_eq_getD_getElem?, Array.getElem?_eq_getElem h3] at this
        simpa [h, hie] using this
      · have := h2 i (by omega) hi
        rw [Array.getD_eq_getD_getElem?, Array.getElem?_eq_getElem h3] at this
        simpa [h, hie] using this
/-- each of the tail waits for all of the head but e, or for one of the tail -/
def headE (ops : Array Oper) (n e : Nat) : Bool :=
  (List.range ops.size).all fun t => decide (t < n) || ((List.range n).all fun i => decide (i = e) || Region.waitsFor .any ops t i) || ((List.range t).any fun j => decide (n ≤ j) && Region.waitsFor .any ops t j)
theorem headE_waits {ops : Array Oper} {n e : Nat} {listed : Array Bool} (hh : headE ops n e = true) (inv : HeadInv .any ops n listed) (hex : ∃ k, k < n ∧ k ≠ e ∧ listed.getD k true = false) :
    ∀ t, n ≤ t → t ∉ Region.ready .any ops listed := by
  obtain ⟨k, hk, hke, hun⟩ := hex
  intro t ht hr
  obtain ⟨_, ot, hot, hall⟩ := mem_ready.1 hr
  have htlt : t < ops.size := (Array.getElem?_eq_some_iff.1 hot).1
  have h3 := List.all_eq_true.1 hh t (List.mem_range.2 htlt)
  rw [Bool.or_eq_true, Bool.or_eq_true, decide_eq_true_eq] at h3
  rcases h3 with (h3 | h3) | h3
  · omega
  · have h4 := List.all_eq_true.1 h3 k (List.mem_range.2 hk)
    rw [Bool.or_eq_true, decide_eq_true_eq] at h4
    obtain ⟨o', ho', x, hx, hb, hon⟩ := Region.waitsFor_spec (h4.resolve_left hke)
    have hoo : o' = ot := Option.some.inj (ho'.symm.trans hot)
    subst hoo
    have h5 := hall x hx hb
    rw [hon, getD_both hun] at h5; cases h5
  · obtain ⟨j, hj, h4⟩ := List.any_eq_true.1 h3
    simp only [Bool.and_eq_true, decide_eq_true_eq] at h4
    obtain ⟨o', ho', x, hx, hb, hon⟩ := Region.waitsFor_spec h4.2
    have hoo : o' = ot := Option.some.inj (ho'.symm.trans hot)
    subst hoo
    have h5 := hall x hx hb
    have hjt := List.mem_range.1 hj
    rw [hon, getD_both (inv.tail j h4.1 (by omega))] at h5; cases h5
section
variable {P : Program} {ops : Array Oper} {Q : Exit → Act → World → Prop} {a0 : Act} {w0 : World} {sp : Nat → Value → World → Prop} {n : Nat}
theorem wpAny_growQ_head (e : Nat) (hen : e < n) (ve : Value) (oe : Oper) (hoe : ops[e]? = some oe) (hB : growQ ops n = true) (hfit : ∀ i d, dstOf ops i = some d → d < a0.tmps.size) (hst : ∀ i v w w', sp i v w → Below w.heap.size w w' → sp i v w')
    (hh : headE ops n e = true) (hn : n < ops.size)
    (hsel : Region.noSelect ops = true) (hpan : ∀ c a w, Q (.panic c) (a.put oe.dst ve) w → Q (.panic c) a w) (hfree : Region.free .any ops (eCanon ops n e) e = true) (hrdye : (Region.ready .any ops (eCanon ops n e)).contains e = true)
    (hye : ∀ a w, (∀ j, j < n → depB ops e j = true → sp j (slotOf ops a j) w) → Yields P ops oe ve a) (hve : ∀ w, sp e ve w)
    (hob : ∀ i, i < n → ObligN P ops n Q a0 w0 sp i)
    (m : Nat)
    (hfin : ∀ a w, GrowCtxN ops n a0 w0 a w → (∀ j d, j < n → dstOf ops j = some d → sp j (a.tmps[d]?.getD undef) w) → wpAny P .any ops Q m (canon ops n) a w) :
    ∀ (c : Nat) (listed : Array Bool) (a : Act) (w : World), HeadInv .any ops n listed → (List.range n).countP (fun i => listed.getD i true == false) = c → GrowCtxN ops n a0 w0 a w →
      (∀ j d, listed.getD j false = true → dstOf ops j = some d → sp j (a.tmps[d]?.getD undef) w) → wpAny P .any ops Q (c + m) listed a w := by
  intro c
  induction c with
  | zero =>
    intro listed a w inv hcnt hg hsp
    have hall : ∀ i, i < n → listed.getD i false = true := by
      intro i hi
      have h0 := List.countP_eq_zero.1 hcnt i (List.mem_range.2 hi)
      have hi' : i < listed.size := by rw [inv.size]; omega
      simp only [beq_iff_eq, Bool.not_eq_false] at h0
      rw [Array.getD_eq_getD_getElem?, Array.getElem?_eq_getElem hi'] at h0 ⊢
      simpa using h0
    have he := canon_of (n := n) inv.size (fun i hi _ => hall i hi) (fun i hi hi' => inv.tail i hi hi')
    rw [Nat.zero_add, he]
    exact hfin a w hg fun j d hj hd => hsp j d (hall j hj) hd
  | succ c ih =>
    intro listed a w inv hcnt hg hsp
    have hex : ∃ i, i < n ∧ listed.getD i true = false := by
      obtain ⟨i, hi, h⟩ := List.countP_pos_iff.1 (by omega : 0 < (List.range n).countP (fun i => listed.getD i true == false))
      exact ⟨i, List.mem_range.1 hi, by simpa using h⟩
    have hstep : ∀ i o v w', i < n → i ∈ Region.ready .any ops listed → ops[i]? = some o → sp i v w' → Below w.heap.size w w' → wpAny P .any ops Q (c + m) (listed.setIfInBounds i true) (a.put (dstOf ops i) v) w' := by
      intro i o v w' hin hi ho hv hgrow
      obtain ⟨h1, _, _, hrdy⟩ := mem_ready.1 hi
      have hlt : i < ops.size := (Array.getElem?_eq_some_iff.1 ho).1
      obtain ⟨hb1, hb2, hb3⟩ := growQ_spec hB hin ho
      refine ih _ _ _ (inv.set hi hin) ?_ ⟨hg.below.trans (hgrow.mono hg.below.size), (put_defs _ _ _).trans hg.defers, (put_size _ _ _).trans hg.size, fun t ht => ?_⟩ ?_
      · -- one less
        have hi' : i < listed.size := by rw [inv.size]; exact hlt
        have hsame : ∀ k, k ≠ i → ((listed.setIfInBounds i true).getD k true == false) = (listed.getD k true == false) := fun k hk => by rw [getD_set_ne true (fun e => hk e.symm)]
        have hnot : ((listed.setIfInBounds i true).getD i true == false) = false := by simp [hi']
        have h1' : (listed.getD i true == false) = true := by simpa using h1
        have hmem : i ∈ List.range n := List.mem_range.2 hin
        have hnd : (List.range n).Nodup := List.nodup_range
        clear ih hob hfin hsp hg hrdy
        have : ∀ L : List Nat, i ∈ L → L.Nodup → L.countP (fun k => (listed.setIfInBounds i true).getD k true == false) + 1 = L.countP (fun k => listed.getD k true == false) := by
          intro L
          induction L with
          | nil => intro h; cases h
          | cons x L ihL =>
            intro hm hd
            rw [List.countP_cons, List.countP_cons]
            rw [List.nodup_cons] at hd
            by_cases hx : x = i
            · subst hx
              have : L.countP (fun k => (listed.setIfInBounds x true).getD k true == false) = L.countP (fun k => listed.getD k true == false) := by
                apply List.countP_congr
                intro k hk
                rw [hsame k (fun e => hd.1 (e ▸ hk))]
              rw [this, if_neg (by rw [hnot]; decide), if_pos h1']
            · have h2 := ihL ((List.mem_cons.1 hm).resolve_left (fun e => hx e.symm)) hd.2
              rw [hsame x hx]
              omega
        have := this _ hmem hnd
        omega
      · rw [put_slot _ _ _ _ (fun e => ?_)]
        · exact hg.same t ht
        · have h2 := List.all_eq_true.1 ht i (List.mem_range.2 hin)
          simp only [bne_iff_ne] at h2
          exact h2 e
      · intro j d hl hd
        by_cases hji : j = i
        · subst hji
          rw [hd, put_self _ _ _ (by rw [hg.size]; exact hfit _ _ hd)]
          exact hv
        · have hl' : listed.getD j false = true := by rwa [getD_set_ne false (fun e => hji e.symm)] at hl
          have hjs : j < n := by
            rcases Nat.lt_or_ge j n with h | h
            · exact h
            · rcases Nat.lt_or_ge j ops.size with h4 | h4
              · have h3 := inv.tail j h h4
                rw [Array.getD_eq_getD_getElem?, Array.getElem?_eq_getElem (by rw [inv.size]; exact h4)] at hl' h3
                simp only [Option.getD_some] at hl' h3
                rw [hl'] at h3; cases h3
              · rw [Array.getD_eq_getD_getElem?, Array.getElem?_eq_none (by rw [inv.size]; omega)] at hl'; simp at hl'
          rw [put_slot _ _ _ _ (fun e => ?_)]
          · exact hst _ _ _ _ (hsp j d hl' hd) hgrow
          · rcases hb3 j hjs hji with h | h
            · rw [h] at e; cases e
            · exact h (e.trans hd.symm)
    have hdeps : ∀ i o, i < n → i ∈ Region.ready .any ops listed → ops[i]? = some o → ∀ j, j < n → depB ops i j = true → sp j (slotOf ops a j) w := by
      intro i o hin hi ho j hjn hj
      obtain ⟨h1, o', ho', hrdy⟩ := mem_ready.1 hi
      have hoo : o' = o := Option.some.inj (ho'.symm.trans ho)
      subst hoo
      obtain ⟨hb1, hb2, hb3⟩ := growQ_spec hB hin ho
      have hjd : ∃ d, dstOf ops j = some d := by
        unfold depB at hj
        rw [ho] at hj
        cases hd : dstOf ops j with
        | none => rw [hd] at hj; cases hj
        | some d => exact ⟨d, rfl⟩
      obtain ⟨d, hd⟩ := hjd
      have hjs : j < ops.size := by
        unfold dstOf at hd
        cases hoj : ops[j]? with
        | none => rw [hoj] at hd; cases hd
        | some oj => exact (Array.getElem?_eq_some_iff.1 hoj).1
      obtain ⟨e, he, hbd, hon⟩ := hb2 j hjn hj
      have hl := hrdy e he hbd
      rw [hon] at hl
      have := hsp j d hl hd
      unfold slotOf
      rw [hd]
      exact this
    rw [show c + 1 + m = (c + m) + 1 by omega]
    by_cases hne : ∃ k, k < n ∧ k ≠ e ∧ listed.getD k true = false
    · refine ⟨fun hr => ?_, fun i hi => ?_⟩
      · -- the least that has not come up may come up
        exfalso
        have key : ∀ d i, i ≤ d → i < n → listed.getD i true = false → ∃ k, k ∈ Region.ready .any ops listed := by
          intro d
          induction d using Nat.strongRecOn with
          | _ d ihd =>
            intro i hid hin hun
            have his : i < ops.size := by omega
            by_cases hall : ∀ e ∈ ops[i].after, Region.binds .any e = true → listed.getD e.on false = true
            · exact ⟨i, mem_ready.2 ⟨hun, ops[i], Array.getElem?_eq_getElem his, hall⟩⟩
            · obtain ⟨e, hall⟩ := Classical.not_forall.1 hall
              obtain ⟨he, hall⟩ := Classical.not_imp.1 hall
              obtain ⟨hb, hne⟩ := Classical.not_imp.1 hall
              have hlt := (growQ_spec hB hin (Array.getElem?_eq_getElem his)).1 e he hb
              have hun2 : listed.getD e.on true = false := getD_in (by rw [inv.size]; omega) (by simpa using hne)
              exact ihd e.on (by omega) e.on (Nat.le_refl _) (by omega) hun2
        obtain ⟨i, hi, hun⟩ := hex
        obtain ⟨k, hk⟩ := key i i (Nat.le_refl _) hi hun
        rw [hr] at hk; cases hk
      · obtain ⟨h1, o, ho, hrdy⟩ := mem_ready.1 hi
        have hin : i < n := by
          rcases Nat.lt_or_ge i n with h | h
          · exact h
          · exact absurd hi (headE_waits hh inv hne i h)
        refine wpOp_mono (fun a' w' hK => ?_) (hob i hin a w hg (hdeps i o hin hi ho))
        obtain ⟨v, rfl, hv, hgrow⟩ := hK
        exact hstep i o v w' hin hi ho hv hgrow
    · have hune : listed.getD e true = false := by
        obtain ⟨i, hi, hun⟩ := hex
        rcases Classical.em (i = e) with h | h
        · exact h ▸ hun
        · exact absurd ⟨i, hi, h, hun⟩ hne
      have hle : listed = eCanon ops n e := eCanon_of inv.size (fun i hi hie _ => by
        cases hl : listed.getD i true with
        | true => rfl
        | false => exact absurd ⟨i, hi, hie, hl⟩ hne) (fun i h1 h2 => inv.tail i h1 h2) hune
      have hre : e ∈ Region.ready .any ops listed := by rw [hle]; simpa using hrdye
      refine wpAny_take hoe hsel (by rw [hle]; exact hfree) (by rw [hle]; exact hrdye) hpan (hye a w (hdeps e oe hen hre hoe)) ?_
      have := hstep e oe ve w hen hre hoe (hve w) (Below.refl _ _)
      unfold dstOf at this
      rw [hoe] at this
      exact this
end
theorem wp_region_headE {P : Program} {ops : Array Oper} {Q : Exit → Act → World → Prop} {a0 : Act} {id : Nat} {w : World} (n m e : Nat) (hen : e < n) (ve : Value) (oe : Oper) (hoe : ops[e]? = some oe) (hm : P.follows .mixedOrders = true) (l : List Sp) (hB : growQ ops n = true) (hfit : slotFitB ops a0.tmps.size = true)
    (hh : headE ops n e = true) (hn : n < ops.size) (hsz : n + m = ops.size)
    (hsel : Region.noSelect ops = true) (hpan : ∀ c a w, Q (.panic c) (a.put oe.dst ve) w → Q (.panic c) a w) (hfree : Region.free .any ops (eCanon ops n e) e = true) (hrdye : (Region.ready .any ops (eCanon ops n e)).contains e = true)
    (hye : ∀ a w, (∀ j, j < n → depB ops e j = true → spOf l j (slotOf ops a j) w) → Yields P ops oe ve a) (hve : ∀ w, spOf l e ve w)
    (hob : ∀ i, i < n → ObligN P ops n Q a0 w.drew (spOf l) i)
    (hfin : ∀ a w', GrowCtxN ops n a0 w.drew a w' → (∀ j d, j < n → dstOf ops j = some d → spOf l j (a.tmps[d]?.getD undef) w') → wpAny P .any ops Q m (canon ops n) a w') :
    (Code.region id ops true).wp P Q a0 w := by
  refine wp_region_any hm ?_
  have hrep : ∀ i, i < ops.size → (Array.replicate ops.size false).getD i true = false := fun i hi => getD_in (by simpa using hi) (getD_replicate_false _ _)
  have inv0 : HeadInv .any ops n (Array.replicate ops.size false) :=
    ⟨by simp, fun j oj _ hl => (by rw [getD_replicate_false] at hl; cases hl), fun t _ ht => hrep t ht⟩
  have hcnt : (List.range n).countP (fun i => (Array.replicate ops.size false).getD i true == false) = n := by
    have : (List.range n).countP (fun i => (Array.replicate ops.size false).getD i true == false) = (List.range n).length := by
      apply List.countP_eq_length.2
      intro i hi
      rw [hrep i (by have := List.mem_range.1 hi; omega)]; rfl
    rw [this, List.length_range]
  have H := wpAny_growQ_head (P := P) (Q := Q) (a0 := a0) (w0 := w.drew) (sp := spOf l) e hen ve oe hoe hB (fit_of hfit) (spOf_st l) hh hn hsel hpan hfree hrdye hye hve hob m hfin n _ a0 w.drew inv0 hcnt ⟨Below.refl _ _, rfl, rfl, fun _ _ => rfl⟩ (fun j d hl _ => by rw [getD_replicate_false] at hl; cases hl)
  rw [hsz] at H
  exact H
end Go.Proofs.Ytmcjefdnkcpghaa
