/- WHICH BLOCKS STAND: 'Kept S w w'': the blocks in S are as they were. Append of a text; append at a step of a region that draws. -/
import Derived.Test.YtnfpmobmfcgfnaaMem
import Derived.Lib.AppendStr
import Derived.Lib.BufferWrite
import Derived.OneCell
namespace Go.Proofs.Ytnfpmobmfcgfnaa
open Go.RowKit
/-- the blocks in S are as they were; the streams too; no block has gone -/
structure Kept (S : Nat → Prop) (w w' : World) : Prop where
  os : w'.os = w.os
  tape : w'.tape = w.tape
  output : w'.output = w.output
  size : w.heap.size ≤ w'.heap.size
  block : ∀ k, k < w.heap.size → S k → w'.heap[k]? = w.heap[k]?
section
variable {S S' : Nat → Prop} {w w' w'' : World} {B base : Nat} {v : Value} {l : List UInt8}
theorem Kept.refl (S : Nat → Prop) (w : World) : Kept S w w := ⟨rfl, rfl, rfl, Nat.le_refl _, fun _ _ _ => rfl⟩
theorem Kept.trans (h : Kept S w w') (k : Kept S' w' w'') (hs : ∀ b, b < w.heap.size → S b → S' b) : Kept S w w'' :=
  ⟨k.os.trans h.os, k.tape.trans h.tape, k.output.trans h.output, Nat.le_trans h.size k.size,
    fun b hb hS => (k.block b (Nat.lt_of_lt_of_le hb h.size) (hs b hb hS)).trans (h.block b hb hS)⟩
theorem Kept.mono (h : Kept S w w') (hs : ∀ b, b < w.heap.size → S' b → S b) : Kept S' w w' := ⟨h.os, h.tape, h.output, h.size, fun b hb hS => h.block b hb (hs b hb hS)⟩
theorem Kept.ofBelow (h : Below w.heap.size w w') : Kept S w w' := ⟨h.os, h.tape, h.output, h.size, fun b hb _ => h.block b hb⟩
theorem Kept.ofBelow' (h : Below B w w') (hB : ∀ b, b < w.heap.size → S b → b < B) : Kept S w w' := ⟨h.os, h.tape, h.output, h.size, fun b hb hS => h.block b (hB b hb hS)⟩
theorem Kept.toBelow (h : Kept S w w') (hB : B ≤ w.heap.size) (hs : ∀ b, b < B → S b) : Below B w w' := ⟨h.os, h.tape, h.output, h.size, fun b hb => h.block b (by omega) (hs b hb)⟩
theorem Kept.drew (h : Kept S w w') : Kept S w w'.drew := ⟨h.os, h.tape, h.output, h.size, h.block⟩
theorem Kept.alloc (h : Kept S w w') (o : Obj) : Kept S w (w'.alloc o) :=
  ⟨h.os, h.tape, h.output, Nat.le_trans h.size (by simp), fun b hb hS => (Below.heap_alloc _ _ _ (Nat.lt_of_lt_of_le hb h.size)).trans (h.block b hb hS)⟩
theorem Kept.setCell (h : Kept S w w') (p : Addr) (u : Value) (hp : p.block < w.heap.size → ¬ S p.block) : Kept S w (w'.setCell p u) :=
  ⟨h.os, h.tape, h.output, Nat.le_trans h.size (by simp [World.setCell]), fun b hb hS => (Below.heap_setCell _ _ _ _ (fun e => hp (e ▸ hb) (e ▸ hS))).trans (h.block b hb hS)⟩
theorem Kept.grown {row : Option Nat} (h : Kept S w w') (hg : w'.grownBy w'' row) (hr : ∀ k, row = some k → k < w.heap.size → ¬ S k) : Kept S w w'' :=
  ⟨hg.os.trans h.os, hg.tape.trans h.tape, hg.output.trans h.output, Nat.le_trans h.size hg.size,
    fun b hb hS => (hg.block b (Nat.lt_of_lt_of_le hb h.size) (fun e => hr b e.symm hb hS)).trans (h.block b hb hS)⟩
theorem Kept.heap {g : Nat} {o : Obj} (h : Kept S w w') (hg : w.heap[g]? = some o) (hS : S g) : w'.heap[g]? = some o := (h.block g (lt_of_block hg) hS).trans hg
theorem Kept.cell {p : Addr} (h : Kept S w w') (hp : p.block < w.heap.size) (hS : S p.block) : w'.cell? p = w.cell? p := World.cell?_of_block (w := w) (h.block p.block hp hS)
theorem Own.kept (ho : Own w base v l) (h : Kept S w w') (hs : ∀ g, v.ownBlock = some g → S g) : Own w' base v l := by
  obtain ⟨h1, h2⟩ := ho
  refine ⟨h1, ?_⟩
  rcases h2 with h2 | ⟨g, cap, cur, rfl, hb', hg, r⟩
  · exact .inl h2
  · exact .inr ⟨g, cap, cur, rfl, hb', h.heap hg (hs g rfl), r⟩
theorem Byt.kept (ho : Byt w B v l) (h : Kept S w w') (hB : B ≤ w.heap.size) (hs : ∀ b, b < B → S b) : Byt w' B v l := ho.below (h.toBelow hB hs)
theorem Own.setOther (ho : Own w base v l) {p : Addr} (hp : v.ownBlock ≠ some p.block) (u : Value) : Own (w.setCell p u) base v l := ownsRow_setCell_other ho hp u
/-- an owned row of bytes lies in a block of bytes -/
theorem Own.kind (ho : Own w base v l) : ∀ g, v.ownBlock = some g → ∃ cs, w.heap[g]? = some (.cells cs 5 (0, 0)) := by
  intro g hg
  rcases ho.2 with ⟨rfl, _⟩ | ⟨g', cap, cur, rfl, _, hgg, _⟩
  · simp [Value.ownBlock] at hg
  · simp [Value.ownBlock] at hg; subst hg; exact ⟨cur, hgg⟩
theorem Own.apart {g : Nat} {cs : Array Value} {t : TypeId} {fr : Nat × Nat} (ho : Own w base v l) (hg : w.heap[g]? = some (.cells cs t fr)) (ht : t ≠ 5) : v.ownBlock ≠ some g := by
  intro e
  obtain ⟨c, hc⟩ := ho.kind g e
  rw [hg] at hc
  cases hc
  exact ht rfl
end
theorem Try.underString : Try.prog.underlying 9 = some .string := Try.underlying9
/-- append of a text's bytes, onto a row of the call's own -/
theorem run_append_str (w : World) (base : Nat) (ty : TypeId) (v : Value) (l : List UInt8) (hown : Own w base v l) (s : ByteArray)
    (hbytes : l.length + s.size ≤ 140737488355328) (hbase : base ≤ w.heap.size) :
    ∃ v' w', (Builtin.append_ #[59, 9] ty #[v, .string s]).run Try.prog w = .ok v' w' ∧ Own w' base v' (l ++ s.data.toList) ∧ w.grownBy w' v.ownBlock ∧ (v'.ownBlock = v.ownBlock ∨ v'.ownBlock = none ∨ v'.ownBlock = some w.heap.size) := by
  obtain ⟨i, hi, hz, hs, hby⟩ := info_parts Try.byteInfo
  have h63 : l.length + s.size ≤ maxLen := by simp only [maxLen]; omega
  obtain ⟨v', w', hrun, h2, h3, h4⟩ := Lib.run_append_own_string (P := Try.prog) w base 59 9 ty 5 i Try.underlying59 Try.underlying9 hi hz hs hby v l.length (l.map bV) hown s h63 hbytes hbase
  refine ⟨v', w', hrun, ?_, h3, ?_⟩
  · unfold Own
    rw [List.length_append, List.map_append]
    exact h2
  · rcases hown.2 with ⟨rfl, hn⟩ | ⟨g, cap, cur, rfl, hbg, hg, hnc, hcm, hcs, htake⟩
    · by_cases hm : s.size = 0
      · rw [h4.2 ⟨rfl, hm⟩]; exact .inl rfl
      · have hr := run_append_nil_string (P := Try.prog) w 59 9 ty 5 i (.int .u8 0) Try.underlying59 Try.underlying9 hi hz s (by omega) (by unfold maxLen at h63; omega) (by rw [hby]; omega)
        rw [hr] at hrun
        injection hrun with e1 e2
        subst e1
        exact .inr (.inr rfl)
    · by_cases hroom : l.length + s.size ≤ cap
      · have hr := Lib.run_append_room_string (P := Try.prog) w 59 9 ty 5 i Try.underlying59 Try.underlying9 hi hs g l.length cap cur hg s hroom (by omega)
        rw [hr] at hrun
        injection hrun with e1 e2
        subst e1
        exact .inl rfl
      · have holds : ∀ j u, (l.map bV)[j]? = some u → w.cell? ((⟨g, 0, none⟩ : Addr).add j) = some u := hown.cells (g := g) rfl
        have hr := Lib.run_append_grow_string (P := Try.prog) w 59 9 ty 5 i (.int .u8 0) Try.underlying59 Try.underlying9 hi hz ⟨g, 0, none⟩ l.length cap (l.map bV) (by rw [hs]; simp) holds s (by omega) (by unfold maxLen at h63; omega) (by rw [hby]; exact growslice_fits (by omega) (by omega))
        rw [hr] at hrun
        injection hrun with e1 e2
        subst e1
        exact .inr (.inr rfl)
theorem wpList_append_str (w : World) {ops : Array Oper} {rest : List Oper} {o : Oper} {a : Act} {Q : Exit → Act → World → Prop} (hgd : o.guard = none) (s x : Operand)
    (ho : o.op = .call { callee := .builtin .append, args := #[s, x], argTypes := #[59, 9] })
    (base : Nat) (v : Value) (l : List UInt8) (hs : a.eval s = v) (hown : Own w base v l) (m : ByteArray) (hx : a.eval x = .string m)
    (hbytes : l.length + m.size ≤ 140737488355328) (hbase : base ≤ w.heap.size)
    (h : ∀ v' w', Own w' base v' (l ++ m.data.toList) → w.grownBy w' v.ownBlock → (v'.ownBlock = v.ownBlock ∨ v'.ownBlock = none ∨ v'.ownBlock = some w.heap.size) → wpList Try.prog ops Q rest (a.put o.dst v') w') :
    wpList Try.prog ops Q (o :: rest) a w := by
  refine wpList_plain hgd fun K hK => ?_
  obtain ⟨v', w', hrun, h2, h3, h4⟩ := run_append_str w base o.type v l hown m hbytes hbase
  unfold Oper.wp execOp
  simp only [ho, resolve, invoke, builtin, Sem.run_bind, Sem.run_pure, Result.andThen_ok, List.map_toArray, List.map_cons, List.map_nil, hs, hx, hrun]
  exact hK _ _ (h v' w' h2 h3 h4)
/-- append at a step of a region that draws its order -/
theorem step_append_byt (w : World) {ops : Array Oper} {o : Oper} {a : Act} {K : Act → World → Prop} {Q : Exit → Act → World → Prop} {E : Prop} (hgd : o.guard = none) (s x : Operand)
    (ho : o.op = .call { callee := .builtin .append, args := #[s, x], argTypes := #[59, 59] })
    (base : Nat) (v : Value) (l : List UInt8) (hs : a.eval s = v) (hown : Own w base v l)
    (B : Nat) (y : Value) (m : List UInt8) (hx : a.eval x = y) (hy : Byt w B y m)
    (hbytes : l.length + m.length ≤ 140737488355328) (hbase : base ≤ w.heap.size)
    (h : ∀ v' w', Own w' base v' (l ++ m) → w.grownBy w' v.ownBlock → (v'.ownBlock = v.ownBlock ∨ v'.ownBlock = some w.heap.size) → K (a.put o.dst v') w') :
    if Region.wanted o (yielded ops a.tmps) = true then Oper.wp Try.prog o a w K Q else E := by
  have hw : Region.wanted o (yielded ops a.tmps) = true := by simp [Region.wanted, hgd]
  rw [if_pos hw]
  obtain ⟨v', w', hrun, h2, h3, h4⟩ := run_append_byt w base o.type v l m hown B y hy hbytes hbase
  unfold Oper.wp execOp
  simp only [ho, resolve, invoke, builtin, Sem.run_bind, Sem.run_pure, Result.andThen_ok, List.map_toArray, List.map_cons, List.map_nil, hs, hx, hrun]
  exact h v' w' h2 h3 h4
/-- a slice of one byte, laid in a new block -/
theorem byt_one (w : World) (n : Int) (b : UInt8) (hb : n = (b.toNat : Int)) : Byt (w.alloc (.cells #[.int .u8 n] 5)) (w.heap.size + 1) (.slice (some ⟨w.heap.size, 0, none⟩) 1 1) [b] := by
  subst hb
  have := (own_lit w [b] (by simp [maxLen])).byt
  simpa [bV] using this
end Go.Proofs.Ytnfpmobmfcgfnaa
