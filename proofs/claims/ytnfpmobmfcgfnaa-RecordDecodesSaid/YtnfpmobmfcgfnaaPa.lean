/- MEMORY WORDS: a slice of bytes that reads as a list; a row of bytes that the call owns; what keeps them. -/
import Derived.WalkKit
import Derived.WalkSpells
import Derived.WalkLawsBesides
import Derived.Lib.Hide
import Derived.Laws.OwnMore
import Derived.Laws.BytesArg
import Derived.Maps.AppendAt
import Derived.Test.YtnfpmobmfcgfnaaRows
import Derived.ProofKit
import Derived.OpenShut
import Derived.ShutString
import Derived.ChangeOld
import Derived.Below
import Derived.Lib.AppendStr
import Derived.Lib.BufferWrite
import Derived.OneCell
import Derived.DeepKeys
import Derived.Deep.DeepCutAuto
import Derived.Lib.SliceRun
namespace Go.Proofs.Ytnfpmobmfcgfnaa
open Go.RowKit
theorem ret_int {k : IntKind} {a b : Int} (h : a = b) : Ending.returned (.int k a) = .returned (.int k b) := by rw [h]
theorem ret_bool {a b : Bool} (h : a = b) : Ending.returned (.bool a) = .returned (.bool b) := by rw [h]
theorem addr_add_block (a : Addr) (n : Nat) : (a.add n).block = a.block := by unfold Addr.add; split <;> rfl
theorem addr_add_add (a : Addr) (i j : Nat) : (a.add i).add j = a.add (i + j) := by
 unfold Addr.add
 by_cases hi : i = 0 <;> by_cases hj : j = 0 <;> simp [hi, hj, Nat.add_assoc]
theorem addr_mk_add (b o j : Nat) : (⟨b, o, none⟩ : Addr).add j = ⟨b, o + j, none⟩ := by unfold Addr.add; split <;> simp_all

/-- a byte as a value -/
def bV (b : UInt8) : Value := .int .u8 (b.toNat : Int)
theorem bsV_one (l : List UInt8) : ∀ u ∈ l.map bV, u.oneCell' = true := by
 intro u hu
 obtain ⟨b, _, rfl⟩ := List.mem_map.1 hu
 rfl

/-- the slice v reads as the bytes l, in blocks below B -/
def Byt (w : World) (B : Nat) (v : Value) (l : List UInt8) : Prop :=
 ∃ (A : Option Addr) (c : Nat), v = .slice A l.length c ∧ l.length ≤ c ∧ c ≤ maxLen ∧
  (0 < l.length → ∃ ad : Addr, A = some ad ∧ ad.block < B ∧ ∀ (j : Nat) (x : UInt8), l[j]? = some x → w.cell? (ad.add j) = some (bV x))
section
variable {w w' : World} {B B' : Nat} {v : Value} {l : List UInt8}
theorem Byt.keep (h : Byt w B v l) (hk : ∀ p : Addr, p.block < B → w'.cell? p = w.cell? p) : Byt w' B v l := by
 obtain ⟨A, c, hv, hc, hm, hr⟩ := h
 refine ⟨A, c, hv, hc, hm, fun h0 => ?_⟩
 obtain ⟨ad, hA, hb, hx⟩ := hr h0
 exact ⟨ad, hA, hb, fun j x hj => (hk _ (by rw [addr_add_block]; exact hb)).trans (hx j x hj)⟩
theorem Byt.more (h : Byt w B v l) (hB : B ≤ B') : Byt w B' v l := by
 obtain ⟨A, c, hv, hc, hm, hr⟩ := h
 refine ⟨A, c, hv, hc, hm, fun h0 => ?_⟩
 obtain ⟨ad, hA, hb, hx⟩ := hr h0
 exact ⟨ad, hA, by omega, hx⟩
/-- whatever bound: a cell that is there lies in the heap -/
theorem Byt.heap (h : Byt w B v l) : Byt w w.heap.size v l := by
 obtain ⟨A, c, hv, hc, hm, hr⟩ := h
 refine ⟨A, c, hv, hc, hm, fun h0 => ?_⟩
 obtain ⟨ad, hA, hb, hx⟩ := hr h0
 refine ⟨ad, hA, ?_, hx⟩
 have := World.block_lt_of_cell? w _ (hx 0 _ (List.getElem?_eq_getElem h0))
 rwa [addr_add_block] at this
theorem Byt.below (h : Byt w B v l) (hb : Below B w w') : Byt w' B v l := h.keep fun _ hp => hb.cell hp
theorem Byt.drew (h : Byt w B v l) : Byt w.drew B v l := h
theorem Byt.alloc (h : Byt w B v l) (hB : B ≤ w.heap.size) (o : Obj) : Byt (w.alloc o) B v l := h.keep fun p hp => World.cell?_alloc_lt w o p (by omega)
theorem Byt.setCell (h : Byt w B v l) {p : Addr} (hB : B ≤ p.block) (u : Value) : Byt (w.setCell p u) B v l :=
 h.keep fun q hq => World.cell?_setCell_other w p q u (fun e => by subst e; omega)
theorem Byt.grown (h : Byt w B v l) {row : Option Nat} (hg : w.grownBy w' row) (hB : B ≤ w.heap.size) (hr : ∀ g, row = some g → B ≤ g) : Byt w' B v l :=
 h.keep fun p hp => World.cell?_of_block (hg.block p.block (by omega) (fun e => by have := hr _ e.symm; omega))
theorem Byt.nil_ (w : World) (B : Nat) : Byt w B (.slice none 0 0) [] := ⟨none, 0, rfl, Nat.le_refl _, by simp [maxLen], fun h => absurd h (by simp)⟩
end
/-- a row of bytes that the call owns -/
def Own (w : World) (base : Nat) (v : Value) (l : List UInt8) : Prop := w.ownsRow base 5 1 v l.length (l.map bV)
section
variable {w w' : World} {base base' B : Nat} {v : Value} {l : List UInt8}
theorem Own.byt (h : Own w base v l) : Byt w w.heap.size v l := by
 obtain ⟨h1, h2⟩ := h
 have hsl : (w.ownsRow base 5 1 v l.length (l.map bV)) := ⟨h1, h2⟩
 rcases h2 with ⟨rfl, hn⟩ | ⟨g, cap, cur, rfl, hb, hg, hc, hm, hs, ht⟩
 ·have : l = [] := List.eq_nil_of_length_eq_zero hn
  subst this
  exact Byt.nil_ _ _
 ·refine ⟨_, cap, rfl, hc, hm, fun h0 => ⟨⟨g, 0, none⟩, rfl, (Array.getElem?_eq_some_iff.1 hg).1, fun j x hj => ?_⟩⟩
  exact hsl.cells (g := g) rfl j (bV x) (by rw [List.getElem?_map, hj]; rfl)
theorem Own.more (h : Own w base v l) (hb : base' ≤ base) : Own w base' v l := by
 obtain ⟨h1, h2⟩ := h
 refine ⟨h1, ?_⟩
 rcases h2 with h2 | ⟨g, cap, cur, rfl, hb', r⟩
 ·exact .inl h2
 ·exact .inr ⟨g, cap, cur, rfl, by omega, r⟩
theorem Own.nil_ (w : World) (base : Nat) : Own w base (.slice none 0 0) [] := World.ownsRow_nil w base 5 1
theorem Own.below (h : Own w base v l) (hb : Below w.heap.size w w') : Own w' base v l := by
 obtain ⟨h1, h2⟩ := h
 refine ⟨h1, ?_⟩
 rcases h2 with h2 | ⟨g, cap, cur, rfl, hb', hg, r⟩
 ·exact .inl h2
 ·exact .inr ⟨g, cap, cur, rfl, hb', by rw [hb.block g (Array.getElem?_eq_some_iff.1 hg).1]; exact hg, r⟩
theorem Own.drew (h : Own w base v l) : Own w.drew base v l := h
theorem Own.alloc (h : Own w base v l) (o : Obj) : Own (w.alloc o) base v l := World.ownsRow.alloc h o
end
/-- a block of bytes that a literal made -/
theorem own_lit (w : World) (l : List UInt8) (hl : l.length ≤ maxLen) : Own (w.alloc (.cells (l.map bV).toArray 5)) w.heap.size (.slice (some ⟨w.heap.size, 0, none⟩) l.length l.length) l := by
 have := World.ownsRow_lit (w := w) (e := 5) (size := 1) (base := w.heap.size) (l.map bV).toArray l.length (Nat.le_refl _) hl (by simp)
 exact this
theorem Try.byteInfo : (Try.prog.info? 5).map (fun i => (i.zero, i.size, i.bytes)) = some (some (.int .u8 0), 1, 1) := by kernel_rfl

theorem run_append_nothing (w : World) (t ty e : TypeId) (i : TypeInfo) (size base : Nat) (ht : Try.prog.underlying t = some (.slice e)) (hi : Try.prog.info? e = some i)
  (v : Value) (n : Nat) (xs : List Value) (hown : w.ownsRow base e size v n xs) (A : Option Addr) (c : Nat) : (Builtin.append_ #[t, t] ty #[v, .slice A 0 c]).run Try.prog w = .ok v w := by
 rcases hown.2 with ⟨rfl, rfl⟩ | ⟨g, cap, cur, rfl, _, _, hnc, _⟩
 ·cases A <;> simp [Builtin.append_, run_underlying ht, sizeOf, typeInfo, hi, Builtin.lenOf, Builtin.firstCells, loadCells, loadCellsFrom]
 ·cases A <;> simp [Builtin.append_, run_underlying ht, sizeOf, typeInfo, hi, Builtin.lenOf, Builtin.firstCells, hnc, storeCells, loadCells, loadCellsFrom]

/-- append of bytes that read as a list, onto a row of the call's own -/
theorem run_append_byt (w : World) (base : Nat) (ty : TypeId) (v : Value) (l m : List UInt8) (hown : Own w base v l) (B : Nat) (y : Value) (hy : Byt w B y m)
    (hbytes : l.length + m.length ≤ 140737488355328) (hbase : base ≤ w.heap.size) :
    ∃ v' w', (Builtin.append_ #[59, 59] ty #[v, y]).run Try.prog w = .ok v' w' ∧ Own w' base v' (l ++ m) ∧ w.grownBy w' v.ownBlock ∧ (v'.ownBlock = v.ownBlock ∨ v'.ownBlock = some w.heap.size) := by
  obtain ⟨i, hi, hz, hs, hby⟩ := info_parts Try.byteInfo
  obtain ⟨A, c, rfl, hc, hm, hr⟩ := hy
  by_cases h0 : 0 < m.length
  · obtain ⟨ad, rfl, hb, hx⟩ := hr h0
    obtain ⟨v', w', hrun, h2, h3, _, h5⟩ := run_append_own_at (P := Try.prog) w base 59 ty 5 i (.int .u8 0) 1 1 Try.underlying59 hi hz hs hby rfl (by decide) v l.length (l.map bV) hown ad m.length c (m.map bV) (by simp)
      (fun j u hu => by
        rw [List.getElem?_map] at hu
        cases hj : m[j]? with
        | none => rw [hj] at hu; cases hu
        | some x => rw [hj] at hu; cases hu; exact hx j x hj)
      (bsV_one m) (by simp only [maxLen]; omega) (by omega) hbase
    refine ⟨v', w', hrun, ?_, h3, h5⟩
    unfold Own
    rw [List.length_append, List.map_append]
    exact h2
  · have hm0 : m = [] := List.eq_nil_of_length_eq_zero (by omega)
    subst hm0
    refine ⟨v, w, run_append_nothing w 59 ty 5 i 1 base Try.underlying59 hi v _ _ hown A c, by simpa using hown, World.grownBy.refl w _, .inl rfl⟩

theorem wpList_append_byt (w : World) {ops : Array Oper} {rest : List Oper} {o : Oper} {a : Act} {Q : Exit → Act → World → Prop} (hgd : o.guard = none) (s x : Operand)
  (ho : o.op = .call { callee := .builtin .append, args := #[s, x], argTypes := #[59, 59] })
  (base : Nat) (v : Value) (l : List UInt8) (hs : a.eval s = v) (hown : Own w base v l)
  (B : Nat) (y : Value) (m : List UInt8) (hx : a.eval x = y) (hy : Byt w B y m)
  (hbytes : l.length + m.length ≤ 140737488355328) (hbase : base ≤ w.heap.size)
  (h : ∀ v' w', Own w' base v' (l ++ m) → w.grownBy w' v.ownBlock → (v'.ownBlock = v.ownBlock ∨ v'.ownBlock = some w.heap.size) → wpList Try.prog ops Q rest (a.put o.dst v') w') :
  wpList Try.prog ops Q (o :: rest) a w := by
 refine wpList_plain hgd fun K hK => ?_
 obtain ⟨v', w', hrun, h2, h3, h4⟩ := run_append_byt w base o.type v l m hown B y hy hbytes hbase
 unfold Oper.wp execOp
 simp only [ho, resolve, invoke, builtin, Sem.run_bind, Sem.run_pure, Result.andThen_ok, List.map_toArray, List.map_cons, List.map_nil, hs, hx, hrun]
 exact hK _ _ (h v' w' h2 h3 h4)

/-- bytes as a text -/
theorem Byt.str {w : World} {B : Nat} {v : Value} {l : List UInt8} (h : Byt w B v l) : (convert 59 9 v).run Try.prog w = .ok (.string ⟨l.toArray⟩) w := by
 obtain ⟨A, c, rfl, hc, hm, hr⟩ := h
 by_cases h0 : 0 < l.length
 ·obtain ⟨ad, rfl, hb, hx⟩ := hr h0
  rw [run_convert_bytes_string w 59 9 5 _ _ c Try.underlying59 Try.underlying5 Try.underlying9]
  have hl : (loadCells ad l.length).run Try.prog w = .ok ((l.map fun b => (b.toNat : Int)).map (Value.int .u8)).toArray w := by
   have := run_loadCells_list (P := Try.prog) w ad (l.map bV) (fun j u hu => by
    rw [List.getElem?_map] at hu
    cases hj : l[j]? with
    | none => rw [hj] at hu; cases hu
    | some x => rw [hj] at hu; cases hu; exact hx j x hj)
   rw [List.length_map] at this
   rw [List.map_map]
   exact this
  rw [run_bytesToString w ad _ c _ hl, foldl_push_bytes]
  have : ((fun n : Int => UInt8.ofNat n.toNat) ∘ fun b : UInt8 => (b.toNat : Int)) = id := by
   funext b
   simp
  rw [List.map_map, this, List.map_id, show ByteArray.empty.data = #[] from rfl, Array.empty_append]
 ·have hl0 : l = [] := List.eq_nil_of_length_eq_zero (by omega)
  subst hl0
  cases A with
  | none =>
   exact run_convert_bytes_nil w 59 5 Try.underlying59 Try.underlying5 _ _ 9 Try.underlying9
  | some ad =>
   rw [run_convert_bytes_string w 59 9 5 _ _ c Try.underlying59 Try.underlying5 Try.underlying9]
   have hl : (loadCells ad ([] : List UInt8).length).run Try.prog w = .ok (([] : List Int).map (Value.int .u8)).toArray w := by
    simp [loadCells, loadCellsFrom]
   rw [run_bytesToString w ad _ c [] hl]
   rfl
end Go.Proofs.Ytnfpmobmfcgfnaa

/- HOW A LAW'S ARGUMENTS ARE OPENED: numbers as natural numbers in their range, slices of bytes as lists. -/
namespace Go.Proofs.Ytnfpmobmfcgfnaa
open Go.ChangeShapes Go.WideShapes Go.ChangeAt Go.RowKit
theorem Try.own : ownKnob Try.prog.godebug = none := by kernel_rfl
theorem Try.laidOut : laidOutB Try.prog = true := by kernel_rfl
theorem nat_u8 {a : Int} (h : (Lit.int .u8 a).wf = true) : ∃ n : Nat, a = (n : Int) ∧ n < 256 := by
 have hmin : IntKind.u8.min = 0 := rfl
 have hmax : IntKind.u8.max = 255 := rfl
 simp only [Lit.wf, Bool.and_eq_true, decide_eq_true_eq] at h
 exact ⟨a.toNat, by omega, by omega⟩
theorem int_i64 {a : Int} (h : (Lit.int .i64 a).wf = true) : -9223372036854775808 ≤ a ∧ a ≤ 9223372036854775807 := by
 have hmin : IntKind.i64.min = -9223372036854775808 := rfl
 have hmax : IntKind.i64.max = 9223372036854775807 := rfl
 simp only [Lit.wf, Bool.and_eq_true, decide_eq_true_eq] at h
 omega
theorem Try.cells5 : Try.prog.cellsOf 5 = 1 := by kernel_rfl
set_option maxRecDepth 100000 in
/-- a slice of bytes that came in -/
theorem open_byt {H : Type} {enc : TypeId × Value → H} {W : World} {base' : Nat} {r : Reach} {v : Value} {d : DataW H} {p : List MemPlace}
  (hv : Value.okWide Try.prog W r base' 59 v) (h : DataW.Trod enc Try.prog W 0 (fun _ => true) true 59 v d p) : ∃ l, Byt W W.heap.size v l := by
 obtain ⟨a, len, cap, rfl⟩ := okWide_slice Try.underlying59 hv
 obtain ⟨fuel, hf⟩ := h
 rcases open_ints Try.underlying59 Try.underlying5 Try.cells5 hf with ⟨hcs, _⟩ | ⟨x, l, c, zs, hcs, _, hl, hm, hz, _, hcell, hwz⟩
 ·simp [Value.cells] at hcs
  obtain ⟨rfl, rfl, rfl⟩ := hcs
  exact ⟨[], Byt.nil_ _ _⟩
 ·simp [Value.cells] at hcs
  obtain ⟨rfl, rfl, rfl⟩ := hcs
  have hlen : len ≤ zs.length := by
   have : zs.length = cap := by simpa using hz
   omega
  refine ⟨(zs.take len).map fun z => UInt8.ofNat z.toNat, some x, cap, ?_, ?_, hm, ?_⟩
  ·rw [List.length_map, List.length_take, Nat.min_eq_left hlen]
  ·rw [List.length_map, List.length_take]; omega
  ·intro h0
   rw [List.length_map, List.length_take] at h0
   have key : ∀ (j : Nat) (y : UInt8), ((zs.take len).map fun z => UInt8.ofNat z.toNat)[j]? = some y → W.cell? (x.add j) = some (bV y) := by
    intro j y hj
    rw [List.getElem?_map] at hj
    cases hjz : (zs.take len)[j]? with
    | none => rw [hjz] at hj; cases hj
    | some z =>
     rw [hjz] at hj
     cases hj
     have hjl : j < (zs.take len).length := (List.getElem?_eq_some_iff.1 hjz).1
     rw [List.length_take] at hjl
     rw [List.getElem?_take, if_pos (by omega)] at hjz
     have hzm : z ∈ zs := List.mem_of_getElem? hjz
     have hw := hwz z hzm
     obtain ⟨n, rfl, hn⟩ := nat_u8 hw
     rw [hcell j (by omega)]
     simp [List.getD, hjz, bV]
     omega
   refine ⟨x, rfl, ?_, key⟩
   have := World.block_lt_of_cell? W _ (hcell 0 (by omega))
   rwa [addr_add_block] at this
end Go.Proofs.Ytnfpmobmfcgfnaa

/- WHICH BLOCKS STAND: 'Kept S w w'': the blocks in S are as they were. Append of a text; append at a step of a region that draws. -/
namespace Go.Proofs.Ytnfpmobmfcgfnaa
open Go.RowKit
/-- the blocks in S are as they were; the streams too; no block has gone -/
structure Kept (S : Nat → Prop) (w w' : World) : Prop where
 os : w'.os = w.os
 tape : w'.tape = w.tape
 output : w'.output = w.output
 size : w.heap.size ≤ w'.heap.size
 block : ∀ k, k < w.heap.size → S k → w'.heap[k]? = w.heap[k]?
section
variable {S S' : Nat → Prop} {w w' w'' : World} {B base : Nat} {v : Value} {l : List UInt8}
theorem Kept.refl (S : Nat → Prop) (w : World) : Kept S w w := ⟨rfl, rfl, rfl, Nat.le_refl _, fun _ _ _ => rfl⟩
theorem Kept.trans (h : Kept S w w') (k : Kept S' w' w'') (hs : ∀ b, b < w.heap.size → S b → S' b) : Kept S w w'' :=
 ⟨k.os.trans h.os, k.tape.trans h.tape, k.output.trans h.output, Nat.le_trans h.size k.size,
  fun b hb hS => (k.block b (Nat.lt_of_lt_of_le hb h.size) (hs b hb hS)).trans (h.block b hb hS)⟩
theorem Kept.mono (h : Kept S w w') (hs : ∀ b, b < w.heap.size → S' b → S b) : Kept S' w w' := ⟨h.os, h.tape, h.output, h.size, fun b hb hS => h.block b hb (hs b hb hS)⟩
theorem Kept.ofBelow (h : Below w.heap.size w w') : Kept S w w' := ⟨h.os, h.tape, h.output, h.size, fun b hb _ => h.block b hb⟩
theorem Kept.toBelow (h : Kept S w w') (hB : B ≤ w.heap.size) (hs : ∀ b, b < B → S b) : Below B w w' := ⟨h.os, h.tape, h.output, h.size, fun b hb => h.block b (by omega) (hs b hb)⟩
theorem Kept.drew (h : Kept S w w') : Kept S w w'.drew := ⟨h.os, h.tape, h.output, h.size, h.block⟩
theorem Kept.alloc (h : Kept S w w') (o : Obj) : Kept S w (w'.alloc o) :=
 ⟨h.os, h.tape, h.output, Nat.le_trans h.size (by simp), fun b hb hS => (Below.heap_alloc _ _ _ (Nat.lt_of_lt_of_le hb h.size)).trans (h.block b hb hS)⟩
theorem Kept.setCell (h : Kept S w w') (p : Addr) (u : Value) (hp : p.block < w.heap.size → ¬ S p.block) : Kept S w (w'.setCell p u) :=
 ⟨h.os, h.tape, h.output, Nat.le_trans h.size (by simp [World.setCell]), fun b hb hS => (Below.heap_setCell _ _ _ _ (fun e => hp (e ▸ hb) (e ▸ hS))).trans (h.block b hb hS)⟩
theorem Kept.grown {row : Option Nat} (h : Kept S w w') (hg : w'.grownBy w'' row) (hr : ∀ k, row = some k → k < w.heap.size → ¬ S k) : Kept S w w'' :=
 ⟨hg.os.trans h.os, hg.tape.trans h.tape, hg.output.trans h.output, Nat.le_trans h.size hg.size,
  fun b hb hS => (hg.block b (Nat.lt_of_lt_of_le hb h.size) (fun e => hr b e.symm hb hS)).trans (h.block b hb hS)⟩
theorem Kept.heap {g : Nat} {o : Obj} (h : Kept S w w') (hg : w.heap[g]? = some o) (hS : S g) : w'.heap[g]? = some o := (h.block g (lt_of_block hg) hS).trans hg
theorem Kept.cell {p : Addr} (h : Kept S w w') (hp : p.block < w.heap.size) (hS : S p.block) : w'.cell? p = w.cell? p := World.cell?_of_block (w := w) (h.block p.block hp hS)
theorem Own.kept (ho : Own w base v l) (h : Kept S w w') (hs : ∀ g, v.ownBlock = some g → S g) : Own w' base v l := by
 obtain ⟨h1, h2⟩ := ho
 refine ⟨h1, ?_⟩
 rcases h2 with h2 | ⟨g, cap, cur, rfl, hb', hg, r⟩
 ·exact .inl h2
 ·exact .inr ⟨g, cap, cur, rfl, hb', h.heap hg (hs g rfl), r⟩
theorem Byt.kept (ho : Byt w B v l) (h : Kept S w w') (hB : B ≤ w.heap.size) (hs : ∀ b, b < B → S b) : Byt w' B v l := ho.below (h.toBelow hB hs)
theorem Own.setOther (ho : Own w base v l) {p : Addr} (hp : v.ownBlock ≠ some p.block) (u : Value) : Own (w.setCell p u) base v l := ownsRow_setCell_other ho hp u
/-- an owned row of bytes lies in a block of bytes -/
theorem Own.kind (ho : Own w base v l) : ∀ g, v.ownBlock = some g → ∃ cs, w.heap[g]? = some (.cells cs 5 (0, 0)) := by
 intro g hg
 rcases ho.2 with ⟨rfl, _⟩ | ⟨g', cap, cur, rfl, _, hgg, _⟩
 ·simp [Value.ownBlock] at hg
 ·simp [Value.ownBlock] at hg; subst hg; exact ⟨cur, hgg⟩
theorem Own.apart {g : Nat} {cs : Array Value} {t : TypeId} {fr : Nat × Nat} (ho : Own w base v l) (hg : w.heap[g]? = some (.cells cs t fr)) (ht : t ≠ 5) : v.ownBlock ≠ some g := by
 intro e
 obtain ⟨c, hc⟩ := ho.kind g e
 rw [hg] at hc
 cases hc
 exact ht rfl
end
/-- append of a text's bytes, onto a row of the call's own -/
theorem run_append_str (w : World) (base : Nat) (ty : TypeId) (v : Value) (l : List UInt8) (hown : Own w base v l) (s : ByteArray)
  (hbytes : l.length + s.size ≤ 140737488355328) (hbase : base ≤ w.heap.size) :
  ∃ v' w', (Builtin.append_ #[59, 9] ty #[v, .string s]).run Try.prog w = .ok v' w' ∧ Own w' base v' (l ++ s.data.toList) ∧ w.grownBy w' v.ownBlock ∧ (v'.ownBlock = v.ownBlock ∨ v'.ownBlock = none ∨ v'.ownBlock = some w.heap.size) := by
 obtain ⟨i, hi, hz, hs, hby⟩ := info_parts Try.byteInfo
 have h63 : l.length + s.size ≤ maxLen := by simp only [maxLen]; omega
 obtain ⟨v', w', hrun, h2, h3, h4⟩ := Lib.run_append_own_string (P := Try.prog) w base 59 9 ty 5 i Try.underlying59 Try.underlying9 hi hz hs hby v l.length (l.map bV) hown s h63 hbytes hbase
 refine ⟨v', w', hrun, ?_, h3, ?_⟩
 ·unfold Own
  rw [List.length_append, List.map_append]
  exact h2
 ·rcases hown.2 with ⟨rfl, hn⟩ | ⟨g, cap, cur, rfl, hbg, hg, hnc, hcm, hcs, htake⟩
  ·by_cases hm : s.size = 0
   ·rw [h4.2 ⟨rfl, hm⟩]; exact .inl rfl
   ·have hr := run_append_nil_string (P := Try.prog) w 59 9 ty 5 i (.int .u8 0) Try.underlying59 Try.underlying9 hi hz s (by omega) (by unfold maxLen at h63; omega) (by rw [hby]; omega)
    rw [hr] at hrun
    injection hrun with e1 e2
    subst e1
    exact .inr (.inr rfl)
  ·by_cases hroom : l.length + s.size ≤ cap
   ·have hr := Lib.run_append_room_string (P := Try.prog) w 59 9 ty 5 i Try.underlying59 Try.underlying9 hi hs g l.length cap cur hg s hroom (by omega)
    rw [hr] at hrun
    injection hrun with e1 e2
    subst e1
    exact .inl rfl
   ·have holds : ∀ j u, (l.map bV)[j]? = some u → w.cell? ((⟨g, 0, none⟩ : Addr).add j) = some u := hown.cells (g := g) rfl
    have hr := Lib.run_append_grow_string (P := Try.prog) w 59 9 ty 5 i (.int .u8 0) Try.underlying59 Try.underlying9 hi hz ⟨g, 0, none⟩ l.length cap (l.map bV) (by rw [hs]; simp) holds s (by omega) (by unfold maxLen at h63; omega) (by rw [hby]; exact growslice_fits (by omega) (by omega))
    rw [hr] at hrun
    injection hrun with e1 e2
    subst e1
    exact .inr (.inr rfl)
theorem wpList_append_str (w : World) {ops : Array Oper} {rest : List Oper} {o : Oper} {a : Act} {Q : Exit → Act → World → Prop} (hgd : o.guard = none) (s x : Operand)
  (ho : o.op = .call { callee := .builtin .append, args := #[s, x], argTypes := #[59, 9] })
  (base : Nat) (v : Value) (l : List UInt8) (hs : a.eval s = v) (hown : Own w base v l) (m : ByteArray) (hx : a.eval x = .string m)
  (hbytes : l.length + m.size ≤ 140737488355328) (hbase : base ≤ w.heap.size)
  (h : ∀ v' w', Own w' base v' (l ++ m.data.toList) → w.grownBy w' v.ownBlock → (v'.ownBlock = v.ownBlock ∨ v'.ownBlock = none ∨ v'.ownBlock = some w.heap.size) → wpList Try.prog ops Q rest (a.put o.dst v') w') :
  wpList Try.prog ops Q (o :: rest) a w := by
 refine wpList_plain hgd fun K hK => ?_
 obtain ⟨v', w', hrun, h2, h3, h4⟩ := run_append_str w base o.type v l hown m hbytes hbase
 unfold Oper.wp execOp
 simp only [ho, resolve, invoke, builtin, Sem.run_bind, Sem.run_pure, Result.andThen_ok, List.map_toArray, List.map_cons, List.map_nil, hs, hx, hrun]
 exact hK _ _ (h v' w' h2 h3 h4)
/-- append at a step of a region that draws its order -/
theorem step_append_byt (w : World) {ops : Array Oper} {o : Oper} {a : Act} {K : Act → World → Prop} {Q : Exit → Act → World → Prop} {E : Prop} (hgd : o.guard = none) (s x : Operand)
  (ho : o.op = .call { callee := .builtin .append, args := #[s, x], argTypes := #[59, 59] })
  (base : Nat) (v : Value) (l : List UInt8) (hs : a.eval s = v) (hown : Own w base v l)
  (B : Nat) (y : Value) (m : List UInt8) (hx : a.eval x = y) (hy : Byt w B y m)
  (hbytes : l.length + m.length ≤ 140737488355328) (hbase : base ≤ w.heap.size)
  (h : ∀ v' w', Own w' base v' (l ++ m) → w.grownBy w' v.ownBlock → (v'.ownBlock = v.ownBlock ∨ v'.ownBlock = some w.heap.size) → K (a.put o.dst v') w') :
  if Region.wanted o (yielded ops a.tmps) = true then Oper.wp Try.prog o a w K Q else E := by
 have hw : Region.wanted o (yielded ops a.tmps) = true := by simp [Region.wanted, hgd]
 rw [if_pos hw]
 obtain ⟨v', w', hrun, h2, h3, h4⟩ := run_append_byt w base o.type v l m hown B y hy hbytes hbase
 unfold Oper.wp execOp
 simp only [ho, resolve, invoke, builtin, Sem.run_bind, Sem.run_pure, Result.andThen_ok, List.map_toArray, List.map_cons, List.map_nil, hs, hx, hrun]
 exact h v' w' h2 h3 h4
/-- a slice of one byte, laid in a new block -/
theorem byt_one (w : World) (n : Int) (b : UInt8) (hb : n = (b.toNat : Int)) : Byt (w.alloc (.cells #[.int .u8 n] 5)) (w.heap.size + 1) (.slice (some ⟨w.heap.size, 0, none⟩) 1 1) [b] := by
 subst hb
 have := (own_lit w [b] (by simp [maxLen])).byt
 simpa [bV] using this
end Go.Proofs.Ytnfpmobmfcgfnaa

/- LINES, DOCUMENTS AND COMMANDS AS DATA; A SLICE OF LINES. -/
namespace Go.Proofs.Ytnfpmobmfcgfnaa
open Go.RowKit
theorem cells_of {w : World} {b : Nat} {cs : Array Value} {t : TypeId} {fr : Nat × Nat} (h : w.heap[b]? = some (.cells cs t fr)) (i : Nat) (v : Value) (hi : cs[i]? = some v) : w.cell? ⟨b, i, none⟩ = some v := by
 simp [World.cell?, h, hi]
/-- an int -/
def I64 (n : Int) : Prop := -9223372036854775808 ≤ n ∧ n ≤ 9223372036854775807
structure Ln where
 sup : Int
 cat : Int
 fr : ByteArray
 tw : ByteArray
 pl : ByteArray
 am : Int
 gr : Bool
 co : Int
 mx : Bool
structure Ln.ok (o : Ln) : Prop where
 sup : I64 o.sup
 cat : I64 o.cat
 fr : o.fr.size ≤ maxLen
 tw : o.tw.size ≤ maxLen
 pl : o.pl.size ≤ maxLen
 am : I64 o.am
 co : I64 o.co
def Ln.vs (o : Ln) : Array Value := #[.int .i64 o.sup, .int .i64 o.cat, .string o.fr, .string o.tw, .string o.pl, .int .i64 o.am, .bool o.gr, .int .i64 o.co, .bool o.mx]
/-- a line at an address -/
structure LnAt (w : World) (p : Addr) (o : Ln) : Prop where
 c0 : w.cell? p = some (.int .i64 o.sup)
 c1 : w.cell? ⟨p.block, p.off + 1, none⟩ = some (.int .i64 o.cat)
 c2 : w.cell? ⟨p.block, p.off + 2, none⟩ = some (.string o.fr)
 c3 : w.cell? ⟨p.block, p.off + 3, none⟩ = some (.string o.tw)
 c4 : w.cell? ⟨p.block, p.off + 4, none⟩ = some (.string o.pl)
 c5 : w.cell? ⟨p.block, p.off + 5, none⟩ = some (.int .i64 o.am)
 c6 : w.cell? ⟨p.block, p.off + 6, none⟩ = some (.bool o.gr)
 c7 : w.cell? ⟨p.block, p.off + 7, none⟩ = some (.int .i64 o.co)
 c8 : w.cell? ⟨p.block, p.off + 8, none⟩ = some (.bool o.mx)
/-- a slice of lines, in blocks below B -/
def Lns (w : World) (B : Nat) (v : Value) (ls : List Ln) : Prop :=
 ∃ (A : Option Addr) (c : Nat), v = .slice A ls.length c ∧ ls.length ≤ c ∧ c ≤ maxLen ∧
  (0 < ls.length → ∃ ad : Addr, A = some ad ∧ ad.block < B ∧ ∀ (j : Nat) (o : Ln), ls[j]? = some o → o.ok ∧ LnAt w (ad.add (j * 9)) o)
section
variable {w w' : World} {B B' : Nat} {v : Value} {ls : List Ln}
theorem LnAt.keep {p : Addr} {o : Ln} (h : LnAt w p o) (hp : p.block < B) (hk : ∀ p : Addr, p.block < B → w'.cell? p = w.cell? p) : LnAt w' p o :=
 ⟨(hk _ hp).trans h.c0, (hk ⟨_, _, none⟩ hp).trans h.c1, (hk ⟨_, _, none⟩ hp).trans h.c2, (hk ⟨_, _, none⟩ hp).trans h.c3, (hk ⟨_, _, none⟩ hp).trans h.c4, (hk ⟨_, _, none⟩ hp).trans h.c5, (hk ⟨_, _, none⟩ hp).trans h.c6, (hk ⟨_, _, none⟩ hp).trans h.c7, (hk ⟨_, _, none⟩ hp).trans h.c8⟩
theorem Lns.keep (h : Lns w B v ls) (hk : ∀ p : Addr, p.block < B → w'.cell? p = w.cell? p) : Lns w' B v ls := by
 obtain ⟨A, c, hv, hc, hm, hr⟩ := h
 refine ⟨A, c, hv, hc, hm, fun h0 => ?_⟩
 obtain ⟨ad, hA, hb, hx⟩ := hr h0
 exact ⟨ad, hA, hb, fun j x hj => ⟨(hx j x hj).1, (hx j x hj).2.keep (by rw [addr_add_block]; exact hb) hk⟩⟩
theorem Lns.below (h : Lns w B v ls) (hb : Below B w w') : Lns w' B v ls := h.keep fun _ hp => hb.cell hp
theorem Lns.more (h : Lns w B v ls) (hB : B ≤ B') : Lns w B' v ls := by
 obtain ⟨A, c, hv, hc, hm, hr⟩ := h
 refine ⟨A, c, hv, hc, hm, fun h0 => ?_⟩
 obtain ⟨ad, hA, hb, hx⟩ := hr h0
 exact ⟨ad, hA, by omega, hx⟩
theorem Lns.heap (h : Lns w B v ls) : Lns w w.heap.size v ls := by
 obtain ⟨A, c, hv, hc, hm, hr⟩ := h
 refine ⟨A, c, hv, hc, hm, fun h0 => ?_⟩
 obtain ⟨ad, hA, hb, hx⟩ := hr h0
 refine ⟨ad, hA, ?_, hx⟩
 have := World.block_lt_of_cell? w _ (hx 0 _ (List.getElem?_eq_getElem h0)).2.c0
 rwa [addr_add_block] at this
theorem Lns.form (h : Lns w B v ls) : ∃ A c, v = .slice A ls.length c ∧ ls.length ≤ c ∧ c ≤ 9223372036854775807 := by
 obtain ⟨A, c, hv, hc, hm, _⟩ := h
 unfold maxLen at hm
 exact ⟨A, c, hv, hc, by omega⟩
theorem Lns.ok (h : Lns w B v ls) : ∀ o ∈ ls, o.ok := by
 obtain ⟨A, c, hv, hc, hm, hr⟩ := h
 intro o ho
 obtain ⟨j, hj, rfl⟩ := List.getElem_of_mem ho
 obtain ⟨ad, _, _, hx⟩ := hr (by omega)
 exact (hx j _ (List.getElem?_eq_getElem hj)).1
/-- the k-th of them -/
theorem Lns.at_ (h : Lns w B v ls) (k : Nat) (hk : k < ls.length) : ∃ ad c, v = .slice (some ad) ls.length c ∧ ad.block < B ∧ ls[k].ok ∧ LnAt w (ad.add (k * 9)) ls[k] := by
 obtain ⟨A, c, hv, hc, hm, hr⟩ := h
 obtain ⟨ad, rfl, hb, hx⟩ := hr (by omega)
 exact ⟨ad, c, hv, hb, hx k _ (List.getElem?_eq_getElem hk)⟩
theorem Lns.nil_ (w : World) (B : Nat) : Lns w B (.slice none 0 0) [] := ⟨none, 0, rfl, Nat.le_refl _, by simp [maxLen], fun h => absurd h (by simp)⟩
end
/-- a document -/
structure Dm where
 id : ByteArray
 sale : Bool
 cred : Bool
 ref : ByteArray
 day : Int
 cty : ByteArray
 num : ByteArray
 cur : ByteArray
 ls : List Ln
structure Dm.ok (o : Dm) : Prop where
 id : o.id.size ≤ maxLen
 ref : o.ref.size ≤ maxLen
 day : I64 o.day
 cty : o.cty.size ≤ maxLen
 num : o.num.size ≤ maxLen
 cur : o.cur.size ≤ maxLen
 ls : ∀ l ∈ o.ls, l.ok
def Dm.vs (o : Dm) (lv : Value) : Array Value := #[.string o.id, .bool o.sale, .bool o.cred, .string o.ref, .int .i64 o.day, .string o.cty, .string o.num, .string o.cur, lv]
/-- the value of a document -/
def DmV (w : World) (B : Nat) (v : Value) (o : Dm) : Prop := ∃ lv, v = .agg (o.vs lv) ∧ Lns w B lv o.ls ∧ o.ok
/-- a command -/
structure Cm where
 kind : Int
 cty : ByteArray
 txt : ByteArray
 cat : Int
 bp : Int
 day : Int
 til : Int
 nm : Int
 dn : Int
 ix : Int
 pk : Int
 py : Int
 px : Int
 doc : Dm
structure Cm.ok (o : Cm) : Prop where
 kind : I64 o.kind
 cty : o.cty.size ≤ maxLen
 txt : o.txt.size ≤ maxLen
 cat : I64 o.cat
 bp : I64 o.bp
 day : I64 o.day
 til : I64 o.til
 nm : I64 o.nm
 dn : I64 o.dn
 ix : I64 o.ix
 pk : I64 o.pk
 py : I64 o.py
 px : I64 o.px
 doc : o.doc.ok
def Cm.vs (o : Cm) (lv : Value) : Array Value := #[.int .i64 o.kind, .string o.cty, .string o.txt, .int .i64 o.cat, .int .i64 o.bp, .int .i64 o.day, .int .i64 o.til, .int .i64 o.nm, .int .i64 o.dn, .int .i64 o.ix, .int .i64 o.pk, .int .i64 o.py, .int .i64 o.px,
 .string o.doc.id, .bool o.doc.sale, .bool o.doc.cred, .string o.doc.ref, .int .i64 o.doc.day, .string o.doc.cty, .string o.doc.num, .string o.doc.cur, lv]
def CmV (w : World) (B : Nat) (v : Value) (o : Cm) : Prop := ∃ lv, v = .agg (o.vs lv) ∧ Lns w B lv o.doc.ls ∧ o.ok
section
variable {w w' : World} {B B' : Nat} {v : Value} {o : Dm} {c : Cm}
theorem DmV.below (h : DmV w B v o) (hb : Below B w w') : DmV w' B v o := by obtain ⟨lv, e, h1, h2⟩ := h; exact ⟨lv, e, h1.below hb, h2⟩
theorem DmV.more (h : DmV w B v o) (hB : B ≤ B') : DmV w B' v o := by obtain ⟨lv, e, h1, h2⟩ := h; exact ⟨lv, e, h1.more hB, h2⟩
theorem CmV.below (h : CmV w B v c) (hb : Below B w w') : CmV w' B v c := by obtain ⟨lv, e, h1, h2⟩ := h; exact ⟨lv, e, h1.below hb, h2⟩
theorem CmV.more (h : CmV w B v c) (hB : B ≤ B') : CmV w B' v c := by obtain ⟨lv, e, h1, h2⟩ := h; exact ⟨lv, e, h1.more hB, h2⟩
end
def Ln.zero : Ln := ⟨0, 0, ⟨#[]⟩, ⟨#[]⟩, ⟨#[]⟩, 0, false, 0, false⟩
def Dm.zero : Dm := ⟨⟨#[]⟩, false, false, ⟨#[]⟩, 0, ⟨#[]⟩, ⟨#[]⟩, ⟨#[]⟩, []⟩
def Cm.zero : Cm := ⟨0, ⟨#[]⟩, ⟨#[]⟩, 0, 0, 0, 0, 0, 0, 0, 0, 0, 0, Dm.zero⟩
theorem i64_zero : I64 0 := ⟨by decide, by decide⟩
theorem len_zero : (⟨#[]⟩ : ByteArray).size ≤ maxLen := Nat.zero_le _
theorem Dm.zero_ok : Dm.zero.ok := ⟨len_zero, len_zero, i64_zero, len_zero, len_zero, len_zero, fun l h => by cases h⟩
theorem Cm.zero_ok : Cm.zero.ok := ⟨i64_zero, len_zero, len_zero, i64_zero, i64_zero, i64_zero, i64_zero, i64_zero, i64_zero, i64_zero, i64_zero, i64_zero, i64_zero, Dm.zero_ok⟩
end Go.Proofs.Ytnfpmobmfcgfnaa

/- SLICES WHOSE ELEMENTS LIE IN ONE CELL, of any kind: read as lists; rows of the call's own; append. -/
namespace Go.Proofs.Ytnfpmobmfcgfnaa
open Go.RowKit
/-- a kind of element: its type, how it lies in a cell -/
structure Kd (α : Type) where
 E : TypeId
 enc : α → Value
 z : Value
 bytes : Nat
 one : ∀ x, (enc x).oneCell' = true
 info : (Try.prog.info? E).map (fun i => (i.zero, i.size, i.bytes)) = some (some z, 1, bytes)
 zs : z.cells.size = 1
def strK : Kd ByteArray := ⟨9, .string, .string ⟨#[]⟩, 16, fun _ => rfl, by kernel_rfl, rfl⟩
/-- the slice v reads as the list l, in blocks below B -/
def Sl {α : Type} (K : Kd α) (w : World) (B : Nat) (v : Value) (l : List α) : Prop :=
 ∃ (A : Option Addr) (c : Nat), v = .slice A l.length c ∧ l.length ≤ c ∧ c ≤ maxLen ∧
  (0 < l.length → ∃ ad : Addr, A = some ad ∧ ad.block < B ∧ ∀ (j : Nat) (x : α), l[j]? = some x → w.cell? (ad.add j) = some (K.enc x))
section
variable {α : Type} {K : Kd α} {w w' : World} {B B' : Nat} {v : Value} {l m : List α}
theorem Sl.keep (h : Sl K w B v l) (hk : ∀ p : Addr, p.block < B → w'.cell? p = w.cell? p) : Sl K w' B v l := by
 obtain ⟨A, c, hv, hc, hm, hr⟩ := h
 refine ⟨A, c, hv, hc, hm, fun h0 => ?_⟩
 obtain ⟨ad, hA, hb, hx⟩ := hr h0
 exact ⟨ad, hA, hb, fun j x hj => (hk _ (by rw [addr_add_block]; exact hb)).trans (hx j x hj)⟩
theorem Sl.more (h : Sl K w B v l) (hB : B ≤ B') : Sl K w B' v l := by
 obtain ⟨A, c, hv, hc, hm, hr⟩ := h
 refine ⟨A, c, hv, hc, hm, fun h0 => ?_⟩
 obtain ⟨ad, hA, hb, hx⟩ := hr h0
 exact ⟨ad, hA, by omega, hx⟩
theorem Sl.heap (h : Sl K w B v l) : Sl K w w.heap.size v l := by
 obtain ⟨A, c, hv, hc, hm, hr⟩ := h
 refine ⟨A, c, hv, hc, hm, fun h0 => ?_⟩
 obtain ⟨ad, hA, hb, hx⟩ := hr h0
 refine ⟨ad, hA, ?_, hx⟩
 have := World.block_lt_of_cell? w _ (hx 0 _ (List.getElem?_eq_getElem h0))
 rwa [addr_add_block] at this
theorem Sl.below (h : Sl K w B v l) (hb : Below B w w') : Sl K w' B v l := h.keep fun _ hp => hb.cell hp
theorem Sl.drew (h : Sl K w B v l) : Sl K w.drew B v l := h
theorem Sl.alloc (h : Sl K w B v l) (hB : B ≤ w.heap.size) (o : Obj) : Sl K (w.alloc o) B v l := h.keep fun p hp => World.cell?_alloc_lt w o p (by omega)
theorem Sl.grown (h : Sl K w B v l) {row : Option Nat} (hg : w.grownBy w' row) (hB : B ≤ w.heap.size) (hr : ∀ g, row = some g → B ≤ g) : Sl K w' B v l :=
 h.keep fun p hp => World.cell?_of_block (hg.block p.block (by omega) (fun e => by have := hr _ e.symm; omega))
theorem Sl.nil_ (K : Kd α) (w : World) (B : Nat) : Sl K w B (.slice none 0 0) [] := ⟨none, 0, rfl, Nat.le_refl _, by simp [maxLen], fun h => absurd h (by simp)⟩
/-- element k, as the walk asks for it -/
theorem Sl.at_ (h : Sl K w B v l) (k : Nat) (hk : k < l.length) : ∃ (ad : Addr) (c : Nat), v = .slice (some ad) l.length c ∧ l.length ≤ c ∧ c ≤ maxLen ∧ ad.block < B ∧ w.cell? (ad.add k) = some (K.enc l[k]) := by
 obtain ⟨A, c, rfl, hc, hm, hr⟩ := h
 obtain ⟨ad, rfl, hb, hx⟩ := hr (by omega)
 exact ⟨ad, c, rfl, hc, hm, hb, hx k _ (List.getElem?_eq_getElem hk)⟩
/-- a row of the call's own -/
def Ow {α : Type} (K : Kd α) (w : World) (base : Nat) (v : Value) (l : List α) : Prop := w.ownsRow base K.E 1 v l.length (l.map K.enc)
variable {base base' : Nat} {ad' : Addr} {n' c' : Nat}
theorem Ow.sl (h : Ow K w base v l) : Sl K w w.heap.size v l := by
 obtain ⟨h1, h2⟩ := h
 have hsl : (w.ownsRow base K.E 1 v l.length (l.map K.enc)) := ⟨h1, h2⟩
 rcases h2 with ⟨rfl, hn⟩ | ⟨g, cap, cur, rfl, hb, hg, hc, hm, hs, ht⟩
 ·have : l = [] := List.eq_nil_of_length_eq_zero hn
  subst this
  exact Sl.nil_ _ _ _
 ·refine ⟨_, cap, rfl, hc, hm, fun h0 => ⟨⟨g, 0, none⟩, rfl, (Array.getElem?_eq_some_iff.1 hg).1, fun j x hj => ?_⟩⟩
  exact hsl.cells (g := g) rfl j (K.enc x) (by rw [List.getElem?_map, hj]; rfl)
theorem Ow.more (h : Ow K w base v l) (hb : base' ≤ base) : Ow K w base' v l := by
 obtain ⟨h1, h2⟩ := h
 refine ⟨h1, ?_⟩
 rcases h2 with h2 | ⟨g, cap, cur, rfl, hb', r⟩
 ·exact .inl h2
 ·exact .inr ⟨g, cap, cur, rfl, by omega, r⟩
theorem Ow.nil_ (K : Kd α) (w : World) (base : Nat) : Ow K w base (.slice none 0 0) [] := World.ownsRow_nil w base K.E 1
theorem Ow.below (h : Ow K w base v l) (hb : Below w.heap.size w w') : Ow K w' base v l := by
 obtain ⟨h1, h2⟩ := h
 refine ⟨h1, ?_⟩
 rcases h2 with h2 | ⟨g, cap, cur, rfl, hb', hg, r⟩
 ·exact .inl h2
 ·exact .inr ⟨g, cap, cur, rfl, hb', by rw [hb.block g (Array.getElem?_eq_some_iff.1 hg).1]; exact hg, r⟩
theorem Ow.drew (h : Ow K w base v l) : Ow K w.drew base v l := h
theorem Ow.alloc (h : Ow K w base v l) (o : Obj) : Ow K (w.alloc o) base v l := World.ownsRow.alloc h o
/-- a block that a literal made -/
theorem ow_lit (K : Kd α) (w : World) (l : List α) (hl : l.length ≤ maxLen) : Ow K (w.alloc (.cells (l.map K.enc).toArray K.E)) w.heap.size (.slice (some ⟨w.heap.size, 0, none⟩) l.length l.length) l := by
 have := World.ownsRow_lit (w := w) (e := K.E) (size := 1) (base := w.heap.size) (l.map K.enc).toArray l.length (Nat.le_refl _) hl (by simp)
 exact this
/-- append of elements that read as a list, onto a row of the call's own -/
theorem run_append_sl (K : Kd α) (w : World) (base : Nat) (T ty : TypeId) (hT : Try.prog.underlying T = some (.slice K.E)) (v : Value) (l m : List α) (hown : Ow K w base v l) (B : Nat) (y : Value) (hy : Sl K w B y m)
    (hlen : l.length + m.length ≤ 1000000000) (hby : K.bytes ≤ 4096) (hbase : base ≤ w.heap.size) :
    ∃ v' w', (Builtin.append_ #[T, T] ty #[v, y]).run Try.prog w = .ok v' w' ∧ Ow K w' base v' (l ++ m) ∧ w.grownBy w' v.ownBlock ∧ (v'.ownBlock = v.ownBlock ∨ v'.ownBlock = some w.heap.size) := by
  obtain ⟨i, hi, hz, hs, hb⟩ := info_parts K.info
  obtain ⟨A, c, rfl, hc, hm, hr⟩ := hy
  by_cases h0 : 0 < m.length
  · obtain ⟨ad, rfl, hbl, hx⟩ := hr h0
    obtain ⟨v', w', hrun, h2, h3, _, h5⟩ := run_append_own_at (P := Try.prog) w base T ty K.E i K.z 1 K.bytes hT hi hz hs hb K.zs (by decide) v l.length (l.map K.enc) hown ad m.length c (m.map K.enc) (by simp)
      (fun j u hu => by
        rw [List.getElem?_map] at hu
        cases hj : m[j]? with
        | none => rw [hj] at hu; cases hu
        | some x => rw [hj] at hu; cases hu; exact hx j x hj)
      (fun u hu => by
        obtain ⟨x, _, rfl⟩ := List.mem_map.1 hu
        exact K.one x) (by simp only [maxLen]; omega)
      (Nat.le_trans (Nat.mul_le_mul_left _ hby) (by omega)) hbase
    refine ⟨v', w', hrun, ?_, h3, h5⟩
    unfold Ow
    rw [List.length_append, List.map_append]
    exact h2
  · have hm0 : m = [] := List.eq_nil_of_length_eq_zero (by omega)
    subst hm0
    refine ⟨v, w, run_append_nothing w T ty K.E i 1 base hT hi v _ _ hown A c, by simpa using hown, World.grownBy.refl w _, .inl rfl⟩
theorem wpList_append_sl (K : Kd α) (w : World) {ops : Array Oper} {rest : List Oper} {o : Oper} {a : Act} {Q : Exit → Act → World → Prop} (hgd : o.guard = none) (s x : Operand) (T : TypeId)
  (ho : o.op = .call { callee := .builtin .append, args := #[s, x], argTypes := #[T, T] }) (hT : Try.prog.underlying T = some (.slice K.E))
  (base : Nat) (v : Value) (l : List α) (hs : a.eval s = v) (hown : Ow K w base v l)
  (B : Nat) (y : Value) (m : List α) (hx : a.eval x = y) (hy : Sl K w B y m)
  (hlen : l.length + m.length ≤ 1000000000) (hby : K.bytes ≤ 4096) (hbase : base ≤ w.heap.size)
  (h : ∀ v' w', Ow K w' base v' (l ++ m) → w.grownBy w' v.ownBlock → (v'.ownBlock = v.ownBlock ∨ v'.ownBlock = some w.heap.size) → wpList Try.prog ops Q rest (a.put o.dst v') w') :
  wpList Try.prog ops Q (o :: rest) a w := by
 refine wpList_plain hgd fun Kk hK => ?_
 obtain ⟨v', w', hrun, h2, h3, h4⟩ := run_append_sl K w base T o.type hT v l m hown B y hy hlen hby hbase
 unfold Oper.wp execOp
 simp only [ho, resolve, invoke, builtin, Sem.run_bind, Sem.run_pure, Result.andThen_ok, List.map_toArray, List.map_cons, List.map_nil, hs, hx, hrun]
 exact hK _ _ (h v' w' h2 h3 h4)
/-- a store into a row of the call's own -/
theorem Ow.set (h : Ow K w base (.slice (some ad') n' c') l) (i : Nat) (x : α) : Ow K (w.setCell (ad'.add i) (K.enc x)) base (.slice (some ad') n' c') (l.set i x) := by
 obtain ⟨_, h2⟩ := h
 refine ⟨by simp, ?_⟩
 rcases h2 with ⟨h2, _⟩ | ⟨g, cap, cur, he, hb, hg, hc, hm, hs, ht⟩
 ·cases h2
 ·cases he
  refine .inr ⟨g, _, cur.setIfInBounds i (K.enc x), by rw [List.length_set], hb, ?_, by rw [List.length_set]; exact hc, hm, by simpa using hs, ?_⟩
  ·have := Lib.heap_setCell_same (i := i) hg (K.enc x)
   rw [addr_mk_add, Nat.zero_add]
   exact this
  ·rw [List.length_set, List.map_set, ← ht]
   simp [List.take_set]
/-- a slice of one element, laid in a new block -/
theorem sl_one (K : Kd α) (w : World) (x : α) : Sl K (w.alloc (.cells #[K.enc x] K.E)) (w.heap.size + 1) (.slice (some ⟨w.heap.size, 0, none⟩) 1 1) [x] := by
 have := (ow_lit K w [x] (by simp [maxLen])).sl
 simpa using this
end
end Go.Proofs.Ytnfpmobmfcgfnaa

/- SLICES WHOSE ELEMENTS LIE IN SEVERAL CELLS: read as lists; rows of the call's own; append. Lines, and documents. -/
namespace Go.Proofs.Ytnfpmobmfcgfnaa
open Go.RowKit
/-- a kind of element of several cells -/
structure Ke (α : Type) where
 E : TypeId
 enc : α → List Value
 z : Value
 size : Nat
 bytes : Nat
 len : ∀ x, (enc x).length = size
 one : ∀ x, ∀ u ∈ enc x, u.oneCell' = true
 info : (Try.prog.info? E).map (fun i => (i.zero, i.size, i.bytes)) = some (some z, size, bytes)
 zs : z.cells.size = size
 pos : 0 < size
def Ke.flat {α : Type} (K : Ke α) (l : List α) : List Value := l.flatMap K.enc
theorem Ke.flat_len {α : Type} (K : Ke α) (l : List α) : (K.flat l).length = l.length * K.size := by
 unfold Ke.flat
 induction l with
 | nil => simp
 | cons x r ih => rw [List.flatMap_cons, List.length_append, ih, K.len, List.length_cons, Nat.succ_mul, Nat.add_comm]
theorem Ke.flat_get {α : Type} (K : Ke α) : ∀ (l : List α) (k j : Nat) (x : α), l[k]? = some x → j < K.size → (K.flat l)[k * K.size + j]? = (K.enc x)[j]? := by
 intro l
 unfold Ke.flat
 induction l with
 | nil => intro k j x h; simp at h
 | cons y r ih =>
  intro k j x h hj
  rw [List.flatMap_cons]
  cases k with
  | zero =>
   simp only [List.getElem?_cons_zero, Option.some.injEq] at h
   subst h
   rw [List.getElem?_append_left (by rw [K.len]; omega)]
   congr 1; omega
  | succ k =>
   rw [List.getElem?_append_right (by rw [K.len, Nat.succ_mul]; omega), K.len, ← ih k j x (by simpa using h) hj]
   congr 1
   rw [Nat.succ_mul]; omega
theorem Ke.flat_app {α : Type} (K : Ke α) (l m : List α) : K.flat (l ++ m) = K.flat l ++ K.flat m := List.flatMap_append
theorem Ke.flat_one {α : Type} (K : Ke α) (x : α) : K.flat [x] = K.enc x := by simp [Ke.flat]
def SlN {α : Type} (K : Ke α) (w : World) (B : Nat) (v : Value) (l : List α) : Prop :=
 ∃ (A : Option Addr) (c : Nat), v = .slice A l.length c ∧ l.length ≤ c ∧ c ≤ maxLen ∧
  (0 < l.length → ∃ ad : Addr, A = some ad ∧ ad.block < B ∧ ∀ (j : Nat) (u : Value), (K.flat l)[j]? = some u → w.cell? (ad.add j) = some u)
def OwN {α : Type} (K : Ke α) (w : World) (base : Nat) (v : Value) (l : List α) : Prop := w.ownsRow base K.E K.size v l.length (K.flat l)
section
variable {α : Type} {K : Ke α} {w w' : World} {B B' base base' : Nat} {v : Value} {l m : List α} {S : Nat → Prop}
theorem SlN.keep (h : SlN K w B v l) (hk : ∀ p : Addr, p.block < B → w'.cell? p = w.cell? p) : SlN K w' B v l := by
 obtain ⟨A, c, hv, hc, hm, hr⟩ := h
 refine ⟨A, c, hv, hc, hm, fun h0 => ?_⟩
 obtain ⟨ad, hA, hb, hx⟩ := hr h0
 exact ⟨ad, hA, hb, fun j x hj => (hk _ (by rw [addr_add_block]; exact hb)).trans (hx j x hj)⟩
theorem SlN.below (h : SlN K w B v l) (hb : Below B w w') : SlN K w' B v l := h.keep fun _ hp => hb.cell hp
theorem SlN.more (h : SlN K w B v l) (hB : B ≤ B') : SlN K w B' v l := by
 obtain ⟨A, c, hv, hc, hm, hr⟩ := h
 refine ⟨A, c, hv, hc, hm, fun h0 => ?_⟩
 obtain ⟨ad, hA, hb, hx⟩ := hr h0
 exact ⟨ad, hA, by omega, hx⟩
theorem SlN.nil_ (K : Ke α) (w : World) (B : Nat) : SlN K w B (.slice none 0 0) [] := ⟨none, 0, rfl, Nat.le_refl _, by simp [maxLen], fun h => absurd h (by simp)⟩
theorem SlN.form (h : SlN K w B v l) : ∃ A c, v = .slice A l.length c ∧ l.length ≤ c ∧ c ≤ 9223372036854775807 := by
 obtain ⟨A, c, hv, hc, hm, _⟩ := h
 unfold maxLen at hm
 exact ⟨A, c, hv, hc, by omega⟩
/-- a cell of element k -/
theorem SlN.at_ (h : SlN K w B v l) (k : Nat) (hk : k < l.length) : ∃ ad c, v = .slice (some ad) l.length c ∧ ad.block < B ∧ ∀ j u, (K.enc l[k])[j]? = some u → w.cell? ((ad.add (k * K.size)).add j) = some u := by
 obtain ⟨A, c, hv, hc, hm, hr⟩ := h
 obtain ⟨ad, rfl, hb, hx⟩ := hr (by omega)
 refine ⟨ad, c, hv, hb, fun j u hu => ?_⟩
 rw [addr_add_add]
 refine hx _ u ?_
 rw [K.flat_get l k j _ (List.getElem?_eq_getElem hk) (by have := (List.getElem?_eq_some_iff.1 hu).1; rwa [K.len] at this)]
 exact hu
theorem OwN.sl (h : OwN K w base v l) : SlN K w w.heap.size v l := by
 obtain ⟨h1, h2⟩ := h
 have hsl : (w.ownsRow base K.E K.size v l.length (K.flat l)) := ⟨h1, h2⟩
 rcases h2 with ⟨rfl, hn⟩ | ⟨g, cap, cur, rfl, hb, hg, hc, hm, hs, ht⟩
 ·have : l = [] := List.eq_nil_of_length_eq_zero hn
  subst this
  exact SlN.nil_ _ _ _
 ·exact ⟨_, cap, rfl, hc, hm, fun h0 => ⟨⟨g, 0, none⟩, rfl, (Array.getElem?_eq_some_iff.1 hg).1, fun j u hj => hsl.cells (g := g) rfl j u hj⟩⟩
theorem OwN.more (h : OwN K w base v l) (hb : base' ≤ base) : OwN K w base' v l := by
 obtain ⟨h1, h2⟩ := h
 refine ⟨h1, ?_⟩
 rcases h2 with h2 | ⟨g, cap, cur, rfl, hb', r⟩
 ·exact .inl h2
 ·exact .inr ⟨g, cap, cur, rfl, by omega, r⟩
theorem OwN.nil_ (K : Ke α) (w : World) (base : Nat) : OwN K w base (.slice none 0 0) [] := World.ownsRow_nil w base K.E K.size
theorem OwN.below (h : OwN K w base v l) (hb : Below w.heap.size w w') : OwN K w' base v l := by
 obtain ⟨h1, h2⟩ := h
 refine ⟨h1, ?_⟩
 rcases h2 with h2 | ⟨g, cap, cur, rfl, hb', hg, r⟩
 ·exact .inl h2
 ·exact .inr ⟨g, cap, cur, rfl, hb', by rw [hb.block g (Array.getElem?_eq_some_iff.1 hg).1]; exact hg, r⟩
theorem OwN.alloc (h : OwN K w base v l) (o : Obj) : OwN K (w.alloc o) base v l := World.ownsRow.alloc h o
theorem OwN.kept (h : OwN K w base v l) (k : Kept S w w') (hs : ∀ g, v.ownBlock = some g → S g) : OwN K w' base v l := by
 obtain ⟨h1, h2⟩ := h
 refine ⟨h1, ?_⟩
 rcases h2 with h2 | ⟨g, cap, cur, rfl, hb', hg, r⟩
 ·exact .inl h2
 ·exact .inr ⟨g, cap, cur, rfl, hb', k.heap hg (hs g rfl), r⟩
theorem OwN.lt (h : OwN K w base v l) : ∀ k, v.ownBlock = some k → base ≤ k ∧ k < w.heap.size := World.ownsRow.lt h
theorem OwN.kind (h : OwN K w base v l) : ∀ g, v.ownBlock = some g → ∃ cs, w.heap[g]? = some (.cells cs K.E (0, 0)) := by
 intro g hg
 rcases h.2 with ⟨rfl, _⟩ | ⟨g', cap, cur, rfl, _, hh, _⟩
 ·simp [Value.ownBlock] at hg
 ·simp [Value.ownBlock] at hg; subst hg; exact ⟨cur, hh⟩
/-- an empty row that a literal made -/
theorem owN_lit (K : Ke α) (w : World) (l : List α) (hl : l.length ≤ maxLen) : OwN K (w.alloc (.cells (K.flat l).toArray K.E)) w.heap.size (.slice (some ⟨w.heap.size, 0, none⟩) l.length l.length) l := by
 refine ⟨K.flat_len l, .inr ⟨w.heap.size, _, _, rfl, Nat.le_refl _, heap_alloc_new w _, Nat.le_refl _, hl, by simp [K.flat_len], ?_⟩⟩
 rw [List.take_of_length_le (by simp [K.flat_len])]
theorem run_append_slN (K : Ke α) (w : World) (base : Nat) (T ty : TypeId) (hT : Try.prog.underlying T = some (.slice K.E)) (v : Value) (l m : List α) (hown : OwN K w base v l) (B : Nat) (y : Value) (hy : SlN K w B y m)
    (hlen : l.length + m.length ≤ 1000000000) (hby : K.bytes ≤ 4096) (hbase : base ≤ w.heap.size) :
    ∃ v' w', (Builtin.append_ #[T, T] ty #[v, y]).run Try.prog w = .ok v' w' ∧ OwN K w' base v' (l ++ m) ∧ w.grownBy w' v.ownBlock ∧ (v'.ownBlock = v.ownBlock ∨ v'.ownBlock = some w.heap.size) := by
  obtain ⟨i, hi, hz, hs, hb⟩ := info_parts K.info
  obtain ⟨A, c, rfl, hc, hm, hr⟩ := hy
  by_cases h0 : 0 < m.length
  · obtain ⟨ad, rfl, hbl, hx⟩ := hr h0
    obtain ⟨v', w', hrun, h2, h3, _, h5⟩ := run_append_own_at (P := Try.prog) w base T ty K.E i K.z K.size K.bytes hT hi hz hs hb K.zs K.pos v l.length (K.flat l) hown ad m.length c (K.flat m) (K.flat_len m)
      hx
      (fun u hu => by
        obtain ⟨x, _, hx⟩ := List.mem_flatMap.1 hu
        exact K.one x u hx) (by simp only [maxLen]; omega)
      (Nat.le_trans (Nat.mul_le_mul_left _ hby) (by omega)) hbase
    refine ⟨v', w', hrun, ?_, h3, h5⟩
    unfold OwN
    rw [List.length_append, K.flat_app]
    exact h2
  · have hm0 : m = [] := List.eq_nil_of_length_eq_zero (by omega)
    subst hm0
    refine ⟨v, w, run_append_nothing w T ty K.E i K.size base hT hi v _ _ hown A c, by simpa using hown, World.grownBy.refl w _, .inl rfl⟩
theorem wpList_append_slN (K : Ke α) (w : World) {ops : Array Oper} {rest : List Oper} {o : Oper} {a : Act} {Q : Exit → Act → World → Prop} (hgd : o.guard = none) (s x : Operand) (T : TypeId)
  (ho : o.op = .call { callee := .builtin .append, args := #[s, x], argTypes := #[T, T] }) (hT : Try.prog.underlying T = some (.slice K.E))
  (base : Nat) (v : Value) (l : List α) (hs : a.eval s = v) (hown : OwN K w base v l)
  (B : Nat) (y : Value) (m : List α) (hx : a.eval x = y) (hy : SlN K w B y m)
  (hlen : l.length + m.length ≤ 1000000000) (hby : K.bytes ≤ 4096) (hbase : base ≤ w.heap.size)
  (h : ∀ v' w', OwN K w' base v' (l ++ m) → w.grownBy w' v.ownBlock → (v'.ownBlock = v.ownBlock ∨ v'.ownBlock = some w.heap.size) → wpList Try.prog ops Q rest (a.put o.dst v') w') :
  wpList Try.prog ops Q (o :: rest) a w := by
 refine wpList_plain hgd fun Kk hK => ?_
 obtain ⟨v', w', hrun, h2, h3, h4⟩ := run_append_slN K w base T o.type hT v l m hown B y hy hlen hby hbase
 unfold Oper.wp execOp
 simp only [ho, resolve, invoke, builtin, Sem.run_bind, Sem.run_pure, Result.andThen_ok, List.map_toArray, List.map_cons, List.map_nil, hs, hx, hrun]
 exact hK _ _ (h v' w' h2 h3 h4)
end
/-- lines as elements -/
def lnK : Ke Ln := ⟨55, fun o => o.vs.toList, .agg Ln.zero.vs, 9, 96, fun _ => rfl, fun o u hu => by
 simp only [Ln.vs, List.mem_cons, List.not_mem_nil, or_false] at hu
 rcases hu with rfl | rfl | rfl | rfl | rfl | rfl | rfl | rfl | rfl <;> rfl, by kernel_rfl, rfl, by decide⟩
theorem LnAt.flat {w : World} {p : Addr} {o : Ln} (h : LnAt w p o) : ∀ j u, o.vs.toList[j]? = some u → w.cell? (p.add j) = some u := by
 intro j u hu
 have e : ∀ j, j ≠ 0 → p.add j = ⟨p.block, p.off + j, none⟩ := fun j hj => by
  unfold Addr.add; rw [if_neg hj]
 match j, hu with
 | 0, hu => cases hu; simpa [Addr.add] using h.c0
 | 1, hu => cases hu; rw [e 1 (by decide)]; exact h.c1
 | 2, hu => cases hu; rw [e 2 (by decide)]; exact h.c2
 | 3, hu => cases hu; rw [e 3 (by decide)]; exact h.c3
 | 4, hu => cases hu; rw [e 4 (by decide)]; exact h.c4
 | 5, hu => cases hu; rw [e 5 (by decide)]; exact h.c5
 | 6, hu => cases hu; rw [e 6 (by decide)]; exact h.c6
 | 7, hu => cases hu; rw [e 7 (by decide)]; exact h.c7
 | 8, hu => cases hu; rw [e 8 (by decide)]; exact h.c8
 | n + 9, hu => simp [Ln.vs] at hu
theorem LnAt.of {w : World} {p : Addr} {o : Ln} (h : ∀ j u, o.vs.toList[j]? = some u → w.cell? (p.add j) = some u) : LnAt w p o := by
 have e : ∀ j, j ≠ 0 → p.add j = ⟨p.block, p.off + j, none⟩ := fun j hj => by
  unfold Addr.add; rw [if_neg hj]
 have h0 := h 0 _ rfl
 have h1 := h 1 _ rfl
 have h2 := h 2 _ rfl
 have h3 := h 3 _ rfl
 have h4 := h 4 _ rfl
 have h5 := h 5 _ rfl
 have h6 := h 6 _ rfl
 have h7 := h 7 _ rfl
 have h8 := h 8 _ rfl
 rw [e 1 (by decide)] at h1
 rw [e 2 (by decide)] at h2
 rw [e 3 (by decide)] at h3
 rw [e 4 (by decide)] at h4
 rw [e 5 (by decide)] at h5
 rw [e 6 (by decide)] at h6
 rw [e 7 (by decide)] at h7
 rw [e 8 (by decide)] at h8
 exact ⟨by simpa [Addr.add] using h0, h1, h2, h3, h4, h5, h6, h7, h8⟩
end Go.Proofs.Ytnfpmobmfcgfnaa

/- TWO STRUCTS ARE COMPARED: lines, periods, arrays of texts and of ints. -/
namespace Go.Proofs.Ytnfpmobmfcgfnaa
open Go.RowKit
theorem eq_deep {t : TypeId} {m : Nat} (hm : m ≤ 10000) (hk : Try.prog.keyTypeAt m t = true) {D D' : Nat} {X Y : Array Value} {LX LY : List Lit} (fX : (Value.agg X).formed Try.prog t = true) (fY : (Value.agg Y).formed Try.prog t = true)
  (hX : Try.prog.keyLits D t X.toList = some LX) (hY : Try.prog.keyLits D' t Y.toList = some LY) (w : World) : ∃ r : Bool, (Op.equalIn 10000 t (.agg X) (.agg Y)).run Try.prog w = .ok r w ∧ (r = true ↔ LX = LY) := by
 have := run_equalIn_deep (P := Try.prog) (10000 - m) m t hk w D D' (.agg X) (.agg Y) LX LY fX fY hX hY
 rwa [Nat.sub_add_cancel hm] at this
theorem eql_deep {t : TypeId} {m : Nat} (hm : m ≤ 10000) (hk : Try.prog.keyTypeAt m t = true) {D D' : Nat} {X Y : Array Value} {LX LY : List Lit} (fX : (Value.agg X).formed Try.prog t = true) (fY : (Value.agg Y).formed Try.prog t = true)
  (hX : Try.prog.keyLits D t X.toList = some LX) (hY : Try.prog.keyLits D' t Y.toList = some LY) {p : Prop} [Decidable p] (hp : LX = LY ↔ p) (w : World) : (binOp .eql t (.agg X) (.agg Y)).run Try.prog w = .ok (.bool (decide p)) w := by
 obtain ⟨r, h1, h2⟩ := eq_deep hm hk fX fY hX hY w
 rw [run_eql_struct, h1, Result.andThen_ok, show r = decide p by rw [Bool.eq_iff_iff, decide_eq_true_eq, h2, hp]]
theorem neq_deep {t : TypeId} {m : Nat} (hm : m ≤ 10000) (hk : Try.prog.keyTypeAt m t = true) {D D' : Nat} {X Y : Array Value} {LX LY : List Lit} (fX : (Value.agg X).formed Try.prog t = true) (fY : (Value.agg Y).formed Try.prog t = true)
  (hX : Try.prog.keyLits D t X.toList = some LX) (hY : Try.prog.keyLits D' t Y.toList = some LY) {p : Prop} [Decidable p] (hp : LX = LY ↔ p) (w : World) : (binOp .neq t (.agg X) (.agg Y)).run Try.prog w = .ok (.bool (!decide p)) w := by
 obtain ⟨r, h1, h2⟩ := eq_deep hm hk fX fY hX hY w
 rw [run_neq_struct, h1, Result.andThen_ok, show r = decide p by rw [Bool.eq_iff_iff, decide_eq_true_eq, h2, hp]]
theorem lit_wf {n : Int} (h : I64 n) : (Lit.int .i64 n).wf = true := by
 obtain ⟨h1, h2⟩ := h
 show (decide (IntKind.i64.min ≤ n) && decide (n ≤ IntKind.i64.max)) = true
 rw [show IntKind.i64.min = -9223372036854775808 by decide, show IntKind.i64.max = 9223372036854775807 by decide]
 simp [h1, h2]
theorem toList_data (a b : ByteArray) : a.data.toList = b.data.toList ↔ a = b :=
 ⟨fun h => by
  cases a; cases b
  congr 1
  exact Array.toList_inj.1 h, fun h => by rw [h]⟩
theorem Ln.eq_iff (a b : Ln) : (a.sup = b.sup ∧ a.cat = b.cat ∧ a.fr = b.fr ∧ a.tw = b.tw ∧ a.pl = b.pl ∧ a.am = b.am ∧ a.gr = b.gr ∧ a.co = b.co ∧ a.mx = b.mx) ↔ a = b := by
 constructor
 ·rintro ⟨h1, h2, h3, h4, h5, h6, h7, h8, h9⟩
  cases a; cases b
  simp only at *
  subst h1 h2 h3 h4 h5 h6 h7 h8 h9
  rfl
 ·rintro rfl
  exact ⟨rfl, rfl, rfl, rfl, rfl, rfl, rfl, rfl, rfl⟩
instance : DecidableEq Ln := fun a b => decidable_of_iff _ (Ln.eq_iff a b)
def Ln.lits (o : Ln) : List Lit := [.int .i64 o.sup, .int .i64 o.cat, .string o.fr.data.toList, .string o.tw.data.toList, .string o.pl.data.toList, .int .i64 o.am, .bool o.gr, .int .i64 o.co, .bool o.mx]
theorem Ln.lits_iff (a b : Ln) : a.lits = b.lits ↔ a = b := by
 rw [← Ln.eq_iff]
 simp only [Ln.lits, List.cons.injEq, Lit.int.injEq, Lit.string.injEq, Lit.bool.injEq, toList_data, true_and, and_true]
theorem ln_fields : (Try.prog.fieldsOf 55).toList.map (fun f => (f.type, f.offset, f.name != "_")) = [(3, 0, true), (3, 1, true), (9, 2, true), (9, 3, true), (9, 4, true), (3, 5, true), (4, 6, true), (3, 7, true), (4, 8, true)] := by kernel_rfl
theorem ln_under : Try.prog.underlying 55 = some (.struct (Try.prog.fieldsOf 55)) := by kernel_rfl
theorem cells_int : Try.prog.cellsOf 3 = 1 := by kernel_rfl
theorem cells_str : Try.prog.cellsOf 9 = 1 := by kernel_rfl
theorem cells_bool : Try.prog.cellsOf 4 = 1 := by kernel_rfl
theorem lits_int {n : Int} (h : I64 n) (d : Nat) : Try.prog.keyLits (d + 1) 3 [.int .i64 n] = some [.int .i64 n] := by
 unfold Program.keyLits
 rw [Try.underlying3]
 simp [lit_wf h]
theorem lits_str {s : ByteArray} (h : s.size ≤ maxLen) (d : Nat) : Try.prog.keyLits (d + 1) 9 [.string s] = some [.string s.data.toList] := by
 unfold Program.keyLits
 rw [Try.underlying9]
 simp [h]
theorem lits_bool (b : Bool) (d : Nat) : Try.prog.keyLits (d + 1) 4 [.bool b] = some [.bool b] := by
 unfold Program.keyLits
 rw [Try.underlying4]
theorem Ln.keyLits {o : Ln} (h : o.ok) : Try.prog.keyLits 2 55 o.vs.toList = some o.lits := by
 have hf := ln_fields
 unfold Program.keyLits
 rw [ln_under]
 generalize Try.prog.fieldsOf 55 = fs at *
 obtain ⟨fs⟩ := fs
 simp only at hf ⊢
 rcases fs with _ | ⟨f0, _ | ⟨f1, _ | ⟨f2, _ | ⟨f3, _ | ⟨f4, _ | ⟨f5, _ | ⟨f6, _ | ⟨f7, _ | ⟨f8, _ | ⟨f9, r⟩⟩⟩⟩⟩⟩⟩⟩⟩⟩ <;> simp only [List.map_cons, List.map_nil, List.cons.injEq, Prod.mk.injEq, reduceCtorEq, and_false] at hf
 obtain ⟨⟨t0, o0, n0⟩, ⟨t1, o1, n1⟩, ⟨t2, o2, n2⟩, ⟨t3, o3, n3⟩, ⟨t4, o4, n4⟩, ⟨t5, o5, n5⟩, ⟨t6, o6, n6⟩, ⟨t7, o7, n7⟩, ⟨t8, o8, n8⟩, _⟩ := hf
 have hc : Try.prog.cellsOf 55 = 9 := by kernel_rfl
 simp [Ln.vs, hc, n0, n1, n2, n3, n4, n5, n6, n7, n8, t0, t1, t2, t3, t4, t5, t6, t7, t8, o0, o1, o2, o3, o4, o5, o6, o7, o8, cells_int, cells_str, cells_bool, lits_int h.sup 0, lits_int h.cat 0, lits_str h.fr 0, lits_str h.tw 0, lits_str h.pl 0, lits_int h.am 0, lits_bool, lits_int h.co 0, Ln.lits, List.mapM_cons]
theorem Ln.formed (o : Ln) : (Value.agg o.vs).formed Try.prog 55 = true := by
 have hc : Try.prog.cellsOf 55 = 9 := by kernel_rfl
 simp [Value.formed, hc, Ln.vs]
theorem ln_neq {a b : Ln} (ha : a.ok) (hb : b.ok) (w : World) : (binOp .neq 55 (.agg a.vs) (.agg b.vs)).run Try.prog w = .ok (.bool (!decide (a = b))) w :=
 neq_deep (m := 2) (by decide) (by kernel_rfl) a.formed b.formed (Ln.keyLits ha) (Ln.keyLits hb) (Ln.lits_iff a b) w
end Go.Proofs.Ytnfpmobmfcgfnaa

/- DOCUMENTS AS ELEMENTS OF A SLICE; slices.Clone OF LINES AND OF TEXTS. -/
namespace Go.Proofs.Ytnfpmobmfcgfnaa
open Go.RowKit
section
variable {w w' : World} {B B' : Nat} {v : Value} {ls : List Ln}
theorem SlN.lns (h : SlN lnK w B v ls) (hok : ∀ o ∈ ls, o.ok) : Lns w B v ls := by
 have hat := fun k hk => h.at_ k hk
 obtain ⟨A, c, hv, hc, hm, hr⟩ := h
 refine ⟨A, c, hv, hc, hm, fun h0 => ?_⟩
 obtain ⟨ad, hA, hb, hx⟩ := hr h0
 refine ⟨ad, hA, hb, fun k o hk => ?_⟩
 have hkl := (List.getElem?_eq_some_iff.1 hk).1
 obtain ⟨ad', c', hv', hb', hx'⟩ := hat k hkl
 rw [hv, hA] at hv'
 cases hv'
 have ho : ls[k] = o := (List.getElem?_eq_some_iff.1 hk).2
 rw [ho] at hx'
 exact ⟨hok o (List.mem_of_getElem? hk), LnAt.of hx'⟩
end
abbrev TriD := Option Addr × Nat × Nat
section
variable {w w' : World} {B B' : Nat} {v : Value} {os : List Dm}
end
end Go.Proofs.Ytnfpmobmfcgfnaa

