/- MAPS THAT THE CALL MAKES, whose keys are texts, whose values are whatever values: a function from a key's bytes to what stands there. -/
import Derived.Test.YtnfpmobmfcgfnaaPa
import Derived.Maps.OwnOps
import Derived.Maps.OwnSet
import Derived.Maps.Views
import Derived.Shelf.Small.Strs
import Derived.Shelf.Strings.Search1
import Derived.WalkKit
import Derived.Deep.QuietTactic
import Derived.BigQuiet
import Derived.Deep.LoopGhost
import Derived.Lib.Strings
namespace Go.Proofs.Ytnfpmobmfcgfnaa
open Go.RowKit
open Go.Maps (Keyed)
/-- a value reads as itself -/
def rawR (v : Value) : Option (DataW Value × List MemPlace) := some (.held v, [])
/-- block b is a map of m entries (n: a bound); f tells what stands at a key -/
def MapV (w : World) (b n m : Nat) (f : List UInt8 → Option Value) : Prop :=
 ∃ D : DataW Value, w.ownsMap Try.prog 9 rawR b n D ∧ Maps.size D = m ∧
  ∀ s, (f s = none → Maps.has D (.string s) = false) ∧ ∀ v, f s = some v → Maps.has D (.string s) = true ∧ ∀ z, D.atKey (.string s) z = .held v
theorem keyK : Keyed Try.prog 9 := Maps.string_keyed Try.underlying9
section
variable {w w' : World} {b n m : Nat} {f : List UInt8 → Option Value}
theorem MapV.made (w : World) : MapV (w.alloc (.map #[] 0)) w.heap.size 0 0 fun _ => none :=
 ⟨.map [], World.ownsMap_made w _ _ _, rfl, fun s => ⟨fun _ => rfl, fun v h => by cases h⟩⟩
theorem MapV.lt (h : MapV w b n m f) : b < w.heap.size := by obtain ⟨D, h, _⟩ := h; exact h.lt
theorem MapV.grown {row : Option Nat} (h : MapV w b n m f) (hg : w.grownBy w' row) (hne : some b ≠ row) : MapV w' b n m f := by
 obtain ⟨D, h1, h2⟩ := h; exact ⟨D, h1.kept hg hne, h2⟩
theorem MapV.alloc (h : MapV w b n m f) (o : Obj) : MapV (w.alloc o) b n m f := by obtain ⟨D, h1, h2⟩ := h; exact ⟨D, h1.alloc o, h2⟩
theorem MapV.heap (h : MapV w b n m f) (he : w'.heap[b]? = w.heap[b]?) : MapV w' b n m f := by
 obtain ⟨D, ⟨es, clock, hb, F, hs, hD⟩, h2⟩ := h
 exact ⟨D, ⟨es, clock, he.trans hb, F, hs, hD⟩, h2⟩
theorem MapV.below (h : MapV w b n m f) (hb : Below w.heap.size w w') : MapV w' b n m f := h.heap (hb.block b h.lt)
theorem MapV.drew (h : MapV w b n m f) : MapV w.drew b n m f := h
/-- what a look-up yields -/
def MapV.val (f : List UInt8 → Option Value) (z : Value) (ok : Bool) (s : List UInt8) : Value :=
 match f s with
 | some v => if ok then .tuple #[v, .bool true] else v
 | none => if ok then .tuple #[z, .bool false] else z
set_option maxRecDepth 100000 in
theorem MapV.look {t e : TypeId} (h : MapV w b n m f) (ht : Try.prog.underlying t = some (.map 9 e)) {z : Value} (hz : (zeroValue e).run Try.prog w = .ok z w) (ok : Bool) (key : ByteArray) (hk : key.size ≤ maxLen) :
  (Instr.lookup t (.map (some b)) (.string key) ok).run Try.prog w = .ok (MapV.val f z ok key.data.toList) w := by
 obtain ⟨D, ⟨es, clock, hb, F, hs, rfl⟩, _, hf⟩ := h
 unfold MapV.val
 rcases Maps.fit_look ok keyK ht hz hb F (WideMaps.keyOf_string_mk Try.underlying9 hk) with ⟨hrun, _, hat⟩ | ⟨e0, y, _, _, hrun, hRv, hat, _⟩
 ·have hn := Maps.has_false_of_atKey hat
  cases hfs : f key.data.toList with
  | none => exact hrun
  | some v => rw [((hf _).2 v hfs).1] at hn; cases hn
 ·have hy := Maps.has_true_of_atKey hat
  cases hfs : f key.data.toList with
  | none => rw [(hf _).1 hfs] at hy; cases hy
  | some v =>
   have h1 := ((hf _).2 v hfs).2 .nil
   rw [hat .nil] at h1
   unfold rawR at hRv
   simp only [Option.some.injEq] at hRv
   subst hRv
   simp only at h1
   injection h1 with h1
   subst h1
   exact hrun
theorem MapV.update {t e : TypeId} (h : MapV w b n m f) (ht : Try.prog.underlying t = some (.map 9 e)) (hn : n < maxLen) (key : ByteArray) (hk : key.size ≤ maxLen) (v : Value) :
  ∃ w', (Instr.mapUpdate t (.map (some b)) (.string key) v).run Try.prog w = .ok () w' ∧
   MapV w' b (n + 1) (if (f key.data.toList).isSome then m else m + 1) (fun s => if s = key.data.toList then some v else f s) ∧ w.grownBy w' (some b) := by
 obtain ⟨D, h1, h2, hf⟩ := h
 obtain ⟨w', hrun, hown, hg⟩ := h1.update keyK ht hn (val := v) (d := .held v) (ps := []) (WideMaps.keyOf_string_mk Try.underlying9 hk) rfl
 have hkl : WideAt.IsKeyLit (.string key.data.toList) := keyK.key (WideMaps.keyOf_string_mk Try.underlying9 hk)
 refine ⟨w', hrun, ⟨_, hown, ?_, fun s => ?_⟩, hg⟩
 ·rw [Maps.size_put (h1.tidy keyK)]
  cases hfs : f key.data.toList with
  | none => rw [(hf _).1 hfs, h2]; rfl
  | some u => rw [((hf _).2 u hfs).1, h2]; rfl
 ·by_cases hs : s = key.data.toList
  ·subst hs
   simp only [if_true]
   refine ⟨(fun h => by cases h), fun u hu => ?_⟩
   cases hu
   exact ⟨Maps.has_put_same h1.isMap hkl _, fun z => Maps.atKey_put_same h1.isMap hkl _ z⟩
  ·simp only [if_neg hs]
   have hne : (Lit.string s) ≠ .string key.data.toList := fun e => hs (by injection e)
   refine ⟨fun h => by rw [Maps.has_put_other hne]; exact (hf s).1 h, fun u hu => ?_⟩
   obtain ⟨g1, g2⟩ := (hf s).2 u hu
   exact ⟨by rw [Maps.has_put_other hne]; exact g1, fun z => by rw [Maps.atKey_put_other hne]; exact g2 z⟩
theorem MapV.len {t e : TypeId} (h : MapV w b n m f) (ht : Try.prog.underlying t = some (.map 9 e)) (ty : TypeId) : (Builtin.len_ #[t] ty #[.map (some b)]).run Try.prog w = .ok (.int .i64 m) w := by
 obtain ⟨D, h1, rfl, _⟩ := h
 exact h1.len ht ty
end
end Go.Proofs.Ytnfpmobmfcgfnaa

/- strings.IndexByte, by the shelf's contract. -/
namespace Go.Proofs.Ytnfpmobmfcgfnaa
open Go.Shelf Go.RowKit
def Try.lays137_ren : Go.Shelf.Ren := ⟨fun | 137 => 111 | 217 => 122 | 266 => 125 | n => n, fun | 9 => 9 | 5 => 5 | 3 => 3 | n => n, fun | n => n⟩
theorem Try.lays137 : Go.Proofs.Lays.n137 Try.prog Try.lays137_ren := {
 mixed := by kernel_rfl
 f137 := Try.func111.trans (congrArg some (by kernel_rfl))
 f217 := Try.func122.trans (congrArg some (by kernel_rfl))
 f266 := Try.func125.trans (congrArg some (by kernel_rfl))
 t3 := Try.underlying3
 a3 := Try.isAgg3
 z3 := Try.sizeOf3
 v3 := Try.zeroValue3
 t5 := Try.underlying5
 a5 := Try.isAgg5
 z5 := Try.sizeOf5
 v5 := Try.zeroValue5
 t9 := Try.underlying9
 a9 := Try.isAgg9
 z9 := Try.sizeOf9
 v9 := Try.zeroValue9 }
/-- is the byte '+' or '*'? -/
theorem plusStar_any (b : UInt8) (w : World) : Calls Try.prog 111 #[.string ⟨#[43, 42]⟩, .int .u8 (b.toNat : Int)] w fun e w' =>
  e = .returned (.int .i64 (if b = 43 then 0 else if b = 42 then 1 else -1)) ∧ w = w' := by
 refine (Any.strings_IndexByte Try.lays137 ⟨#[43, 42]⟩ (b.toNat : Int) w).mono fun e w' he => ?_
 obtain ⟨rfl, rfl⟩ := he
 refine ⟨ret_int ?_, rfl⟩
 have e1 : (b.toNat : Int).toNat.toUInt8 = b := by simp
 rw [e1]
 show Lib.indexByte [43, 42] b = _
 by_cases h1 : b = 43
 ·subst h1; rfl
 ·by_cases h2 : b = 42
  ·subst h2; rfl
  ·rw [if_neg h1, if_neg h2]
   have h1' : (43 : UInt8) ≠ b := fun e => h1 e.symm
   have h2' : (42 : UInt8) ≠ b := fun e => h2 e.symm
   simp [Lib.indexByte, h1', h2']
end Go.Proofs.Ytnfpmobmfcgfnaa

/- COUNTRIES AND NUMBERS OF TAXABLE PERSONS: plain functions on bytes. No program here. -/
namespace Go.Proofs.Ytnfpmobmfcgfnaa
def letB (b : UInt8) : Bool := decide (65 ≤ b.toNat) && decide (b.toNat ≤ 90)
def digB (b : UInt8) : Bool := decide (48 ≤ b.toNat) && decide (b.toNat ≤ 57)
def countryL (c : List UInt8) : Bool := decide (c.length = 2) && letB (c.getD 0 0) && letB (c.getD 1 0)
/-- a form's byte and a byte -/
def fitB (f b : UInt8) : Bool :=
 if f = 57 then digB b
 else if f = 65 then letB b
 else if f = 88 then letB b || digB b
 else if f = 43 then letB b || digB b || b == 43 || b == 42
 else f == b
def allFit : List UInt8 → List UInt8 → Bool
 | [], [] => true
 | f :: fs, b :: bs => fitB f b && allFit fs bs
 | _, _ => false
def fitsL (l : List (List UInt8)) (n : List UInt8) : Bool := l.any fun f => allFit f n
def tab : List (List UInt8 × List (List UInt8)) := [([65, 84], [[85, 57, 57, 57, 57, 57, 57, 57, 57]]),
 ([66, 69], [[48, 57, 57, 57, 57, 57, 57, 57, 57, 57], [49, 57, 57, 57, 57, 57, 57, 57, 57, 57]]),
 ([66, 71], [[57, 57, 57, 57, 57, 57, 57, 57, 57], [57, 57, 57, 57, 57, 57, 57, 57, 57, 57]]),
 ([67, 89], [[57, 57, 57, 57, 57, 57, 57, 57, 65]]),
 ([67, 90], [[57, 57, 57, 57, 57, 57, 57, 57], [57, 57, 57, 57, 57, 57, 57, 57, 57], [57, 57, 57, 57, 57, 57, 57, 57, 57, 57]]),
 ([68, 69], [[57, 57, 57, 57, 57, 57, 57, 57, 57]]),
 ([68, 75], [[57, 57, 57, 57, 57, 57, 57, 57]]),
 ([69, 69], [[57, 57, 57, 57, 57, 57, 57, 57, 57]]),
 ([69, 76], [[57, 57, 57, 57, 57, 57, 57, 57, 57]]),
 ([69, 83], [[88, 57, 57, 57, 57, 57, 57, 57, 88]]),
 ([70, 73], [[57, 57, 57, 57, 57, 57, 57, 57]]),
 ([70, 82], [[88, 88, 57, 57, 57, 57, 57, 57, 57, 57, 57]]),
 ([72, 82], [[57, 57, 57, 57, 57, 57, 57, 57, 57, 57, 57]]),
 ([72, 85], [[57, 57, 57, 57, 57, 57, 57, 57]]),
 ([73, 69], [[57, 43, 57, 57, 57, 57, 57, 65], [57, 57, 57, 57, 57, 57, 57, 65, 65]]),
 ([73, 84], [[57, 57, 57, 57, 57, 57, 57, 57, 57, 57, 57]]),
 ([76, 84], [[57, 57, 57, 57, 57, 57, 57, 57, 57], [57, 57, 57, 57, 57, 57, 57, 57, 57, 57, 57, 57]]),
 ([76, 85], [[57, 57, 57, 57, 57, 57, 57, 57]]),
 ([76, 86], [[57, 57, 57, 57, 57, 57, 57, 57, 57, 57, 57]]),
 ([77, 84], [[57, 57, 57, 57, 57, 57, 57, 57]]),
 ([78, 76], [[57, 57, 57, 57, 57, 57, 57, 57, 57, 66, 57, 57]]),
 ([80, 76], [[57, 57, 57, 57, 57, 57, 57, 57, 57, 57]]),
 ([80, 84], [[57, 57, 57, 57, 57, 57, 57, 57, 57]]),
 ([82, 79], [[57, 57], [57, 57, 57], [57, 57, 57, 57], [57, 57, 57, 57, 57], [57, 57, 57, 57, 57, 57], [57, 57, 57, 57, 57, 57, 57], [57, 57, 57, 57, 57, 57, 57, 57], [57, 57, 57, 57, 57, 57, 57, 57, 57], [57, 57, 57, 57, 57, 57, 57, 57, 57, 57]]),
 ([83, 69], [[57, 57, 57, 57, 57, 57, 57, 57, 57, 57, 57, 57]]),
 ([83, 73], [[57, 57, 57, 57, 57, 57, 57, 57]]),
 ([83, 75], [[57, 57, 57, 57, 57, 57, 57, 57, 57, 57]])]
def mems : List (List UInt8) := [[65, 84], [66, 69], [66, 71], [67, 89], [67, 90], [68, 69], [68, 75], [69, 69], [69, 76], [69, 83], [70, 73], [70, 82], [72, 82], [72, 85], [73, 69], [73, 84], [76, 84], [76, 85], [76, 86], [77, 84], [78, 76], [80, 76], [80, 84], [82, 79], [83, 69], [83, 73], [83, 75]]
def lst : List UInt8 := [65, 84, 32, 85, 57, 57, 57, 57, 57, 57, 57, 57, 59, 66, 69, 32, 48, 57, 57, 57, 57, 57, 57, 57, 57, 57, 32, 49, 57, 57, 57, 57, 57, 57, 57, 57, 57, 59, 66, 71, 32, 57, 57, 57, 57, 57, 57, 57, 57, 57, 32, 57, 57, 57, 57, 57, 57, 57, 57, 57, 57, 59, 67, 89, 32, 57, 57, 57, 57, 57, 57, 57, 57, 65, 59, 67, 90, 32, 57, 57, 57, 57, 57, 57, 57, 57, 32, 57, 57, 57, 57, 57, 57, 57, 57, 57, 32, 57, 57, 57, 57, 57, 57, 57, 57, 57, 57, 59, 68, 69, 32, 57, 57, 57, 57, 57, 57, 57, 57, 57, 59, 68, 75, 32, 57, 57, 57, 57, 57, 57, 57, 57, 59, 69, 69, 32, 57, 57, 57, 57, 57, 57, 57, 57, 57, 59, 69, 76, 32, 57, 57, 57, 57, 57, 57, 57, 57, 57, 59, 69, 83, 32, 88, 57, 57, 57, 57, 57, 57, 57, 88, 59, 70, 73, 32, 57, 57, 57, 57, 57, 57, 57, 57, 59, 70, 82, 32, 88, 88, 57, 57, 57, 57, 57, 57, 57, 57, 57, 59, 72, 82, 32, 57, 57, 57, 57, 57, 57, 57, 57, 57, 57, 57, 59, 72, 85, 32, 57, 57, 57, 57, 57, 57, 57, 57, 59, 73, 69, 32, 57, 43, 57, 57, 57, 57, 57, 65, 32, 57, 57, 57, 57, 57, 57, 57, 65, 65, 59, 73, 84, 32, 57, 57, 57, 57, 57, 57, 57, 57, 57, 57, 57, 59, 76, 84, 32, 57, 57, 57, 57, 57, 57, 57, 57, 57, 32, 57, 57, 57, 57, 57, 57, 57, 57, 57, 57, 57, 57, 59, 76, 85, 32, 57, 57, 57, 57, 57, 57, 57, 57, 59, 76, 86, 32, 57, 57, 57, 57, 57, 57, 57, 57, 57, 57, 57, 59, 77, 84, 32, 57, 57, 57, 57, 57, 57, 57, 57, 59, 78, 76, 32, 57, 57, 57, 57, 57, 57, 57, 57, 57, 66, 57, 57, 59, 80, 76, 32, 57, 57, 57, 57, 57, 57, 57, 57, 57, 57, 59, 80, 84, 32, 57, 57, 57, 57, 57, 57, 57, 57, 57, 59, 82, 79, 32, 57, 57, 32, 57, 57, 57, 32, 57, 57, 57, 57, 32, 57, 57, 57, 57, 57, 32, 57, 57, 57, 57, 57, 57, 32, 57, 57, 57, 57, 57, 57, 57, 32, 57, 57, 57, 57, 57, 57, 57, 57, 32, 57, 57, 57, 57, 57, 57, 57, 57, 57, 32, 57, 57, 57, 57, 57, 57, 57, 57, 57, 57, 59, 83, 69, 32, 57, 57, 57, 57, 57, 57, 57, 57, 57, 57, 57, 57, 59, 83, 73, 32, 57, 57, 57, 57, 57, 57, 57, 57, 59, 83, 75, 32, 57, 57, 57, 57, 57, 57, 57, 57, 57, 57, 59]
def memB (c : List UInt8) : Bool := mems.contains c
def formsT (c : List UInt8) : List (List UInt8) := (tab.lookup c).getD []
/-- the reference's readings of its list -/
def memStep (i : Nat) (st : List (List UInt8) × Bool) : List (List UInt8) × Bool :=
 (if st.2 then st.1 ++ [(lst.drop i).take 2] else st.1, lst.getD i 0 == 59)
def memUp : Nat → List (List UInt8) × Bool
 | 0 => ([], true)
 | i + 1 => memStep i (memUp i)
def frmStep (c : List UInt8) (b : UInt8) (st : List UInt8 × List UInt8 × List (List UInt8)) : List UInt8 × List UInt8 × List (List UInt8) :=
 if b ≠ 32 ∧ b ≠ 59 then (st.1, st.2.1 ++ [b], st.2.2)
 else (if b = 59 then [] else if st.1 = [] then st.2.1 else st.1, [], if st.1 = [] then st.2.2 else if st.1 = c then st.2.2 ++ [st.2.1] else st.2.2)
def frmUp (c : List UInt8) : Nat → List UInt8 × List UInt8 × List (List UInt8)
 | 0 => ([], [], [])
 | i + 1 => frmStep c (lst.getD i 0) (frmUp c i)
theorem memUp_all : (memUp 479).1 = mems := by decide +kernel
theorem memUp_len : ∀ i, i < 479 → (memUp i).1.length ≤ 27 := by
 have h : (List.range 479).all (fun i => decide ((memUp i).1.length ≤ 27)) = true := by decide +kernel
 intro i hi
 simpa using List.all_eq_true.1 h i (List.mem_range.2 hi)
theorem frmUp_all : ∀ c ∈ mems, (frmUp c 479).2.2 = formsT c := by
 have h : mems.all (fun c => decide ((frmUp c 479).2.2 = formsT c)) = true := by decide +kernel
 intro c hc
 simpa using List.all_eq_true.1 h c hc
theorem tab_mems : tab.map (·.1) = mems := by decide +kernel
theorem formsT_none {c : List UInt8} (h : memB c = false) : formsT c = [] := by
 unfold formsT
 have : tab.lookup c = none := by
  rw [List.lookup_eq_none_iff]
  intro p hp
  have hm : p.1 ∈ mems := by rw [← tab_mems]; exact List.mem_map.2 ⟨p, hp, rfl⟩
  rw [bne_iff_ne]
  intro e
  unfold memB at h
  rw [e] at h
  simp [hm] at h
 rw [this]; rfl
def rightL (c n : List UInt8) : Bool := countryL c && (if memB c then fitsL (formsT c) n else decide (1 ≤ n.length) && decide (n.length ≤ 20) && n.all fun b => letB b || digB b)
end Go.Proofs.Ytnfpmobmfcgfnaa

/- THE WALKS OF vatid's AND octroiref07's SMALL FUNCTIONS. -/
namespace Go.Proofs.Ytnfpmobmfcgfnaa
open Go.RowKit
theorem letB_t {b : UInt8} (h1 : 65 ≤ b.toNat) (h2 : b.toNat ≤ 90) : letB b = true := by simp [letB, h1, h2]
theorem letB_f {b : UInt8} (h : ¬ (65 ≤ b.toNat ∧ b.toNat ≤ 90)) : letB b = false := by
 unfold letB; rw [Bool.and_eq_false_iff, decide_eq_false_iff_not, decide_eq_false_iff_not]; omega
theorem digB_t {b : UInt8} (h1 : 48 ≤ b.toNat) (h2 : b.toNat ≤ 57) : digB b = true := by simp [digB, h1, h2]
theorem digB_f {b : UInt8} (h : ¬ (48 ≤ b.toNat ∧ b.toNat ≤ 57)) : digB b = false := by
 unfold digB; rw [Bool.and_eq_false_iff, decide_eq_false_iff_not, decide_eq_false_iff_not]; omega
theorem letter_any (b : UInt8) (w : World) : Calls Try.prog 92 #[.int .u8 (b.toNat : Int)] w fun e w' => e = .returned (.bool (letB b)) ∧ w = w' := by
 by_cases h1 : 65 ≤ b.toNat
 ·have a1 : (65 : Int) ≤ (b.toNat : Int) := by omega
  by_cases h2 : b.toNat ≤ 90
  ·have a2 : (b.toNat : Int) ≤ 90 := by omega
   rw [letB_t h1 h2]
   go_enter Try.func92, Try.ntmps92
   go_wp2
   go_ret
   exact ⟨rfl, rfl⟩
  ·have a2 : decide ((b.toNat : Int) ≤ 90) = false := decide_eq_false (by omega)
   rw [letB_f (by omega)]
   go_enter Try.func92, Try.ntmps92
   go_wp2
   go_ret
   exact ⟨rfl, rfl⟩
 ·have a1 : decide ((65 : Int) ≤ (b.toNat : Int)) = false := decide_eq_false (by omega)
  rw [letB_f (by omega)]
  go_enter Try.func92, Try.ntmps92
  go_wp2
  go_ret
  exact ⟨rfl, rfl⟩
theorem digit_any (b : UInt8) (w : World) : Calls Try.prog 112 #[.int .u8 (b.toNat : Int)] w fun e w' => e = .returned (.bool (digB b)) ∧ w = w' := by
 by_cases h1 : 48 ≤ b.toNat
 ·have a1 : (48 : Int) ≤ (b.toNat : Int) := by omega
  by_cases h2 : b.toNat ≤ 57
  ·have a2 : (b.toNat : Int) ≤ 57 := by omega
   rw [digB_t h1 h2]
   go_enter Try.func112, Try.ntmps112
   go_wp2
   go_ret
   exact ⟨rfl, rfl⟩
  ·have a2 : decide ((b.toNat : Int) ≤ 57) = false := decide_eq_false (by omega)
   rw [digB_f (by omega)]
   go_enter Try.func112, Try.ntmps112
   go_wp2
   go_ret
   exact ⟨rfl, rfl⟩
 ·have a1 : decide ((48 : Int) ≤ (b.toNat : Int)) = false := decide_eq_false (by omega)
  rw [digB_f (by omega)]
  go_enter Try.func112, Try.ntmps112
  go_wp2
  go_ret
  exact ⟨rfl, rfl⟩
theorem rletter_any (b : UInt8) (w : World) : Calls Try.prog 79 #[.int .u8 (b.toNat : Int)] w fun e w' => e = .returned (.bool (letB b)) ∧ w = w' := by
 by_cases h1 : 65 ≤ b.toNat
 ·have a1 : (65 : Int) ≤ (b.toNat : Int) := by omega
  by_cases h2 : b.toNat ≤ 90
  ·have a2 : (b.toNat : Int) ≤ 90 := by omega
   rw [letB_t h1 h2]
   go_enter Try.func79, Try.ntmps79
   go_wp2
   go_ret
   exact ⟨rfl, rfl⟩
  ·have a2 : decide ((b.toNat : Int) ≤ 90) = false := decide_eq_false (by omega)
   rw [letB_f (by omega)]
   go_enter Try.func79, Try.ntmps79
   go_wp2
   go_ret
   exact ⟨rfl, rfl⟩
 ·have a1 : decide ((65 : Int) ≤ (b.toNat : Int)) = false := decide_eq_false (by omega)
  rw [letB_f (by omega)]
  go_enter Try.func79, Try.ntmps79
  go_wp2
  go_ret
  exact ⟨rfl, rfl⟩
theorem rdigit_any (b : UInt8) (w : World) : Calls Try.prog 80 #[.int .u8 (b.toNat : Int)] w fun e w' => e = .returned (.bool (digB b)) ∧ w = w' := by
 by_cases h1 : 48 ≤ b.toNat
 ·have a1 : (48 : Int) ≤ (b.toNat : Int) := by omega
  by_cases h2 : b.toNat ≤ 57
  ·have a2 : (b.toNat : Int) ≤ 57 := by omega
   rw [digB_t h1 h2]
   go_enter Try.func80, Try.ntmps80
   go_wp2
   go_ret
   exact ⟨rfl, rfl⟩
  ·have a2 : decide ((b.toNat : Int) ≤ 57) = false := decide_eq_false (by omega)
   rw [digB_f (by omega)]
   go_enter Try.func80, Try.ntmps80
   go_wp2
   go_ret
   exact ⟨rfl, rfl⟩
 ·have a1 : decide ((48 : Int) ≤ (b.toNat : Int)) = false := decide_eq_false (by omega)
  rw [digB_f (by omega)]
  go_enter Try.func80, Try.ntmps80
  go_wp2
  go_ret
  exact ⟨rfl, rfl⟩
/-- bytes of a text -/
theorem byte_at (s : ByteArray) (k : Nat) (h : k < s.size) : s.data.toList.getD k 0 = s[k] := by
 have e : s.data.toList.length = s.size := Array.length_toList
 rw [List.getD_eq_getElem?_getD, List.getElem?_eq_getElem (by omega)]
 rfl
theorem country_any (c : ByteArray) (w : World) : Calls Try.prog 60 #[.string c] w fun e w' => e = .returned (.bool (countryL c.data.toList)) ∧ w = w' := by
 have e : c.data.toList.length = c.size := Array.length_toList
 by_cases h : c.size = 2
 ·have a0 := byte_at c 0 (by omega)
  have a1 := byte_at c 1 (by omega)
  have hc : countryL c.data.toList = (letB c[0] && letB c[1]) := by simp only [countryL, e, h, a0, a1, decide_true, Bool.true_and]
  have hz : ((c.size : Int) == 2) = true := by rw [beq_iff_eq]; omega
  have i0 : 0 < c.size := by omega
  have i1 : 1 < c.size := by omega
  rw [hc]
  have H := Lib.hid h
  clear e a0 a1 hc
  generalize g0 : letB c[0] = v0
  generalize g1 : letB c[1] = v1
  have G0 := Lib.hid g0
  have G1 := Lib.hid g1
  clear g0 g1 h H
  cases v0
  ·go_enter Try.func60, Try.ntmps60
   go_wp2_with (go_at_call 92; refine (letter_any _ _).mono ?_; rintro e w' ⟨rfl, rfl⟩; rw [G0.out])
   go_ret
   exact ⟨rfl, rfl⟩
  ·go_enter Try.func60, Try.ntmps60
   go_wp2_with (go_at_call 92; refine (letter_any _ _).mono ?_; rintro e w' ⟨rfl, rfl⟩; first | rw [G0.out] | rw [G1.out])
   go_ret
   exact ⟨rfl, rfl⟩
 ·have hc : countryL c.data.toList = false := by simp [countryL, h]
  have hz : ((c.size : Int) == 2) = false := by rw [beq_eq_false_iff_ne]; omega
  rw [hc]
  clear e hc h
  go_enter Try.func60, Try.ntmps60
  go_wp2
  go_ret
  exact ⟨rfl, rfl⟩
theorem rcountry_any (c : ByteArray) (w : World) : Calls Try.prog 41 #[.string c] w fun e w' => e = .returned (.bool (countryL c.data.toList)) ∧ w = w' := by
 have e : c.data.toList.length = c.size := Array.length_toList
 by_cases h : c.size = 2
 ·have a0 := byte_at c 0 (by omega)
  have a1 := byte_at c 1 (by omega)
  have hc : countryL c.data.toList = (letB c[0] && letB c[1]) := by simp only [countryL, e, h, a0, a1, decide_true, Bool.true_and]
  have hz : ((c.size : Int) == 2) = true := by rw [beq_iff_eq]; omega
  have i0 : 0 < c.size := by omega
  have i1 : 1 < c.size := by omega
  rw [hc]
  have H := Lib.hid h
  clear e a0 a1 hc
  generalize g0 : letB c[0] = v0
  generalize g1 : letB c[1] = v1
  have G0 := Lib.hid g0
  have G1 := Lib.hid g1
  clear g0 g1 h H
  cases v0
  ·go_enter Try.func41, Try.ntmps41
   go_wp2_with (go_at_call 79; refine (rletter_any _ _).mono ?_; rintro e w' ⟨rfl, rfl⟩; rw [G0.out])
   go_ret
   exact ⟨rfl, rfl⟩
  ·go_enter Try.func41, Try.ntmps41
   go_wp2_with (go_at_call 79; refine (rletter_any _ _).mono ?_; rintro e w' ⟨rfl, rfl⟩; first | rw [G0.out] | rw [G1.out])
   go_ret
   exact ⟨rfl, rfl⟩
 ·have hc : countryL c.data.toList = false := by simp [countryL, h]
  have hz : ((c.size : Int) == 2) = false := by rw [beq_eq_false_iff_ne]; omega
  rw [hc]
  clear e hc h
  go_enter Try.func41, Try.ntmps41
  go_wp2
  go_ret
  exact ⟨rfl, rfl⟩
theorem extra_any (b : UInt8) (w : World) (g : Nat) (hc : w.cell? ⟨g, 0, none⟩ = some (.int .u8 (b.toNat : Int))) :
  Calls Try.prog 110 #[.string ⟨#[43, 42]⟩, .pointer (some ⟨g, 0, none⟩)] w fun e w' => e = .returned (.bool (b == 43 || b == 42)) ∧ w = w' := by
 have h1 := fun w => plusStar_any b w
 by_cases e1 : b = 43
 ·subst e1
  go_enter Try.func110, Try.ntmps110
  go_wp2_with (go_at_call 111; refine (h1 _).mono ?_; rintro e w' ⟨rfl, rfl⟩)
  go_ret
  exact ⟨rfl, rfl⟩
 ·by_cases e2 : b = 42
  ·subst e2
   go_enter Try.func110, Try.ntmps110
   go_wp2_with (go_at_call 111; refine (h1 _).mono ?_; rintro e w' ⟨rfl, rfl⟩)
   go_ret
   exact ⟨rfl, rfl⟩
  ·have hr : (if b = 43 then (0 : Int) else if b = 42 then 1 else -1) = -1 := by rw [if_neg e1, if_neg e2]
   have hb : (b == 43 || b == 42) = false := by simp [e1, e2]
   rw [hr] at h1
   rw [hb]
   clear hr hb e1 e2
   go_enter Try.func110, Try.ntmps110
   go_wp2_with (go_at_call 111; refine (h1 _).mono ?_; rintro e w' ⟨rfl, rfl⟩)
   go_ret
   exact ⟨rfl, rfl⟩
theorem fitB_else {f : UInt8} (b : UInt8) (h1 : f ≠ 43) (h2 : f ≠ 88) (h3 : f ≠ 65) (h4 : f ≠ 57) : fitB f b = (f == b) := by
 unfold fitB; rw [if_neg h4, if_neg h3, if_neg h2, if_neg h1]
theorem toNat_ne {f : UInt8} {k : Nat} (hk : k < 256) (h : f ≠ UInt8.ofNat k) : ((f.toNat : Int) == (k : Int)) = false := by
 rw [beq_eq_false_iff_ne]
 intro e
 apply h
 rw [← UInt8.toNat_inj, UInt8.toNat_ofNat']
 omega
set_option maxHeartbeats 1000000 in
theorem stands_any (f b : UInt8) (w : World) : Calls Try.prog 87 #[.int .u8 (f.toNat : Int), .int .u8 (b.toNat : Int)] w fun e w' => e = .returned (.bool (fitB f b)) ∧ Below w.heap.size w w' := by
 have hbel : Below w.heap.size w (w.alloc (.cells #[.int .u8 (b.toNat : Int)] 5)) := (Below.refl _ _).alloc (Nat.le_refl _) _
 have hL := fun w => letter_any b w
 have hD := fun w => digit_any b w
 have HB := Lib.hid hbel
 clear hbel
 by_cases e1 : f = 43
 ·subst e1
  have hf : fitB 43 b = (letB b || digB b || (b == 43 || b == 42)) := by show (letB b || digB b || b == 43 || b == 42) = _; rw [Bool.or_assoc (letB b || digB b)]
  rw [hf, show (((43 : UInt8).toNat : Nat) : Int) = 43 from rfl]
  have hX := fun w g hc => extra_any b w g hc
  clear hf
  generalize (b == 43 || b == 42) = vx at *
  generalize letB b = vl at *
  generalize digB b = vd at *
  replace hX := Lib.hid hX
  cases vx <;> cases vl <;> cases vd
  all_goals
   go_enter Try.func87, Try.ntmps87
   go_wp2_with (first
    | (go_at_call 92; refine (hL _).mono ?_; rintro e w' ⟨rfl, rfl⟩)
    | (go_at_call 112; refine (hD _).mono ?_; rintro e w' ⟨rfl, rfl⟩)
    | (go_at_call 110; refine (hX.out _ _ (by simp)).mono ?_; rintro e w' ⟨rfl, rfl⟩))
   go_ret
   exact ⟨rfl, HB.out⟩
 have z1 : ((f.toNat : Int) == 43) = false := toNat_ne (k := 43) (by decide) e1
 by_cases e2 : f = 88
 ·subst e2
  have hf : fitB 88 b = (letB b || digB b) := rfl
  rw [hf, show (((88 : UInt8).toNat : Nat) : Int) = 88 from rfl]
  clear hf z1 e1
  generalize letB b = vl at *
  generalize digB b = vd at *
  cases vl <;> cases vd
  all_goals
   go_enter Try.func87, Try.ntmps87
   go_wp2_with (first
    | (go_at_call 92; refine (hL _).mono ?_; rintro e w' ⟨rfl, rfl⟩)
    | (go_at_call 112; refine (hD _).mono ?_; rintro e w' ⟨rfl, rfl⟩))
   go_ret
   exact ⟨rfl, HB.out⟩
 have z2 : ((f.toNat : Int) == 88) = false := toNat_ne (k := 88) (by decide) e2
 by_cases e3 : f = 65
 ·subst e3
  have hf : fitB 65 b = letB b := rfl
  rw [hf, show (((65 : UInt8).toNat : Nat) : Int) = 65 from rfl]
  clear hf z1 z2 e1 e2
  generalize letB b = vl at *
  generalize digB b = vd at *
  go_enter Try.func87, Try.ntmps87
  go_wp2_with (first
   | (go_at_call 92; refine (hL _).mono ?_; rintro e w' ⟨rfl, rfl⟩)
   | (go_at_call 112; refine (hD _).mono ?_; rintro e w' ⟨rfl, rfl⟩))
  go_ret
  exact ⟨rfl, HB.out⟩
 have z3 : ((f.toNat : Int) == 65) = false := toNat_ne (k := 65) (by decide) e3
 by_cases e4 : f = 57
 ·subst e4
  have hf : fitB 57 b = digB b := rfl
  rw [hf, show (((57 : UInt8).toNat : Nat) : Int) = 57 from rfl]
  clear hf z1 z2 z3 e1 e2 e3
  generalize letB b = vl at *
  generalize digB b = vd at *
  go_enter Try.func87, Try.ntmps87
  go_wp2_with (first
   | (go_at_call 92; refine (hL _).mono ?_; rintro e w' ⟨rfl, rfl⟩)
   | (go_at_call 112; refine (hD _).mono ?_; rintro e w' ⟨rfl, rfl⟩))
  go_ret
  exact ⟨rfl, HB.out⟩
 have z4 : ((f.toNat : Int) == 57) = false := toNat_ne (k := 57) (by decide) e4
 rw [fitB_else b e1 e2 e3 e4]
 clear hL hD e1 e2 e3 e4
 by_cases e5 : f = b
 ·subst e5
  rw [beq_self_eq_true]
  go_enter Try.func87, Try.ntmps87
  go_wp2
  go_ret
  exact ⟨rfl, HB.out⟩
 ·have hb : (f == b) = false := by rw [beq_eq_false_iff_ne]; exact e5
  have z5 : ((f.toNat : Int) == (b.toNat : Int)) = false := by rw [beq_eq_false_iff_ne]; exact fun e => e5 (UInt8.toNat_inj.1 (by omega))
  have Z5 := Lib.hid z5
  clear z5
  rw [hb]
  go_enter Try.func87, Try.ntmps87
  go_wp2
  go_ret
  exact ⟨ret_bool Z5.out, HB.out⟩
set_option maxHeartbeats 1000000 in
theorem rfit_any (f b : UInt8) (w : World) : Calls Try.prog 82 #[.int .u8 (f.toNat : Int), .int .u8 (b.toNat : Int)] w fun e w' => e = .returned (.bool (fitB f b)) ∧ w = w' := by
 have hL := fun w => rletter_any b w
 have hD := fun w => rdigit_any b w
 by_cases e1 : f = 43
 ·subst e1
  have hf : fitB 43 b = (letB b || digB b || b == 43 || b == 42) := rfl
  rw [hf, show (((43 : UInt8).toNat : Nat) : Int) = 43 from rfl]
  clear hf
  generalize letB b = vl at *
  generalize digB b = vd at *
  by_cases q1 : b = 43
  ·subst q1
   rw [show (((43 : UInt8).toNat : Nat) : Int) = 43 from rfl] at hL hD ⊢
   cases vl <;> cases vd
   all_goals
    go_enter Try.func82, Try.ntmps82
    go_wp2_with (first
     | (go_at_call 79; refine (hL _).mono ?_; rintro e w' ⟨rfl, rfl⟩)
     | (go_at_call 80; refine (hD _).mono ?_; rintro e w' ⟨rfl, rfl⟩))
    go_ret
    exact ⟨rfl, rfl⟩
  have y1 : ((b.toNat : Int) == 43) = false := toNat_ne (k := 43) (by decide) q1
  have y1' : (b == 43) = false := by rw [beq_eq_false_iff_ne]; exact q1
  by_cases q2 : b = 42
  ·subst q2
   rw [show (((42 : UInt8).toNat : Nat) : Int) = 42 from rfl] at hL hD ⊢
   clear y1 y1'
   cases vl <;> cases vd
   all_goals
    go_enter Try.func82, Try.ntmps82
    go_wp2_with (first
     | (go_at_call 79; refine (hL _).mono ?_; rintro e w' ⟨rfl, rfl⟩)
     | (go_at_call 80; refine (hD _).mono ?_; rintro e w' ⟨rfl, rfl⟩))
    go_ret
    exact ⟨rfl, rfl⟩
  have y2 : ((b.toNat : Int) == 42) = false := toNat_ne (k := 42) (by decide) q2
  have y2' : (b == 42) = false := by rw [beq_eq_false_iff_ne]; exact q2
  rw [y1', y2']
  clear y1' y2'
  cases vl <;> cases vd
  all_goals
   go_enter Try.func82, Try.ntmps82
   go_wp2_with (first
    | (go_at_call 79; refine (hL _).mono ?_; rintro e w' ⟨rfl, rfl⟩)
    | (go_at_call 80; refine (hD _).mono ?_; rintro e w' ⟨rfl, rfl⟩))
   go_ret
   exact ⟨rfl, rfl⟩
 have z1 : ((f.toNat : Int) == 43) = false := toNat_ne (k := 43) (by decide) e1
 by_cases e2 : f = 88
 ·subst e2
  have hf : fitB 88 b = (letB b || digB b) := rfl
  rw [hf, show (((88 : UInt8).toNat : Nat) : Int) = 88 from rfl]
  clear hf z1 e1
  generalize letB b = vl at *
  generalize digB b = vd at *
  cases vl <;> cases vd
  all_goals
   go_enter Try.func82, Try.ntmps82
   go_wp2_with (first
    | (go_at_call 79; refine (hL _).mono ?_; rintro e w' ⟨rfl, rfl⟩)
    | (go_at_call 80; refine (hD _).mono ?_; rintro e w' ⟨rfl, rfl⟩))
   go_ret
   exact ⟨rfl, rfl⟩
 have z2 : ((f.toNat : Int) == 88) = false := toNat_ne (k := 88) (by decide) e2
 by_cases e3 : f = 65
 ·subst e3
  have hf : fitB 65 b = letB b := rfl
  rw [hf, show (((65 : UInt8).toNat : Nat) : Int) = 65 from rfl]
  clear hf z1 z2 e1 e2
  generalize letB b = vl at *
  generalize digB b = vd at *
  go_enter Try.func82, Try.ntmps82
  go_wp2_with (first
   | (go_at_call 79; refine (hL _).mono ?_; rintro e w' ⟨rfl, rfl⟩)
   | (go_at_call 80; refine (hD _).mono ?_; rintro e w' ⟨rfl, rfl⟩))
  go_ret
  exact ⟨rfl, rfl⟩
 have z3 : ((f.toNat : Int) == 65) = false := toNat_ne (k := 65) (by decide) e3
 by_cases e4 : f = 57
 ·subst e4
  have hf : fitB 57 b = digB b := rfl
  rw [hf, show (((57 : UInt8).toNat : Nat) : Int) = 57 from rfl]
  clear hf z1 z2 z3 e1 e2 e3
  generalize letB b = vl at *
  generalize digB b = vd at *
  go_enter Try.func82, Try.ntmps82
  go_wp2_with (first
   | (go_at_call 79; refine (hL _).mono ?_; rintro e w' ⟨rfl, rfl⟩)
   | (go_at_call 80; refine (hD _).mono ?_; rintro e w' ⟨rfl, rfl⟩))
  go_ret
  exact ⟨rfl, rfl⟩
 have z4 : ((f.toNat : Int) == 57) = false := toNat_ne (k := 57) (by decide) e4
 rw [fitB_else b e1 e2 e3 e4]
 clear hL hD e1 e2 e3 e4
 by_cases e5 : f = b
 ·subst e5
  rw [beq_self_eq_true]
  go_enter Try.func82, Try.ntmps82
  go_wp2
  go_ret
  exact ⟨rfl, rfl⟩
 ·have hb : (f == b) = false := by rw [beq_eq_false_iff_ne]; exact e5
  have z5 : ((f.toNat : Int) == (b.toNat : Int)) = false := by rw [beq_eq_false_iff_ne]; exact fun e => e5 (UInt8.toNat_inj.1 (by omega))
  have Z5 := Lib.hid z5
  clear z5
  rw [hb]
  go_enter Try.func82, Try.ntmps82
  go_wp2
  go_ret
  exact ⟨ret_bool Z5.out, rfl⟩
end Go.Proofs.Ytnfpmobmfcgfnaa

/- THE WALKS OF THE LISTS OF COUNTRIES. -/
namespace Go.Proofs.Ytnfpmobmfcgfnaa
open Go.RowKit
def bsA (l : List UInt8) : ByteArray := ⟨l.toArray⟩
theorem bsA_list (l : List UInt8) : (bsA l).data.toList = l := by simp [bsA]
theorem bsA_of (s : ByteArray) : bsA s.data.toList = s := by cases s; simp [bsA]
theorem bsA_inj {s : ByteArray} {l : List UInt8} : s = bsA l ↔ s.data.toList = l := by
 constructor
 ·rintro rfl; exact bsA_list l
 ·rintro rfl; exact (bsA_of s).symm
/-- a new slice of texts -/
def NewStrs (ls : List (List UInt8)) (w : World) (e : Ending) (w' : World) : Prop := ∃ v, e = .returned v ∧ Ow strK w' w.heap.size v (ls.map bsA) ∧ Below w.heap.size w w'
set_option maxRecDepth 100000 in
theorem members_any (w : World) : Calls Try.prog 84 #[] w (NewStrs mems w) := by
 have h := ow_lit strK w (mems.map bsA) (by decide)
 have H := Lib.hid h
 clear h
 go_enter Try.func84, Try.ntmps84
 go_wp2
 go_ret
 exact ⟨_, rfl, H.out, (Below.refl _ _).alloc (Nat.le_refl _) _⟩
theorem str_eq (s t : ByteArray) : (s.toList == t.toList) = decide (s = t) := by
 rw [ByteArray.toList_eq, ByteArray.toList_eq, Bool.eq_iff_iff, beq_iff_eq, decide_eq_true_eq]
 constructor
 ·intro h; rw [← bsA_of s, ← bsA_of t, h]
 ·rintro rfl; rfl
theorem str_t {s t : ByteArray} (h : (s.toList == t.toList) = true) : s = t := by rw [str_eq, decide_eq_true_eq] at h; exact h
theorem str_f {s t : ByteArray} (h : (s.toList == t.toList) = false) : s ≠ t := by rw [str_eq, decide_eq_false_iff_not] at h; exact h
/-- is it in there? -/
def hasS (ls : List ByteArray) (c : ByteArray) : Bool := ls.any fun x => decide (x = c)
theorem has_t {ls : List ByteArray} {c : ByteArray} {k : Nat} (h : ls[k]? = some c) : hasS ls c = true := by
 unfold hasS; rw [List.any_eq_true]; exact ⟨c, List.mem_of_getElem? h, by simp⟩
theorem has_f {ls : List ByteArray} {c : ByteArray} (h : ∀ j, j < ls.length → ls[j]? ≠ some c) : hasS ls c = false := by
 unfold hasS; rw [List.any_eq_false]
 intro x hx
 rw [decide_eq_true_eq]
 rintro rfl
 obtain ⟨j, hj, e⟩ := List.mem_iff_getElem.1 hx
 exact h j hj (by rw [List.getElem?_eq_getElem hj, e])
def IdxPost (ls : List ByteArray) (c : ByteArray) (w : World) (e : Ending) (w' : World) : Prop := ∃ n : Int, e = .returned (.int .i64 n) ∧ decide (0 ≤ n) = hasS ls c ∧ w = w'
set_option maxHeartbeats 1000000 in
theorem index_any (v : Value) (ls : List ByteArray) (c : ByteArray) (w : World) (B : Nat) (hv : Sl strK w B v ls) :
  Calls Try.prog 108 #[v, .string c] w (IdxPost ls c w) := by
 obtain ⟨A, cp, rfl, hc, hm, hr⟩ := hv
 unfold maxLen at hm
 have HR := Lib.hid hr
 clear hr
 go_enter Try.func108, Try.ntmps108
 go_wp2
 go_loopg [5, 8] ls.length (fun g x5 x8 wr => w = wr ∧ ∃ k : Nat, k ≤ ls.length ∧ g = ls.length - k ∧ x8 = .int .i64 (k : Int) ∧ (∀ j, j < k → ls[j]? ≠ some c))
 case atStart => exact ⟨rfl, 0, Nat.zero_le _, rfl, rfl, fun j hj => by omega⟩
 case round =>
  obtain ⟨rfl, k, hk, hg, rfl, hno⟩ := hrel
  have HG := Lib.hid hg
  have HN := Lib.hid hno
  clear hg hno
  by_cases h : k < ls.length
  ·obtain ⟨ad, rfl, hadB, hrow⟩ := HR.out (by omega)
   have hat : w.cell? (ad.add k) = some (.string ls[k]) := hrow k ls[k] (List.getElem?_eq_getElem h)
   have HK := Lib.hid (List.getElem?_eq_getElem h)
   clear hrow
   generalize ls[k] = x at *
   go_wp2
   ·have hx := str_t (by assumption : (c.toList == x.toList) = true)
    go_ret
    exact ⟨k, rfl, by rw [decide_eq_true (by omega : (0 : Int) ≤ (k : Int))]; exact (has_t (hx ▸ HK.out)).symm, rfl⟩
   ·have hx := str_f (by assumption : (c.toList == x.toList) = false)
    go_roundg (ls.length - (k + 1))
    case measure => have := HG.out; omega
    case rel =>
     refine ⟨rfl, k + 1, by omega, rfl, by go_num, fun j hj e => ?_⟩
     by_cases hjk : j = k
     ·subst hjk
      rw [HK.out] at e
      exact hx (Option.some.inj e).symm
     ·exact HN.out j (by omega) e
  ·obtain rfl : k = ls.length := by omega
   go_wp2
   go_ret
   exact ⟨-1, rfl, (has_f HN.out).symm, rfl⟩
theorem contains_any (v : Value) (ls : List ByteArray) (c : ByteArray) (w : World) (B : Nat) (hv : Sl strK w B v ls) :
  Calls Try.prog 83 #[v, .string c] w fun e w' => e = .returned (.bool (hasS ls c)) ∧ w = w' := by
 have hi := index_any v ls c w B hv
 obtain ⟨A, cp, rfl, hc, hm, hr⟩ := hv
 clear hr
 go_enter Try.func83, Try.ntmps83
 go_wp2_with (go_at_call 108; refine hi.mono ?_; rintro e w' ⟨n, rfl, hn, rfl⟩)
 go_ret
 exact ⟨rfl, rfl⟩
theorem has_mems (c : ByteArray) : hasS (mems.map bsA) c = memB c.data.toList := by
 unfold hasS memB
 rw [List.any_map, Bool.eq_iff_iff, List.any_eq_true, List.contains_iff_mem]
 constructor
 ·rintro ⟨x, hx, h⟩
  have := of_decide_eq_true h
  rw [← this, bsA_list]; exact hx
 ·intro h
  exact ⟨_, h, decide_eq_true (bsA_of c)⟩
theorem member_any (c : ByteArray) (w : World) : Calls Try.prog 49 #[.string c] w fun e w' => e = .returned (.bool (memB c.data.toList)) ∧ Below w.heap.size w w' := by
 rw [← has_mems]
 go_enter Try.func49, Try.ntmps49
 go_wp2_with (first
  | (go_at_call 84; refine (members_any _).mono ?_; rintro e w1 ⟨v1, rfl, hv1, hb1⟩)
  | (go_at_call 83; refine (contains_any _ _ _ _ _ hv1.sl).mono ?_; rintro e w2 ⟨rfl, rfl⟩))
 go_ret
 exact ⟨rfl, hb1⟩
end Go.Proofs.Ytnfpmobmfcgfnaa

/- THE WALKS OF octroiref07's LIST: Members, Member, Forms, Same. -/
namespace Go.Proofs.Ytnfpmobmfcgfnaa
open Go.RowKit
def litC : ByteArray := { data := ((([65, 84, 32, 85, 57, 57, 57, 57, 57, 57, 57, 57, 59, 66, 69, 32, 48, 57, 57, 57, 57, 57, 57, 57, 57, 57, 32, 49, 57, 57, 57, 57, 57, 57, 57, 57, 57, 59, 66, 71, 32, 57, 57, 57, 57, 57, 57, 57, 57, 57, 32, 57, 57, 57, 57, 57, 57, 57, 57].append [57, 57, 59, 67, 89, 32, 57, 57, 57, 57, 57, 57, 57, 57, 65, 59, 67, 90, 32, 57, 57, 57, 57, 57, 57, 57, 57, 32, 57, 57, 57, 57, 57, 57, 57, 57, 57, 32, 57, 57, 57, 57, 57, 57, 57, 57, 57, 57, 59, 68, 69, 32, 57, 57, 57, 57, 57, 57, 57, 57]).append ([57, 59, 68, 75, 32, 57, 57, 57, 57, 57, 57, 57, 57, 59, 69, 69, 32, 57, 57, 57, 57, 57, 57, 57, 57, 57, 59, 69, 76, 32, 57, 57, 57, 57, 57, 57, 57, 57, 57, 59, 69, 83, 32, 88, 57, 57, 57, 57, 57, 57, 57, 88, 59, 70, 73, 32, 57, 57, 57, 57].append [57, 57, 57, 57, 59, 70, 82, 32, 88, 88, 57, 57, 57, 57, 57, 57, 57, 57, 57, 59, 72, 82, 32, 57, 57, 57, 57, 57, 57, 57, 57, 57, 57, 57, 59, 72, 85, 32, 57, 57, 57, 57, 57, 57, 57, 57, 59, 73, 69, 32, 57, 43, 57, 57, 57, 57, 57, 65, 32, 57])).append (([57, 57, 57, 57, 57, 57, 65, 65, 59, 73, 84, 32, 57, 57, 57, 57, 57, 57, 57, 57, 57, 57, 57, 59, 76, 84, 32, 57, 57, 57, 57, 57, 57, 57, 57, 57, 32, 57, 57, 57, 57, 57, 57, 57, 57, 57, 57, 57, 57, 59, 76, 85, 32, 57, 57, 57, 57, 57, 57, 57].append [57, 59, 76, 86, 32, 57, 57, 57, 57, 57, 57, 57, 57, 57, 57, 57, 59, 77, 84, 32, 57, 57, 57, 57, 57, 57, 57, 57, 59, 78, 76, 32, 57, 57, 57, 57, 57, 57, 57, 57, 57, 66, 57, 57, 59, 80, 76, 32, 57, 57, 57, 57, 57, 57, 57, 57, 57, 57, 59, 80]).append ([84, 32, 57, 57, 57, 57, 57, 57, 57, 57, 57, 59, 82, 79, 32, 57, 57, 32, 57, 57, 57, 32, 57, 57, 57, 57, 32, 57, 57, 57, 57, 57, 32, 57, 57, 57, 57, 57, 57, 32, 57, 57, 57, 57, 57, 57, 57, 32, 57, 57, 57, 57, 57, 57, 57, 57, 32, 57, 57, 57].append [57, 57, 57, 57, 57, 57, 32, 57, 57, 57, 57, 57, 57, 57, 57, 57, 57, 59, 83, 69, 32, 57, 57, 57, 57, 57, 57, 57, 57, 57, 57, 57, 57, 59, 83, 73, 32, 57, 57, 57, 57, 57, 57, 57, 57, 59, 83, 75, 32, 57, 57, 57, 57, 57, 57, 57, 57, 57, 57, 59]))).toArray }
theorem litC_list : litC.data.toList = lst := by decide +kernel
theorem litC_size : litC.size = 479 := by decide +kernel
theorem litC_at (k : Nat) (h : k < litC.size) : litC[k] = lst.getD k 0 := by rw [← byte_at litC k h, litC_list]
theorem eq59 (b : UInt8) : ((b.toNat : Int) == 59) = (b == 59) := by
 rw [Bool.eq_iff_iff, beq_iff_eq, beq_iff_eq, ← UInt8.toNat_inj]
 show (b.toNat : Int) = 59 ↔ b.toNat = 59
 omega
theorem memUp_room : ∀ i, i < 479 → (memUp i).2 = true → i + 2 ≤ 479 := by
 have h : (List.range 479).all (fun i => !(memUp i).2 || decide (i + 2 ≤ 479)) = true := by decide +kernel
 intro i hi hm
 have := List.all_eq_true.1 h i (List.mem_range.2 hi)
 rw [hm] at this
 simpa using this
theorem extract_bs (s : ByteArray) (a b : Nat) : s.extract a b = bsA ((s.data.toList.drop a).take (b - a)) := by
 rw [bsA_inj, ← ByteArray.toList_eq]; exact Lib.extract_toList s a b
set_option maxRecDepth 100000 in
set_option maxHeartbeats 2000000 in
theorem rmembers_any (w : World) : Calls Try.prog 91 #[] w (NewStrs mems w) := by
  go_enter Try.func91, Try.ntmps91
  obtain ⟨C, hC⟩ : ∃ C : ByteArray, C = litC := ⟨_, rfl⟩
  have hC2 := hC
  unfold litC at hC2
  rw [← hC2]
  clear hC2
  have hCs : C.size = 479 := by rw [hC]; exact litC_size
  have HA : ∀ (k : Nat) (h : k < C.size), C[k] = lst.getD k 0 := by subst hC; exact litC_at
  have HX : ∀ k, C.extract k (k + 2) = bsA ((lst.drop k).take 2) := fun k => by rw [extract_bs, hC, litC_list, Nat.add_sub_cancel_left]
  clear hC
  replace HA := Lib.hid HA
  replace HX := Lib.hid HX
  have hC479 : 479 ≤ C.size := by omega
  have hC480 : C.size ≤ 479 := by omega
  clear hCs
  go_wp2
  go_loopg [1, 2, 3] 479 (fun g x1 x2 x3 wr => ∃ k : Nat, k ≤ 479 ∧ g = 479 - k ∧ x3 = .int .i64 (k : Int) ∧ x2 = .bool (memUp k).2 ∧ Ow strK wr w.heap.size x1 ((memUp k).1.map bsA) ∧ Below w.heap.size w wr)
  case atStart => exact ⟨0, by omega, rfl, rfl, rfl, Ow.nil_ _ _ _, Below.refl _ _⟩
  case round =>
    obtain ⟨k, hk, hg, rfl, rfl, hown, hbel⟩ := hrel
    have HG := Lib.hid hg
    clear hg
    by_cases h : k < 479
    · have hkC : k < C.size := by omega
      have hroom := memUp_room k h
      have hlen := memUp_len k h
      have HM := Lib.hid (show memUp (k + 1) = memStep k (memUp k) from rfl)
      have HC := Lib.hid (HA.out k hkC)
      have HXk := Lib.hid (HX.out k)
      have hbase := hbel.size
      generalize memUp k = st at *
      obtain ⟨out, b⟩ := st
      simp only at hroom hlen hown HM ⊢
      cases b with
      | true =>
        have hk2 := hroom rfl
        clear hroom
        go_wp2_with (first
          | (at_builtin; go_must (refine wpList_append_sl strK _ rfl (.tmp 9) (.tmp 14) 39 rfl Try.underlying39 w.heap.size u1 (out.map bsA) rfl (hown.alloc _) _ _ [C.extract k (k + 2)] rfl (sl_one strK _ _) (by simp; omega) (by decide) (by simp; omega) ?_)
             intro v5 w5 hown5 hg5 _))
        go_roundg (479 - (k + 1))
        case measure => have := HG.out; omega
        case rel =>
          refine ⟨k + 1, by omega, rfl, by go_num, ?_, ?_, ?_⟩
          · rw [HM.out]; show Value.bool _ = Value.bool (lst.getD k 0 == 59); rw [← HC.out, eq59]
          · rw [HM.out]; show Ow strK w5 w.heap.size v5 ((out ++ [(lst.drop k).take 2]).map bsA); rw [List.map_append, List.map_cons, List.map_nil, ← HXk.out]; exact hown5
          · exact (hbel.alloc hbel.size _).grown hg5 (by simp; omega) (fun b hb => ((hown.alloc (.cells #[Value.string (C.extract k (k + 2))] 9)).lt b hb).1)
      | false =>
        go_wp2
        go_roundg (479 - (k + 1))
        case measure => have := HG.out; omega
        case rel =>
          refine ⟨k + 1, by omega, rfl, by go_num, ?_, ?_, hbel⟩
          · rw [HM.out]; show Value.bool _ = Value.bool (lst.getD k 0 == 59); rw [← HC.out, eq59]
          · rw [HM.out]; exact hown
    · obtain rfl : k = 479 := by omega
      go_wp2
      go_ret
      exact ⟨_, rfl, by rw [memUp_all] at hown; exact hown, hbel⟩
end Go.Proofs.Ytnfpmobmfcgfnaa

/- THE WALKS OF octroiref07's Same AND Member. -/
namespace Go.Proofs.Ytnfpmobmfcgfnaa
open Go.RowKit
set_option maxHeartbeats 1000000 in
theorem rmember_any (c : ByteArray) (w : World) : Calls Try.prog 59 #[.string c] w fun e w' => e = .returned (.bool (memB c.data.toList)) ∧ Below w.heap.size w w' := by
 rw [← has_mems]
 go_enter Try.func59, Try.ntmps59
 go_wp2_with (go_at_call 91; refine (rmembers_any _).mono ?_; rintro e w1 ⟨v1, rfl, hv1, hb1⟩)
 obtain ⟨A, cp, rfl, hc, hm, hr⟩ := hv1.sl
 unfold maxLen at hm
 clear hv1
 obtain ⟨ls, hls⟩ : ∃ ls, ls = mems.map bsA := ⟨_, rfl⟩
 rw [← hls] at hc hr ⊢
 have HLs := Lib.hid hls
 clear hls
 have HR := Lib.hid hr
 clear hr
 go_loopg [4] ls.length (fun g x wr => w1 = wr ∧ ∃ k : Nat, k ≤ ls.length ∧ g = ls.length - k ∧ x = .int .i64 (k : Int) ∧ (∀ j, j < k → ls[j]? ≠ some c))
 case atStart => exact ⟨rfl, 0, Nat.zero_le _, rfl, rfl, fun j hj => by omega⟩
 case round =>
  obtain ⟨rfl, k, hk, hg, rfl, hno⟩ := hrel
  have HG := Lib.hid hg
  have HN := Lib.hid hno
  clear hg hno
  by_cases h : k < ls.length
  ·obtain ⟨ad, rfl, hadB, hrow⟩ := HR.out (by omega)
   have hat : w1.cell? (ad.add k) = some (.string ls[k]) := hrow k ls[k] (List.getElem?_eq_getElem h)
   have HK := Lib.hid (List.getElem?_eq_getElem h)
   clear hrow
   generalize ls[k] = x at *
   go_wp2
   ·have hx := str_t (by assumption : (x.toList == c.toList) = true)
    go_ret
    exact ⟨ret_bool (by rw [← HLs.out]; exact (has_t (hx ▸ HK.out)).symm), hb1⟩
   ·have hx := str_f (by assumption : (x.toList == c.toList) = false)
    go_roundg (ls.length - (k + 1))
    case measure => have := HG.out; omega
    case rel =>
     refine ⟨rfl, k + 1, by omega, rfl, by go_num, fun j hj e => ?_⟩
     by_cases hjk : j = k
     ·subst hjk
      rw [HK.out] at e
      exact hx (Option.some.inj e)
     ·exact HN.out j (by omega) e
  ·obtain rfl : k = ls.length := by omega
   go_wp2
   go_ret
   exact ⟨ret_bool (by rw [← HLs.out]; exact (has_f HN.out).symm), hb1⟩
end Go.Proofs.Ytnfpmobmfcgfnaa

