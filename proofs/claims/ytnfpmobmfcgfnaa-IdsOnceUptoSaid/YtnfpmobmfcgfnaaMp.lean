/- MAPS THAT THE CALL MAKES, whose keys are texts, whose values are whatever values: a function from a key's bytes to what stands there. -/
import Derived.Test.YtnfpmobmfcgfnaaSl
import Derived.Maps.OwnOps
import Derived.Maps.OwnSet
import Derived.Maps.Views
namespace Go.Proofs.Ytnfpmobmfcgfnaa
open Go.RowKit
open Go.Maps (Keyed)
/-- a value reads as itself -/
def rawR (v : Value) : Option (DataW Value × List MemPlace) := some (.held v, [])
/-- block b is a map of m entries (n: a bound); f tells what stands at a key -/
def MapV (w : World) (b n m : Nat) (f : List UInt8 → Option Value) : Prop :=
  ∃ D : DataW Value, w.ownsMap Try.prog 9 rawR b n D ∧ Maps.size D = m ∧
    ∀ s, (f s = none → Maps.has D (.string s) = false) ∧ ∀ v, f s = some v → Maps.has D (.string s) = true ∧ ∀ z, D.atKey (.string s) z = .held v
theorem keyK : Keyed Try.prog 9 := Maps.string_keyed Try.underlying9
section
variable {w w' : World} {b n m : Nat} {f : List UInt8 → Option Value}
theorem MapV.made (w : World) : MapV (w.alloc (.map #[] 0)) w.heap.size 0 0 fun _ => none :=
  ⟨.map [], World.ownsMap_made w _ _ _, rfl, fun s => ⟨fun _ => rfl, fun v h => by cases h⟩⟩
theorem MapV.lt (h : MapV w b n m f) : b < w.heap.size := by obtain ⟨D, h, _⟩ := h; exact h.lt
theorem MapV.grown {row : Option Nat} (h : MapV w b n m f) (hg : w.grownBy w' row) (hne : some b ≠ row) : MapV w' b n m f := by
  obtain ⟨D, h1, h2⟩ := h; exact ⟨D, h1.kept hg hne, h2⟩
theorem MapV.alloc (h : MapV w b n m f) (o : Obj) : MapV (w.alloc o) b n m f := by obtain ⟨D, h1, h2⟩ := h; exact ⟨D, h1.alloc o, h2⟩
theorem MapV.heap (h : MapV w b n m f) (he : w'.heap[b]? = w.heap[b]?) : MapV w' b n m f := by
  obtain ⟨D, ⟨es, clock, hb, F, hs, hD⟩, h2⟩ := h
  exact ⟨D, ⟨es, clock, he.trans hb, F, hs, hD⟩, h2⟩
theorem MapV.below (h : MapV w b n m f) (hb : Below w.heap.size w w') : MapV w' b n m f := h.heap (hb.block b h.lt)
theorem MapV.drew (h : MapV w b n m f) : MapV w.drew b n m f := h
theorem MapV.size_le (h : MapV w b n m f) : m ≤ n := by obtain ⟨D, h1, rfl, _⟩ := h; exact h1.size_le
/-- what a look-up yields -/
def MapV.val (f : List UInt8 → Option Value) (z : Value) (ok : Bool) (s : List UInt8) : Value :=
  match f s with
  | some v => if ok then .tuple #[v, .bool true] else v
  | none => if ok then .tuple #[z, .bool false] else z
set_option maxRecDepth 100000 in
theorem MapV.look {t e : TypeId} (h : MapV w b n m f) (ht : Try.prog.underlying t = some (.map 9 e)) {z : Value} (hz : (zeroValue e).run Try.prog w = .ok z w) (ok : Bool) (key : ByteArray) (hk : key.size ≤ maxLen) :
    (Instr.lookup t (.map (some b)) (.string key) ok).run Try.prog w = .ok (MapV.val f z ok key.data.toList) w := by
  obtain ⟨D, ⟨es, clock, hb, F, hs, rfl⟩, _, hf⟩ := h
  unfold MapV.val
  rcases Maps.fit_look ok keyK ht hz hb F (WideMaps.keyOf_string_mk Try.underlying9 hk) with ⟨hrun, _, hat⟩ | ⟨e0, y, _, _, hrun, hRv, hat, _⟩
  · have hn := Maps.has_false_of_atKey hat
    cases hfs : f key.data.toList with
    | none => exact hrun
    | some v => rw [((hf _).2 v hfs).1] at hn; cases hn
  · have hy := Maps.has_true_of_atKey hat
    cases hfs : f key.data.toList with
    | none => rw [(hf _).1 hfs] at hy; cases hy
    | some v =>
      have h1 := ((hf _).2 v hfs).2 .nil
      rw [hat .nil] at h1
      unfold rawR at hRv
      simp only [Option.some.injEq] at hRv
      subst hRv
      simp only at h1
      injection h1 with h1
      subst h1
      exact hrun
theorem MapV.update {t e : TypeId} (h : MapV w b n m f) (ht : Try.prog.underlying t = some (.map 9 e)) (hn : n < maxLen) (key : ByteArray) (hk : key.size ≤ maxLen) (v : Value) :
    ∃ w', (Instr.mapUpdate t (.map (some b)) (.string key) v).run Try.prog w = .ok () w' ∧
      MapV w' b (n + 1) (if (f key.data.toList).isSome then m else m + 1) (fun s => if s = key.data.toList then some v else f s) ∧ w.grownBy w' (some b) := by
  obtain ⟨D, h1, h2, hf⟩ := h
  obtain ⟨w', hrun, hown, hg⟩ := h1.update keyK ht hn (val := v) (d := .held v) (ps := []) (WideMaps.keyOf_string_mk Try.underlying9 hk) rfl
  have hkl : WideAt.IsKeyLit (.string key.data.toList) := keyK.key (WideMaps.keyOf_string_mk Try.underlying9 hk)
  refine ⟨w', hrun, ⟨_, hown, ?_, fun s => ?_⟩, hg⟩
  · rw [Maps.size_put (h1.tidy keyK)]
    cases hfs : f key.data.toList with
    | none => rw [(hf _).1 hfs, h2]; rfl
    | some u => rw [((hf _).2 u hfs).1, h2]; rfl
  · by_cases hs : s = key.data.toList
    · subst hs
      simp only [if_true]
      refine ⟨(fun h => by cases h), fun u hu => ?_⟩
      cases hu
      exact ⟨Maps.has_put_same h1.isMap hkl _, fun z => Maps.atKey_put_same h1.isMap hkl _ z⟩
    · simp only [if_neg hs]
      have hne : (Lit.string s) ≠ .string key.data.toList := fun e => hs (by injection e)
      refine ⟨fun h => by rw [Maps.has_put_other hne]; exact (hf s).1 h, fun u hu => ?_⟩
      obtain ⟨g1, g2⟩ := (hf s).2 u hu
      exact ⟨by rw [Maps.has_put_other hne]; exact g1, fun z => by rw [Maps.atKey_put_other hne]; exact g2 z⟩
theorem MapV.len {t e : TypeId} (h : MapV w b n m f) (ht : Try.prog.underlying t = some (.map 9 e)) (ty : TypeId) : (Builtin.len_ #[t] ty #[.map (some b)]).run Try.prog w = .ok (.int .i64 m) w := by
  obtain ⟨D, h1, rfl, _⟩ := h
  exact h1.len ht ty
end
end Go.Proofs.Ytnfpmobmfcgfnaa
