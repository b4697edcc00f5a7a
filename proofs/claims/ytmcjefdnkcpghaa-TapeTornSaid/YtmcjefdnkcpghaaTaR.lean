/- append OF make, ONTO A ROW OF THE CALL'S OWN. -/
import Derived.Test.YtmcjefdnkcpghaaTbD
import Derived.Lib.AppendZerosOnto
namespace Go.Proofs.Ytmcjefdnkcpghaa
open Go.RowKit
theorem zero_cells (k : Nat) : Builtin.zeroCells (Value.int .u8 0).cells k = ((List.replicate k (0 : UInt8)).map bV).toArray := by
  apply Array.ext
  · simp [Builtin.zeroCells, Value.cells]
  · intro i h1 h2
    simp [Builtin.zeroCells, Value.cells, bV, Nat.mod_one]
theorem run_append_zeros_own (w : World) (base : Nat) (ty : TypeId) (v : Value) (l : List UInt8) (hown : Own w base v l) (hv : v ≠ .slice none 0 0) (k : Nat) (hk : l.length + k ≤ 140737488355328) (hbase : base ≤ w.heap.size) :
    ∃ v' w', (Builtin.append_ #[23, 3] ty #[v, .int .i64 k]).run Try.prog w = .ok v' w' ∧ Own w' base v' (l ++ List.replicate k 0) ∧ w.grownBy w' v.ownBlock := by
  obtain ⟨i, hi, hz, hs, hby⟩ := info_parts Try.byteInfo
  have ht := Try.underlying23
  have htn := Try.underlying3
  have hw : IntKind.i64.wrap (k : Int) = k := by rw [IntKind.wrap_i64]; omega
  have hneg : ¬ ((k : Int) < 0) := by omega
  have h48i : ¬ (281474976710656 < (k : Int) * (i.bytes : Int)) := by rw [hby]; omega
  have hlen : ((l ++ List.replicate k 0).map bV).length = l.length + k := by simp
  rcases hown.2 with ⟨rfl, _⟩ | ⟨g, cap, cur, rfl, hbg, hg, hnc, hcm, hcs, htake⟩
  · exact absurd rfl hv
  by_cases hroom : l.length + k ≤ cap
  · by_cases h0 : k = 0
    · subst h0
      refine ⟨.slice (some ⟨g, 0, none⟩) l.length cap, w, ?_, by simpa using hown, World.grownBy.refl w _⟩
      simp [Builtin.append_, run_underlying ht, run_underlying htn, sizeOf, typeInfo, hi, asInt, asIntOf, hnc, storeCells, IntKind.wrap_i64]
    · have hst := run_storeCells_at Try.prog g (l.length * i.size) 5 ((List.replicate k (0 : UInt8)).map bV) 0 cur w hg (by rw [hs, hcs]; simp; omega) (by intro u hu; rw [List.mem_map] at hu; obtain ⟨x, _, rfl⟩ := hu; rfl)
      simp only [Nat.add_zero, hs, Nat.mul_one, List.length_map, List.length_replicate] at hst
      refine ⟨.slice (some ⟨g, 0, none⟩) (l.length + k) cap, w.setRow g (cur.toList.take l.length ++ (List.replicate k (0 : UInt8)).map bV ++ cur.toList.drop (l.length + k)).toArray, ?_, ?_, ⟨rfl, rfl, rfl, by simp, fun j _ hj => setRow_other w g j _ (fun e => hj (by simp [Value.ownBlock, e]))⟩⟩
      · simp [Builtin.append_, run_underlying ht, run_underlying htn, sizeOf, typeInfo, zeroValue, hi, hz, hs, asInt, asIntOf, hw, hroom, hneg, h48i, h0, zero_cells, Addr.add_lit]
        simp at hst
        rw [hst]; rfl
      · unfold Own
        rw [show (l ++ List.replicate k (0 : UInt8)).length = l.length + k from by simp]
        refine ⟨by simp, .inr ⟨g, cap, _, rfl, hbg, setRow_heap w g cur _ 5 _ hg, hroom, hcm, ?_, ?_⟩⟩
        · simp only [List.size_toArray, List.length_append, List.length_take, List.length_drop, Array.length_toList, List.length_map, List.length_replicate]
          omega
        · rw [Nat.mul_one] at htake ⊢
          rw [htake, List.map_append]
          rw [List.take_append_of_le_length (by simp), List.take_of_length_le (by simp)]
  · have hx : ∀ j u, (l.map bV)[j]? = some u → w.cell? ((⟨g, 0, none⟩ : Addr).add j) = some u := (show w.ownsRow base 5 1 (.slice (some ⟨g, 0, none⟩) l.length cap) l.length (l.map bV) from hown).cells (g := g) rfl
    have hold := run_firstCells_some (P := Try.prog) w.drew i.size l.length ⟨g, 0, none⟩ l.length cap (l.map bV) (by simp [hs]) hx
    have hr := Lib.run_append_grow_zeros (P := Try.prog) w 23 3 ty 5 i (.int .u8 0) .i64 .i64 ht htn hi hz (some ⟨g, 0, none⟩) l.length cap (l.map bV) hold k (by omega) (by omega) (by omega) (by omega) (by rw [hby]; omega) (growslice_fits (by omega) (by rw [hby]; omega))
    refine ⟨_, _, hr, ?_, ⟨rfl, rfl, rfl, by simp, fun j hj _ => heap_alloc_old w.drew _ hj⟩⟩
    unfold Own
    rw [show (l ++ List.replicate k (0 : UInt8)).length = l.length + k from by simp]
    refine ⟨by simp, .inr ⟨w.heap.size, _, _, rfl, hbase, heap_alloc_new w.drew _, grownCap_ge w _ _ _, grownCap_le_maxLen w _ _ _ (by simp only [maxLen]; omega), ?_, ?_⟩⟩
    · have hge := grownCap_ge w (l.length + k) cap 5
      simp only [Array.size_append, List.size_toArray, size_zeroCells, List.length_map, Value.cells]
      simp
      omega
    · simp only [Array.toList_append, zero_cells, List.append_assoc]
      rw [← List.append_assoc, ← List.map_append, Nat.mul_one, List.take_append_of_le_length (by simp), List.take_of_length_le (by simp)]
theorem Own.block {w : World} {base : Nat} {v : Value} {l : List UInt8} (h : Own w base v l) (g : Nat) (hg : v.ownBlock = some g) : base ≤ g := by
  rcases h.2 with ⟨rfl, _⟩ | ⟨g', cap, cur, rfl, hbg, _⟩
  · cases hg
  · cases hg; exact hbg
theorem byt_take3 {w : World} {B : Nat} {ad : Addr} {c : Nat} {l : List UInt8} (j : Nat) (h : Byt w B (.slice (some ad) l.length c) l) (hj : j ≤ l.length) : Byt w B (.slice (some ad) j c) (l.take j) := by
  have := byt_mid 0 j h (Nat.zero_le _) hj
  rwa [List.drop_zero, Nat.sub_zero, Nat.sub_zero, show ad.add 0 = ad by simp [Addr.add]] at this
end Go.Proofs.Ytmcjefdnkcpghaa
