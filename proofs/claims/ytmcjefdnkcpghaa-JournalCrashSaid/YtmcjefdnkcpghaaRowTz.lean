/- HOW A SLICE OF SLICES OF BYTES IS OPENED, AND A tape.Head. -/
import Derived.Test.YtmcjefdnkcpghaaRow
import Derived.Test.YtmcjefdnkcpghaaMem2
import Derived.Deep.Slices
import Derived.Lib.SmallJoins
import Derived.Test.YtmcjefdnkcpghaaZt3
namespace Go.Proofs.Ytmcjefdnkcpghaa
open Go.ChangeShapes Go.WideShapes Go.ChangeAt Go.RowKit Go.Deep
theorem Try.cellsByt1 : Try.prog.cellsOf 23 = 1 := by kernel_rfl
set_option maxRecDepth 100000 in
theorem open_byt_cell {H : Type} {enc : TypeId × Value → H} {W : World} {n : Nat} {v : Value} {x : DataW H × List MemPlace}
    (h : DataW.trod enc Try.prog W 0 (fun _ => true) true n 23 [v] = some x) : ∃ l, Byt W W.heap.size v l := by
  rcases open_ints Try.underlying23 Try.underlying5 Try.cells5 h with ⟨hcs, _⟩ | ⟨x, l, c, zs, hcs, _, hl, hm, hz, _, hcell, hwz⟩
  · simp at hcs
    subst hcs
    exact ⟨[], Byt.nil_ _ _⟩
  · simp at hcs
    subst hcs
    have hzc : zs.length = c := by simpa using hz
    refine ⟨(zs.take l).map fun z => UInt8.ofNat z.toNat, some x, c, ?_, ?_, hm, ?_⟩
    · rw [List.length_map, List.length_take, Nat.min_eq_left (by omega)]
    · rw [List.length_map, List.length_take]; omega
    · intro h0
      rw [List.length_map, List.length_take] at h0
      refine ⟨x, rfl, ?_, ?_⟩
      · have := World.block_lt_of_cell? W _ (hcell 0 (by omega))
        rwa [addr_add_block] at this
      · intro j y hj
        rw [List.getElem?_map] at hj
        cases hjz : (zs.take l)[j]? with
        | none => rw [hjz] at hj; cases hj
        | some z =>
          rw [hjz] at hj
          cases hj
          have hjl : j < (zs.take l).length := (List.getElem?_eq_some_iff.1 hjz).1
          rw [List.length_take] at hjl
          rw [List.getElem?_take, if_pos (by omega)] at hjz
          have hw := hwz z (List.mem_of_getElem? hjz)
          obtain ⟨n, rfl, hn⟩ := nat_u8 hw
          rw [hcell j (by omega)]
          simp [List.getD, hjz, bV]
          omega
theorem choose_list {α : Type} {p : Nat → α → Prop} (n : Nat) (h : ∀ i, i < n → ∃ a, p i a) : ∃ l : List α, l.length = n ∧ ∀ i a, l[i]? = some a → p i a := by
  induction n with
  | zero => exact ⟨[], rfl, fun i a hi => by simp at hi⟩
  | succ n ih =>
    obtain ⟨l, hl, hp⟩ := ih (fun i hi => h i (by omega))
    obtain ⟨a, ha⟩ := h n (by omega)
    refine ⟨l ++ [a], by simp [hl], fun i b hi => ?_⟩
    by_cases hlt : i < l.length
    · rw [List.getElem?_append_left hlt] at hi
      exact hp i b hi
    · rw [List.getElem?_append_right (by omega)] at hi
      have : i - l.length = 0 := by
        have := (List.getElem?_eq_some_iff.1 hi).1
        simp at this
        omega
      rw [this] at hi
      have e : i = n := by omega
      simp at hi
      subst e
      subst hi
      exact ha
set_option maxRecDepth 100000 in
theorem open_byts {H : Type} {enc : TypeId × Value → H} {W : World} {base' : Nat} {r : Reach} {v : Value} {d : DataW H} {p : List MemPlace}
    (hv : Value.okWide Try.prog W r base' 35 v) (h : DataW.Trod enc Try.prog W 0 (fun _ => true) true 35 v d p) : ∃ ls, Byts W W.heap.size v ls := by
  obtain ⟨a, len, cap, rfl⟩ := okWide_slice Try.underlying35 hv
  obtain ⟨fuel, hf⟩ := h
  rcases open_slice1 Try.underlying35 Try.cellsByt1 hf with ⟨hcs, _⟩ | ⟨x, l, c, m, n, V, D, Pl, hcs, _, hl, hm, hmm, _, hx⟩
  · simp [Value.cells] at hcs
    obtain ⟨rfl, rfl, rfl⟩ := hcs
    exact ⟨[], none, 0, rfl, Nat.le_refl _, by simp [maxLen], fun h0 => absurd h0 (by simp)⟩
  · simp [Value.cells] at hcs
    obtain ⟨rfl, rfl, rfl⟩ := hcs
    have hmc : m = cap := by simpa using hmm
    obtain ⟨ls, hls, hp⟩ := choose_list (p := fun i l => ∃ u, W.cell? (x.add i) = some u ∧ Byt W W.heap.size u l) len (fun i hi => by
      obtain ⟨h1, h2⟩ := hx i (by omega)
      obtain ⟨l, hl⟩ := open_byt_cell h2
      exact ⟨l, V i, h1, hl⟩)
    refine ⟨ls, some x, cap, by rw [hls], by omega, hm, fun h0 => ⟨x, rfl, ?_, hp⟩⟩
    have := World.block_lt_of_cell? W _ (hx 0 (by omega)).1
    rwa [addr_add_block] at this
set_option maxRecDepth 100000 in
theorem open_head {H : Type} {enc : TypeId × Value → H} {W : World} {base' : Nat} {r : Reach} {v : Value} {d : DataW H} {p : List MemPlace}
    (hv : Value.okWide Try.prog W r base' 77 v) (h : DataW.Trod enc Try.prog W 0 (fun _ => true) true 77 v d p) : ∃ q : Int × Int × Nat, v = headV q.1 q.2.1 q.2.2 ∧ q.2.2 < 4294967296 := by
  obtain ⟨v0, v1, v2, y0, y1, y2, n, rfl, _, _, h0, h1, h2⟩ := Joins.open_agg3 Try.underlying77 (by kernel_rfl) (by kernel_rfl) hv h
  obtain ⟨a, e0, _, _⟩ := DataW.trod_int Try.underlying3 h0
  obtain ⟨b, e1, _, _⟩ := DataW.trod_int Try.underlying3 h1
  obtain ⟨c, e2, _, w2⟩ := DataW.trod_int Try.underlying22 h2
  cases e0
  cases e1
  cases e2
  obtain ⟨c, rfl, hc⟩ := nat_u32 w2
  exact ⟨(a, b, c), rfl, hc⟩
end Go.Proofs.Ytmcjefdnkcpghaa
