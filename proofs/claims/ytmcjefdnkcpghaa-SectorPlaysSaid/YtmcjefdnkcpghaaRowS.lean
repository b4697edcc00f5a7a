/- HOW A SLICE OF octroilaw09.Step IS OPENED. -/
import Derived.Test.YtmcjefdnkcpghaaRow
import Derived.Test.YtmcjefdnkcpghaaStv
import Derived.Deep.Slices
import Derived.ChangeArms
namespace Go.Proofs.Ytmcjefdnkcpghaa
open Go.ChangeShapes Go.WideShapes Go.ChangeAt Go.RowKit Go.Deep
theorem Try.cellsStep : Try.prog.cellsOf 58 = 4 := by kernel_rfl
theorem Try.cellsInt : Try.prog.cellsOf 3 = 1 := by kernel_rfl
theorem Try.cellsByts : Try.prog.cellsOf 23 = 1 := by kernel_rfl
set_option maxRecDepth 100000 in
theorem open_byt_cell {H : Type} {enc : TypeId × Value → H} {W : World} {n : Nat} {v : Value} {x : DataW H × List MemPlace}
    (h : DataW.trod enc Try.prog W 0 (fun _ => true) true n 23 [v] = some x) : ∃ l, Byt W W.heap.size v l := by
  rcases open_ints Try.underlying23 Try.underlying5 Try.cells5 h with ⟨hcs, _⟩ | ⟨x, l, c, zs, hcs, _, hl, hm, hz, _, hcell, hwz⟩
  · simp at hcs
    subst hcs
    exact ⟨[], Byt.nil_ _ _⟩
  · simp at hcs
    subst hcs
    have hzc : zs.length = c := by simpa using hz
    refine ⟨(zs.take l).map fun z => UInt8.ofNat z.toNat, some x, c, ?_, ?_, hm, ?_⟩
    · rw [List.length_map, List.length_take, Nat.min_eq_left (by omega)]
    · rw [List.length_map, List.length_take]; omega
    · intro h0
      rw [List.length_map, List.length_take] at h0
      refine ⟨x, rfl, ?_, ?_⟩
      · have := World.block_lt_of_cell? W _ (hcell 0 (by omega))
        rwa [addr_add_block] at this
      · intro j y hj
        rw [List.getElem?_map] at hj
        cases hjz : (zs.take l)[j]? with
        | none => rw [hjz] at hj; cases hj
        | some z =>
          rw [hjz] at hj
          cases hj
          have hjl : j < (zs.take l).length := (List.getElem?_eq_some_iff.1 hjz).1
          rw [List.length_take] at hjl
          rw [List.getElem?_take, if_pos (by omega)] at hjz
          have hw := hwz z (List.mem_of_getElem? hjz)
          obtain ⟨n, rfl, hn⟩ := nat_u8 hw
          rw [hcell j (by omega)]
          simp [List.getD, hjz, bV]
          omega
theorem choose_list {α : Type} {p : Nat → α → Prop} (n : Nat) (h : ∀ i, i < n → ∃ a, p i a) : ∃ l : List α, l.length = n ∧ ∀ i a, l[i]? = some a → p i a := by
  induction n with
  | zero => exact ⟨[], rfl, fun i a hi => by simp at hi⟩
  | succ n ih =>
    obtain ⟨l, hl, hp⟩ := ih (fun i hi => h i (by omega))
    obtain ⟨a, ha⟩ := h n (by omega)
    refine ⟨l ++ [a], by simp [hl], fun i b hi => ?_⟩
    by_cases hlt : i < l.length
    · rw [List.getElem?_append_left hlt] at hi
      exact hp i b hi
    · rw [List.getElem?_append_right (by omega)] at hi
      have : i - l.length = 0 := by
        have := (List.getElem?_eq_some_iff.1 hi).1
        simp at this
        omega
      rw [this] at hi
      have e : i = n := by omega
      simp at hi
      subst e
      subst hi
      exact ha
set_option maxRecDepth 100000 in
/-- a Step's four cells -/
theorem open_step_cells {H : Type} {enc : TypeId × Value → H} {W : World} {n : Nat} {cs : List Value} {x : DataW H × List MemPlace}
    (h : DataW.trod enc Try.prog W 0 (fun _ => true) true n 58 cs = some x) : ∃ o : Stv, o.ok ∧ cs = [.int .i64 o.kind, .int .i64 o.i, .int .i64 o.n, o.bv] ∧ Byt W W.heap.size o.bv o.b := by
  obtain ⟨xs, k, _, _, hl, hxl, hf⟩ := DataW.trod_struct Try.underlying58 h
  rw [Try.cellsStep] at hl
  match cs, hl with
  | [v0, v1, v2, v3], _ =>
    have g0 := hf 0 _ rfl
    have g1 := hf 1 _ rfl
    have g2 := hf 2 _ rfl
    have g3 := hf 3 _ rfl
    simp [Try.cellsInt, Try.cellsByts] at g0 g1 g2 g3
    match xs, hxl with
    | [y0, y1, y2, y3], _ =>
      simp at g0 g1 g2 g3
      obtain ⟨a, e0, _, w0⟩ := DataW.trod_int Try.underlying3 g0
      obtain ⟨b, e1, _, w1⟩ := DataW.trod_int Try.underlying3 g1
      obtain ⟨c, e2, _, w2⟩ := DataW.trod_int Try.underlying3 g2
      obtain ⟨l, hl⟩ := open_byt_cell g3
      cases e0
      cases e1
      cases e2
      exact ⟨⟨a, b, c, v3, l⟩, ⟨(int_i64 w0).1, (int_i64 w0).2, (int_i64 w1).1, (int_i64 w1).2, (int_i64 w2).1, (int_i64 w2).2⟩, rfl, hl⟩
theorem stAt_of {W : World} {x : Addr} {i : Nat} {o : Stv} (h : W.cells? 0 (x.add (i * 4)) 4 = some [.int .i64 o.kind, .int .i64 o.i, .int .i64 o.n, o.bv]) (hb : Byt W W.heap.size o.bv o.b) : StAt W W.heap.size (x.add (i * 4)) o := by
  obtain ⟨_, _, hc⟩ := World.cells?_some h
  generalize x.add (i * 4) = p at *
  have e0 := hc 0 (by omega)
  have e1 := hc 1 (by omega)
  have e2 := hc 2 (by omega)
  have e3 := hc 3 (by omega)
  have hp : ∀ j, j ≠ 0 → p.add j = ⟨p.block, p.off + j, none⟩ := fun j hj => by unfold Addr.add; rw [if_neg hj]
  rw [hp 1 (by decide)] at e1
  rw [hp 2 (by decide)] at e2
  rw [hp 3 (by decide)] at e3
  exact ⟨by simpa [Addr.add] using e0, e1, e2, e3, hb⟩
set_option maxRecDepth 100000 in
theorem open_steps {H : Type} {enc : TypeId × Value → H} {W : World} {base' : Nat} {r : Reach} {v : Value} {d : DataW H} {p : List MemPlace}
    (hv : Value.okWide Try.prog W r base' 52 v) (h : DataW.Trod enc Try.prog W 0 (fun _ => true) true 52 v d p) : ∃ ls, Steps W W.heap.size v ls := by
  obtain ⟨a, len, cap, rfl⟩ := okWide_slice Try.underlying52 hv
  obtain ⟨fuel, hf⟩ := h
  rcases open_slice Try.underlying52 hf with ⟨hcs, _⟩ | ⟨x, l, c, m, n, D, Pl, hcs, _, hl, hm, hmm, _, hx⟩
  · simp [Value.cells] at hcs
    obtain ⟨rfl, rfl, rfl⟩ := hcs
    exact ⟨[], none, 0, rfl, Nat.le_refl _, by simp [maxLen], fun h0 => absurd h0 (by simp)⟩
  · simp [Value.cells] at hcs
    obtain ⟨rfl, rfl, rfl⟩ := hcs
    have hmc : m = cap := by simpa using hmm
    obtain ⟨ls, hls, hp⟩ := choose_list (p := fun i (o : Stv) => o.ok ∧ StAt W W.heap.size (x.add (i * 4)) o) len (fun i hi => by
      obtain ⟨cs', h1, h2⟩ := hx i (by omega)
      obtain ⟨o, hok, rfl, hb⟩ := open_step_cells h2
      rw [Try.cellsStep] at h1
      exact ⟨o, hok, stAt_of h1 hb⟩)
    refine ⟨ls, some x, cap, by rw [hls], by omega, hm, fun h0 => ⟨x, rfl, ?_, hp⟩⟩
    have := World.block_lt_of_cell? W _ (hp 0 _ (List.getElem?_eq_getElem h0)).2.c0
    rwa [addr_add_block] at this
end Go.Proofs.Ytmcjefdnkcpghaa
