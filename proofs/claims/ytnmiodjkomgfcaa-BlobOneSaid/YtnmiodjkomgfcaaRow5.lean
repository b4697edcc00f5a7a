/- HOW A SLICE OF octroilaw05.Op IS OPENED. -/
import Derived.Test.YtnmiodjkomgfcaaRow
import Derived.Test.YtnmiodjkomgfcaaOpv
import Derived.Deep.Slices
import Derived.ChangeArms
namespace Go.Proofs.Ytnmiodjkomgfcaa
open Go.ChangeShapes Go.WideShapes Go.ChangeAt Go.RowKit Go.Deep
theorem Try.cellsOp : Try.prog.cellsOf 29 = 4 := by kernel_rfl
theorem Try.cellsInt : Try.prog.cellsOf 3 = 1 := by kernel_rfl
theorem Try.cellsStr : Try.prog.cellsOf 9 = 1 := by kernel_rfl
theorem Try.cellsBool : Try.prog.cellsOf 4 = 1 := by kernel_rfl
theorem choose_list {α : Type} {p : Nat → α → Prop} (n : Nat) (h : ∀ i, i < n → ∃ a, p i a) : ∃ l : List α, l.length = n ∧ ∀ i a, l[i]? = some a → p i a := by
  induction n with
  | zero => exact ⟨[], rfl, fun i a hi => by simp at hi⟩
  | succ n ih =>
    obtain ⟨l, hl, hp⟩ := ih (fun i hi => h i (by omega))
    obtain ⟨a, ha⟩ := h n (by omega)
    refine ⟨l ++ [a], by simp [hl], fun i b hi => ?_⟩
    by_cases hlt : i < l.length
    · rw [List.getElem?_append_left hlt] at hi
      exact hp i b hi
    · rw [List.getElem?_append_right (by omega)] at hi
      have : i - l.length = 0 := by
        have := (List.getElem?_eq_some_iff.1 hi).1
        simp at this
        omega
      rw [this] at hi
      have e : i = n := by omega
      simp at hi
      subst e
      subst hi
      exact ha
set_option maxRecDepth 100000 in
/-- an Op's four cells -/
theorem open_op_cells {H : Type} {enc : TypeId × Value → H} {W : World} {n : Nat} {cs : List Value} {x : DataW H × List MemPlace}
    (h : DataW.trod enc Try.prog W 0 (fun _ => true) true n 29 cs = some x) : ∃ o : Opv, o.ok ∧ cs = [.int .i64 o.kind, .int .i64 o.n, .string o.s, .bool o.b] := by
  obtain ⟨xs, k, _, _, hl, hxl, hf⟩ := DataW.trod_struct Try.underlying29 h
  rw [Try.cellsOp] at hl
  match cs, hl with
  | [v0, v1, v2, v3], _ =>
    have g0 := hf 0 _ rfl
    have g1 := hf 1 _ rfl
    have g2 := hf 2 _ rfl
    have g3 := hf 3 _ rfl
    simp [Try.cellsInt, Try.cellsStr, Try.cellsBool] at g0 g1 g2 g3
    match xs, hxl with
    | [y0, y1, y2, y3], _ =>
      simp at g0 g1 g2 g3
      obtain ⟨a, e0, _, w0⟩ := DataW.trod_int Try.underlying3 g0
      obtain ⟨b, e1, _, w1⟩ := DataW.trod_int Try.underlying3 g1
      obtain ⟨s, e2, _, w2⟩ := DataW.trod_string Try.underlying9 g2
      obtain ⟨t, e3, _⟩ := DataW.trod_bool Try.underlying4 g3
      cases e0
      cases e1
      cases e2
      cases e3
      exact ⟨⟨a, b, s, t⟩, ⟨(int_i64 w0).1, (int_i64 w0).2, (int_i64 w1).1, (int_i64 w1).2, w2⟩, rfl⟩
theorem opAt_of {W : World} {x : Addr} {i : Nat} {o : Opv} (h : W.cells? 0 (x.add (i * 4)) 4 = some [.int .i64 o.kind, .int .i64 o.n, .string o.s, .bool o.b]) : OpAt W (x.add (i * 4)) o := by
  obtain ⟨_, _, hc⟩ := World.cells?_some h
  generalize x.add (i * 4) = p at *
  have e0 := hc 0 (by omega)
  have e1 := hc 1 (by omega)
  have e2 := hc 2 (by omega)
  have e3 := hc 3 (by omega)
  have hp : ∀ j, j ≠ 0 → p.add j = ⟨p.block, p.off + j, none⟩ := fun j hj => by unfold Addr.add; rw [if_neg hj]
  rw [hp 1 (by decide)] at e1
  rw [hp 2 (by decide)] at e2
  rw [hp 3 (by decide)] at e3
  exact ⟨by simpa [Addr.add] using e0, e1, e2, e3⟩
set_option maxRecDepth 100000 in
theorem open_ops {H : Type} {enc : TypeId × Value → H} {W : World} {base' : Nat} {r : Reach} {v : Value} {d : DataW H} {p : List MemPlace}
    (hv : Value.okWide Try.prog W r base' 22 v) (h : DataW.Trod enc Try.prog W 0 (fun _ => true) true 22 v d p) : ∃ ls, Ops W W.heap.size v ls := by
  obtain ⟨a, len, cap, rfl⟩ := okWide_slice Try.underlying22 hv
  obtain ⟨fuel, hf⟩ := h
  rcases open_slice Try.underlying22 hf with ⟨hcs, _⟩ | ⟨x, l, c, m, n, D, Pl, hcs, _, hl, hm, hmm, _, hx⟩
  · simp [Value.cells] at hcs
    obtain ⟨rfl, rfl, rfl⟩ := hcs
    exact ⟨[], none, 0, rfl, Nat.le_refl _, by simp [maxLen], fun h0 => absurd h0 (by simp)⟩
  · simp [Value.cells] at hcs
    obtain ⟨rfl, rfl, rfl⟩ := hcs
    have hmc : m = cap := by simpa using hmm
    obtain ⟨ls, hls, hp⟩ := choose_list (p := fun i (o : Opv) => o.ok ∧ OpAt W (x.add (i * 4)) o) len (fun i hi => by
      obtain ⟨cs', h1, h2⟩ := hx i (by omega)
      obtain ⟨o, hok, rfl⟩ := open_op_cells h2
      rw [Try.cellsOp] at h1
      exact ⟨o, hok, opAt_of h1⟩)
    refine ⟨ls, some x, cap, by rw [hls], by omega, hm, fun h0 => ⟨x, rfl, ?_, hp⟩⟩
    have := World.block_lt_of_cell? W _ (hp 0 _ (List.getElem?_eq_getElem h0)).2.c0
    rwa [addr_add_block] at this
end Go.Proofs.Ytnmiodjkomgfcaa
