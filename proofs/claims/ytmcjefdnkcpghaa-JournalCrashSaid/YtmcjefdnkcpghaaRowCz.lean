/- HOW A Cut, AND A SLICE OF octroilaw12.Cut, ARE OPENED. -/
import Derived.Test.YtmcjefdnkcpghaaRowTz
import Derived.Test.YtmcjefdnkcpghaaCuAz
namespace Go.Proofs.Ytmcjefdnkcpghaa
open Go.ChangeShapes Go.WideShapes Go.ChangeAt Go.RowKit Go.Deep
theorem Try.cellsCut : Try.prog.cellsOf 130 = 2 := by kernel_rfl
theorem Try.cellsInt3 : Try.prog.cellsOf 3 = 1 := by kernel_rfl
set_option maxRecDepth 100000 in
/-- a Cut's two cells -/
theorem open_cut_cells {H : Type} {enc : TypeId × Value → H} {W : World} {n : Nat} {cs : List Value} {x : DataW H × List MemPlace}
    (h : DataW.trod enc Try.prog W 0 (fun _ => true) true n 130 cs = some x) : ∃ o : Int × Int, CutOk o ∧ cs = [.int .i64 o.1, .int .i64 o.2] := by
  obtain ⟨xs, k, _, _, hl, hxl, hf⟩ := DataW.trod_struct Try.underlying130 h
  rw [Try.cellsCut] at hl
  match cs, hl with
  | [v0, v1], _ =>
    have g0 := hf 0 _ rfl
    have g1 := hf 1 _ rfl
    simp [Try.cellsInt3] at g0 g1
    match xs, hxl with
    | [y0, y1], _ =>
      simp at g0 g1
      obtain ⟨a, e0, _, w0⟩ := DataW.trod_int Try.underlying3 g0
      obtain ⟨b, e1, _, w1⟩ := DataW.trod_int Try.underlying3 g1
      cases e0
      cases e1
      exact ⟨(a, b), ⟨int_i64 w0, int_i64 w1⟩, rfl⟩
set_option maxRecDepth 100000 in
theorem open_cut {H : Type} {enc : TypeId × Value → H} {W : World} {base' : Nat} {r : Reach} {v : Value} {d : DataW H} {p : List MemPlace}
    (_hv : Value.okWide Try.prog W r base' 130 v) (h : DataW.Trod enc Try.prog W 0 (fun _ => true) true 130 v d p) : ∃ o : Int × Int, CutOk o ∧ v = .agg #[.int .i64 o.1, .int .i64 o.2] := by
  obtain ⟨v0, v1, y0, y1, n, rfl, _, _, h0, h1⟩ := Joins.open_agg2 Try.underlying130 (by kernel_rfl) (by kernel_rfl) _hv h
  obtain ⟨a, e0, _, w0⟩ := DataW.trod_int Try.underlying3 h0
  obtain ⟨b, e1, _, w1⟩ := DataW.trod_int Try.underlying3 h1
  cases e0
  cases e1
  exact ⟨(a, b), ⟨int_i64 w0, int_i64 w1⟩, rfl⟩
set_option maxRecDepth 100000 in
theorem open_cuts {H : Type} {enc : TypeId × Value → H} {W : World} {base' : Nat} {r : Reach} {v : Value} {d : DataW H} {p : List MemPlace}
    (hv : Value.okWide Try.prog W r base' 131 v) (h : DataW.Trod enc Try.prog W 0 (fun _ => true) true 131 v d p) : ∃ ls, Cuts W W.heap.size v ls := by
  obtain ⟨a, len, cap, rfl⟩ := okWide_slice Try.underlying131 hv
  obtain ⟨fuel, hf⟩ := h
  rcases open_slice Try.underlying131 hf with ⟨hcs, _⟩ | ⟨x, l, c, m, n, D, Pl, hcs, _, hl, hm, hmm, _, hx⟩
  · simp [Value.cells] at hcs
    obtain ⟨rfl, rfl, rfl⟩ := hcs
    exact ⟨[], none, 0, rfl, Nat.le_refl _, by simp [maxLen], fun h0 => absurd h0 (by simp)⟩
  · simp [Value.cells] at hcs
    obtain ⟨rfl, rfl, rfl⟩ := hcs
    have hmc : m = cap := by simpa using hmm
    obtain ⟨ls, hls, hp⟩ := choose_list (p := fun i (o : Int × Int) => CutOk o ∧ W.cell? (x.add (i * 2)) = some (.int .i64 o.1) ∧ W.cell? ⟨(x.add (i * 2)).block, (x.add (i * 2)).off + 1, none⟩ = some (.int .i64 o.2)) len (fun i hi => by
      obtain ⟨cs', h1, h2⟩ := hx i (by omega)
      obtain ⟨o, hok, rfl⟩ := open_cut_cells h2
      rw [Try.cellsCut] at h1
      obtain ⟨_, _, hc⟩ := World.cells?_some h1
      generalize x.add (i * 2) = q at *
      have e0 := hc 0 (by omega)
      have e1 := hc 1 (by omega)
      rw [show q.add 1 = ⟨q.block, q.off + 1, none⟩ by unfold Addr.add; rw [if_neg (by decide)]] at e1
      exact ⟨o, hok, by simpa [Addr.add] using e0, e1⟩)
    refine ⟨ls, some x, cap, by rw [hls], by omega, hm, fun h0 => ⟨x, rfl, ?_, hp⟩⟩
    have := World.block_lt_of_cell? W _ (hp 0 _ (List.getElem?_eq_getElem h0)).2.1
    rwa [addr_add_block] at this
end Go.Proofs.Ytmcjefdnkcpghaa
