/- HOW A SLICE OF octroilaw11.Part IS OPENED. -/
import Derived.Test.YtmcjefdnkcpghaaRowTz
import Derived.Test.YtmcjefdnkcpghaaZp
namespace Go.Proofs.Ytmcjefdnkcpghaa
open Go.ChangeShapes Go.WideShapes Go.ChangeAt Go.RowKit Go.Deep
theorem Try.cellsPart : Try.prog.cellsOf 154 = 4 := by kernel_rfl
theorem Try.cellsInt2 : Try.prog.cellsOf 3 = 1 := by kernel_rfl
theorem Try.cellsBool2 : Try.prog.cellsOf 4 = 1 := by kernel_rfl
theorem Try.cellsByts2 : Try.prog.cellsOf 23 = 1 := by kernel_rfl
set_option maxRecDepth 100000 in
/-- a Part's four cells -/
theorem open_part_cells {H : Type} {enc : TypeId × Value → H} {W : World} {n : Nat} {cs : List Value} {x : DataW H × List MemPlace}
    (h : DataW.trod enc Try.prog W 0 (fun _ => true) true n 154 cs = some x) : ∃ o : Ptv, o.ok ∧ cs = [.int .i64 o.seq, .int .i64 o.many, o.bv, .bool o.raw] ∧ Byt W W.heap.size o.bv o.b := by
  obtain ⟨xs, k, _, _, hl, hxl, hf⟩ := DataW.trod_struct Try.underlying154 h
  rw [Try.cellsPart] at hl
  match cs, hl with
  | [v0, v1, v2, v3], _ =>
    have g0 := hf 0 _ rfl
    have g1 := hf 1 _ rfl
    have g2 := hf 2 _ rfl
    have g3 := hf 3 _ rfl
    simp [Try.cellsInt2, Try.cellsByts2, Try.cellsBool2] at g0 g1 g2 g3
    match xs, hxl with
    | [y0, y1, y2, y3], _ =>
      simp at g0 g1 g2 g3
      obtain ⟨a, e0, _, w0⟩ := DataW.trod_int Try.underlying3 g0
      obtain ⟨b, e1, _, w1⟩ := DataW.trod_int Try.underlying3 g1
      obtain ⟨l, hl⟩ := open_byt_cell g2
      obtain ⟨r, e3, _⟩ := DataW.trod_bool Try.underlying4 g3
      cases e0
      cases e1
      cases e3
      exact ⟨⟨a, b, v2, l, r⟩, ⟨(int_i64 w0).1, (int_i64 w0).2, (int_i64 w1).1, (int_i64 w1).2⟩, rfl, hl⟩
theorem ptAt_of {W : World} {x : Addr} {i : Nat} {o : Ptv} (h : W.cells? 0 (x.add (i * 4)) 4 = some [.int .i64 o.seq, .int .i64 o.many, o.bv, .bool o.raw]) (hb : Byt W W.heap.size o.bv o.b) : PtAt W W.heap.size (x.add (i * 4)) o := by
  obtain ⟨_, _, hc⟩ := World.cells?_some h
  generalize x.add (i * 4) = p at *
  have e0 := hc 0 (by omega)
  have e1 := hc 1 (by omega)
  have e2 := hc 2 (by omega)
  have e3 := hc 3 (by omega)
  have hp : ∀ j, j ≠ 0 → p.add j = ⟨p.block, p.off + j, none⟩ := fun j hj => by unfold Addr.add; rw [if_neg hj]
  rw [hp 1 (by decide)] at e1
  rw [hp 2 (by decide)] at e2
  rw [hp 3 (by decide)] at e3
  exact ⟨by simpa [Addr.add] using e0, e1, e2, e3, hb⟩
set_option maxRecDepth 100000 in
theorem open_parts {H : Type} {enc : TypeId × Value → H} {W : World} {base' : Nat} {r : Reach} {v : Value} {d : DataW H} {p : List MemPlace}
    (hv : Value.okWide Try.prog W r base' 90 v) (h : DataW.Trod enc Try.prog W 0 (fun _ => true) true 90 v d p) : ∃ ls, Parts W W.heap.size v ls := by
  obtain ⟨a, len, cap, rfl⟩ := okWide_slice Try.underlying90 hv
  obtain ⟨fuel, hf⟩ := h
  rcases open_slice Try.underlying90 hf with ⟨hcs, _⟩ | ⟨x, l, c, m, n, D, Pl, hcs, _, hl, hm, hmm, _, hx⟩
  · simp [Value.cells] at hcs
    obtain ⟨rfl, rfl, rfl⟩ := hcs
    exact ⟨[], none, 0, rfl, Nat.le_refl _, by simp [maxLen], fun h0 => absurd h0 (by simp)⟩
  · simp [Value.cells] at hcs
    obtain ⟨rfl, rfl, rfl⟩ := hcs
    have hmc : m = cap := by simpa using hmm
    obtain ⟨ls, hls, hp⟩ := choose_list (p := fun i (o : Ptv) => o.ok ∧ PtAt W W.heap.size (x.add (i * 4)) o) len (fun i hi => by
      obtain ⟨cs', h1, h2⟩ := hx i (by omega)
      obtain ⟨o, hok, rfl, hb⟩ := open_part_cells h2
      rw [Try.cellsPart] at h1
      exact ⟨o, hok, ptAt_of h1 hb⟩)
    refine ⟨ls, some x, cap, by rw [hls], by omega, hm, fun h0 => ⟨x, rfl, ?_, hp⟩⟩
    have := World.block_lt_of_cell? W _ (hp 0 _ (List.getElem?_eq_getElem h0)).2.c0
    rwa [addr_add_block] at this
end Go.Proofs.Ytmcjefdnkcpghaa
