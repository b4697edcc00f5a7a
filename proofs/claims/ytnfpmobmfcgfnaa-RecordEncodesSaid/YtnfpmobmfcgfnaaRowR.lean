/- HOW LINES, DOCUMENTS, COMMANDS AND SLICES OF DOCUMENTS ARE OPENED. -/
import Derived.Test.YtnfpmobmfcgfnaaPa
import Derived.Deep.Slices
import Derived.ChangeArms
import Derived.Lib.SmallJoins
namespace Go.Proofs.Ytnfpmobmfcgfnaa
open Go.ChangeShapes Go.WideShapes Go.ChangeAt Go.RowKit Go.Deep
theorem Try.cellsLine : Try.prog.cellsOf 55 = 9 := by kernel_rfl
theorem Try.cellsDoc : Try.prog.cellsOf 25 = 9 := by kernel_rfl
theorem Try.cellsCmd : Try.prog.cellsOf 53 = 22 := by kernel_rfl
theorem Try.cellsPer : Try.prog.cellsOf 51 = 3 := by kernel_rfl
theorem Try.cellsIntR : Try.prog.cellsOf 3 = 1 := by kernel_rfl
theorem Try.cellsStrR : Try.prog.cellsOf 9 = 1 := by kernel_rfl
theorem Try.cellsBoolR : Try.prog.cellsOf 4 = 1 := by kernel_rfl
theorem Try.cellsLinesR : Try.prog.cellsOf 23 = 1 := by kernel_rfl
theorem choose_list {α : Type} {p : Nat → α → Prop} (n : Nat) (h : ∀ i, i < n → ∃ a, p i a) : ∃ l : List α, l.length = n ∧ ∀ i a, l[i]? = some a → p i a := by
 induction n with
 | zero => exact ⟨[], rfl, fun i a hi => by simp at hi⟩
 | succ n ih =>
  obtain ⟨l, hl, hp⟩ := ih (fun i hi => h i (by omega))
  obtain ⟨a, ha⟩ := h n (by omega)
  refine ⟨l ++ [a], by simp [hl], fun i b hi => ?_⟩
  by_cases hlt : i < l.length
  ·rw [List.getElem?_append_left hlt] at hi
   exact hp i b hi
  ·rw [List.getElem?_append_right (by omega)] at hi
   have : i - l.length = 0 := by
    have := (List.getElem?_eq_some_iff.1 hi).1
    simp at this
    omega
   rw [this] at hi
   have e : i = n := by omega
   simp at hi
   subst e
   subst hi
   exact ha
section
variable {H : Type} {enc : TypeId × Value → H} {W : World} {n : Nat} {cs : List Value} {x : DataW H × List MemPlace}
set_option maxRecDepth 100000 in
theorem open_line_cells (h : DataW.trod enc Try.prog W 0 (fun _ => true) true n 55 cs = some x) : ∃ o : Ln, o.ok ∧ cs = o.vs.toList := by
 obtain ⟨xs, k, _, _, hl, hxl, hf⟩ := DataW.trod_struct Try.underlying55 h
 rw [Try.cellsLine] at hl
 match cs, hl with
 | [v0, v1, v2, v3, v4, v5, v6, v7, v8], _ =>
  have g0 := hf 0 _ rfl
  have g1 := hf 1 _ rfl
  have g2 := hf 2 _ rfl
  have g3 := hf 3 _ rfl
  have g4 := hf 4 _ rfl
  have g5 := hf 5 _ rfl
  have g6 := hf 6 _ rfl
  have g7 := hf 7 _ rfl
  have g8 := hf 8 _ rfl
  simp [Try.cellsIntR, Try.cellsStrR, Try.cellsBoolR] at g0 g1 g2 g3 g4 g5 g6 g7 g8
  match xs, hxl with
  | [y0, y1, y2, y3, y4, y5, y6, y7, y8], _ =>
   simp at g0 g1 g2 g3 g4 g5 g6 g7 g8
   obtain ⟨a0, e0, _, w0⟩ := DataW.trod_int Try.underlying3 g0
   obtain ⟨a1, e1, _, w1⟩ := DataW.trod_int Try.underlying3 g1
   obtain ⟨a2, e2, _, w2⟩ := DataW.trod_string Try.underlying9 g2
   obtain ⟨a3, e3, _, w3⟩ := DataW.trod_string Try.underlying9 g3
   obtain ⟨a4, e4, _, w4⟩ := DataW.trod_string Try.underlying9 g4
   obtain ⟨a5, e5, _, w5⟩ := DataW.trod_int Try.underlying3 g5
   obtain ⟨a6, e6, _⟩ := DataW.trod_bool Try.underlying4 g6
   obtain ⟨a7, e7, _, w7⟩ := DataW.trod_int Try.underlying3 g7
   obtain ⟨a8, e8, _⟩ := DataW.trod_bool Try.underlying4 g8
   cases e0
   cases e1
   cases e2
   cases e3
   cases e4
   cases e5
   cases e6
   cases e7
   cases e8
   exact ⟨⟨a0, a1, a2, a3, a4, a5, a6, a7, a8⟩, ⟨int_i64 w0, int_i64 w1, w2, w3, w4, int_i64 w5, int_i64 w7⟩, rfl⟩
theorem lnAt_of {p : Addr} {o : Ln} (h : W.cells? 0 p 9 = some o.vs.toList) : LnAt W p o := by
 obtain ⟨_, _, hc⟩ := World.cells?_some h
 refine LnAt.of fun j u hu => ?_
 have hj : j < 9 := (List.getElem?_eq_some_iff.1 hu).1
 exact (hc j hj).trans hu
set_option maxRecDepth 100000 in
theorem open_lns_cell {v : Value} (h : DataW.trod enc Try.prog W 0 (fun _ => true) true n 23 [v] = some x) : ∃ ls, Lns W W.heap.size v ls := by
 rcases open_slice Try.underlying23 h with ⟨hcs, _⟩ | ⟨x, l, c, m, n, D, Pl, hcs, _, hl, hm, hmm, _, hx⟩
 ·simp at hcs
  subst hcs
  exact ⟨[], Lns.nil_ _ _⟩
 ·simp at hcs
  subst hcs
  have hmc : m = c := by simpa using hmm
  obtain ⟨ls, hls, hp⟩ := choose_list (p := fun i (o : Ln) => o.ok ∧ LnAt W (x.add (i * 9)) o) l (fun i hi => by
   obtain ⟨cs', h1, h2⟩ := hx i (by omega)
   obtain ⟨o, hok, rfl⟩ := open_line_cells h2
   rw [Try.cellsLine] at h1
   exact ⟨o, hok, lnAt_of h1⟩)
  refine ⟨ls, some x, c, by rw [hls], by omega, hm, fun h0 => ⟨x, rfl, ?_, hp⟩⟩
  have := World.block_lt_of_cell? W _ (hp 0 _ (List.getElem?_eq_getElem h0)).2.c0
  rwa [addr_add_block] at this
set_option maxRecDepth 100000 in
theorem open_doc_cells (h : DataW.trod enc Try.prog W 0 (fun _ => true) true n 25 cs = some x) : ∃ (o : Dm) (lv : Value), o.ok ∧ cs = (o.vs lv).toList ∧ Lns W W.heap.size lv o.ls := by
 obtain ⟨xs, k, _, _, hl, hxl, hf⟩ := DataW.trod_struct Try.underlying25 h
 rw [Try.cellsDoc] at hl
 match cs, hl with
 | [v0, v1, v2, v3, v4, v5, v6, v7, v8], _ =>
  have g0 := hf 0 _ rfl
  have g1 := hf 1 _ rfl
  have g2 := hf 2 _ rfl
  have g3 := hf 3 _ rfl
  have g4 := hf 4 _ rfl
  have g5 := hf 5 _ rfl
  have g6 := hf 6 _ rfl
  have g7 := hf 7 _ rfl
  have g8 := hf 8 _ rfl
  simp [Try.cellsIntR, Try.cellsStrR, Try.cellsBoolR, Try.cellsLinesR] at g0 g1 g2 g3 g4 g5 g6 g7 g8
  match xs, hxl with
  | [y0, y1, y2, y3, y4, y5, y6, y7, y8], _ =>
   simp at g0 g1 g2 g3 g4 g5 g6 g7 g8
   obtain ⟨a0, e0, _, w0⟩ := DataW.trod_string Try.underlying9 g0
   obtain ⟨a1, e1, _⟩ := DataW.trod_bool Try.underlying4 g1
   obtain ⟨a2, e2, _⟩ := DataW.trod_bool Try.underlying4 g2
   obtain ⟨a3, e3, _, w3⟩ := DataW.trod_string Try.underlying9 g3
   obtain ⟨a4, e4, _, w4⟩ := DataW.trod_int Try.underlying3 g4
   obtain ⟨a5, e5, _, w5⟩ := DataW.trod_string Try.underlying9 g5
   obtain ⟨a6, e6, _, w6⟩ := DataW.trod_string Try.underlying9 g6
   obtain ⟨a7, e7, _, w7⟩ := DataW.trod_string Try.underlying9 g7
   obtain ⟨ls, hls⟩ := open_lns_cell g8
   cases e0
   cases e1
   cases e2
   cases e3
   cases e4
   cases e5
   cases e6
   cases e7
   exact ⟨⟨a0, a1, a2, a3, a4, a5, a6, a7, ls⟩, v8, ⟨w0, w3, int_i64 w4, w5, w6, w7, hls.ok⟩, rfl, hls⟩
end
section
variable {H : Type} {enc : TypeId × Value → H} {W : World} {base' : Nat} {r : Reach} {v : Value} {d : DataW H} {p : List MemPlace}
set_option maxRecDepth 100000 in
theorem open_line (hv : Value.okWide Try.prog W r base' 55 v) (h : DataW.Trod enc Try.prog W 0 (fun _ => true) true 55 v d p) : ∃ o : Ln, o.ok ∧ v = .agg o.vs := by
 obtain ⟨cs, rfl, _⟩ := okWide_struct Try.underlying55 hv
 obtain ⟨fuel, hf⟩ := h
 obtain ⟨o, h1, h2⟩ := open_line_cells hf
 exact ⟨o, h1, by congr 1; exact Array.toList_inj.1 h2⟩
set_option maxRecDepth 100000 in
theorem open_cmd (hv : Value.okWide Try.prog W r base' 53 v) (h : DataW.Trod enc Try.prog W 0 (fun _ => true) true 53 v d p) : ∃ o : Cm, CmV W W.heap.size v o := by
 obtain ⟨cs, rfl, _⟩ := okWide_struct Try.underlying53 hv
 obtain ⟨fuel, hf⟩ := h
 obtain ⟨xs, k, _, _, hl, hxl, hf⟩ := DataW.trod_struct Try.underlying53 hf
 rw [Try.cellsCmd] at hl
 obtain ⟨cs⟩ := cs
 simp only [Value.cells] at hl hf
 match cs, hl with
 | [v0, v1, v2, v3, v4, v5, v6, v7, v8, v9, v10, v11, v12, v13, v14, v15, v16, v17, v18, v19, v20, v21], _ =>
  have g0 := hf 0 _ rfl
  have g1 := hf 1 _ rfl
  have g2 := hf 2 _ rfl
  have g3 := hf 3 _ rfl
  have g4 := hf 4 _ rfl
  have g5 := hf 5 _ rfl
  have g6 := hf 6 _ rfl
  have g7 := hf 7 _ rfl
  have g8 := hf 8 _ rfl
  have g9 := hf 9 _ rfl
  have g10 := hf 10 _ rfl
  have g11 := hf 11 _ rfl
  simp [Try.cellsIntR, Try.cellsStrR, Try.cellsPer, Try.cellsDoc] at g0 g1 g2 g3 g4 g5 g6 g7 g8 g9 g10 g11
  match xs, hxl with
  | [y0, y1, y2, y3, y4, y5, y6, y7, y8, y9, y10, y11], _ =>
   simp at g0 g1 g2 g3 g4 g5 g6 g7 g8 g9 g10 g11
   obtain ⟨a0, e0, _, w0⟩ := DataW.trod_int Try.underlying3 g0
   obtain ⟨a1, e1, _, w1⟩ := DataW.trod_string Try.underlying9 g1
   obtain ⟨a2, e2, _, w2⟩ := DataW.trod_string Try.underlying9 g2
   obtain ⟨a3, e3, _, w3⟩ := DataW.trod_int Try.underlying3 g3
   obtain ⟨a4, e4, _, w4⟩ := DataW.trod_int Try.underlying3 g4
   obtain ⟨a5, e5, _, w5⟩ := DataW.trod_int Try.underlying3 g5
   obtain ⟨a6, e6, _, w6⟩ := DataW.trod_int Try.underlying3 g6
   obtain ⟨a7, e7, _, w7⟩ := DataW.trod_int Try.underlying3 g7
   obtain ⟨a8, e8, _, w8⟩ := DataW.trod_int Try.underlying3 g8
   obtain ⟨a9, e9, _, w9⟩ := DataW.trod_int Try.underlying3 g9
   obtain ⟨zs, k', _, _, _, hzl, hz⟩ := DataW.trod_struct Try.underlying51 g10
   have q0 := hz 0 _ rfl
   have q1 := hz 1 _ rfl
   have q2 := hz 2 _ rfl
   simp [Try.cellsIntR] at q0 q1 q2
   match zs, hzl with
   | [z0, z1, z2], _ =>
    simp at q0 q1 q2
    obtain ⟨a10, e10, _, w10⟩ := DataW.trod_int Try.underlying3 q0
    obtain ⟨a11, e11, _, w11⟩ := DataW.trod_int Try.underlying3 q1
    obtain ⟨a12, e12, _, w12⟩ := DataW.trod_int Try.underlying3 q2
    obtain ⟨o, lv, h1, h2, h3⟩ := open_doc_cells g11
    cases e0
    cases e1
    cases e2
    cases e3
    cases e4
    cases e5
    cases e6
    cases e7
    cases e8
    cases e9
    cases e10
    cases e11
    cases e12
    cases h2
    exact ⟨⟨a0, a1, a2, a3, a4, a5, a6, a7, a8, a9, a10, a11, a12, o⟩, _, rfl, h3, ⟨int_i64 w0, w1, w2, int_i64 w3, int_i64 w4, int_i64 w5, int_i64 w6, int_i64 w7, int_i64 w8, int_i64 w9, int_i64 w10, int_i64 w11, int_i64 w12, h1⟩⟩
end
end Go.Proofs.Ytnfpmobmfcgfnaa

