/- THE WALK OF octroilaw09.Like. -/
import Derived.Test.YtmcjefdnkcpghaaSeN
import Derived.Test.YtmcjefdnkcpghaaRnd
import Derived.Test.YtmcjefdnkcpghaaGr3
namespace Go.Proofs.Ytmcjefdnkcpghaa
open Go.RowKit Go.Shelf
attribute [local go_sem] Oper.semAt_some
theorem ownFrom_block {β : Type} {B b : Nat} (f : β → Array Value) (t : TypeId) : OwnFrom B (fun (s : β) W => W.heap[b]? = some (.cells (f s) t (0, 0))) := fun s A C row hs hg hr =>
  (hg.block b (lt_of_block hs) (fun e => by
    obtain ⟨_, o, ho, hc⟩ := hr b e.symm
    rw [show A.heap[b]? = _ from hs] at ho
    cases ho; cases hc)).trans hs
theorem argA_own (d : Dv) (B : Nat) (pre : List (Nat × Value)) (x : Nat × Value) : OwnFrom B (fun (_ : Unit) W => argA d pre x W) := fun s A C row hs hg hr => by
  obtain ⟨h1, h2, h3⟩ := hs
  refine ⟨h1, h2, ?_⟩
  obtain ⟨ad, c, hv, hc, hm, hx⟩ := h3
  refine ⟨ad, c, hv, hc, hm, fun h0 => ?_⟩
  obtain ⟨a, e, hb, hj⟩ := hx h0
  exact ⟨a, e, Nat.lt_of_lt_of_le hb hg.size, fun j y hy => cell_kept (hj j y hy) hg (fun r e => (hr r e).2)⟩
theorem run_eql_func_nil (w : World) (f : Fn) (a b : Array Value) : (binOp .eql 49 (.func f a b) .nilFunc).run Try.prog w = .ok (.bool false) w := by
  have hu : ∀ d : Nat, (Op.equalIn (d + 1) 49 (.func f a b) .nilFunc).run Try.prog w = .ok false w := fun d => by
    simp [Op.equalIn, run_underlying Try.underlying49]
  simp only [binOp]
  simp [Op.equal, Op.maxDepth, hu 9999]
set_option maxRecDepth 100000 in
set_option maxHeartbeats 2000000 in
theorem like_any {w : World} {Z : Nat → Prop} {g B : Nat} {v : Value} {d : Dv} (h : Dk w Z g d) (hhi : ∀ b, Z b → b < w.heap.size) (hr : Rv w B v d) : Calls Try.prog 48 #[.pointer (some ⟨g, 0, none⟩), v] w fun e w' => e = .returned (.bool true) ∧ Below w.heap.size w w' := by
  obtain ⟨A, c, After, Torn, rfl, hs, hf, ht⟩ := hr.heap
  have hq := run_eql_func_nil
  refine (callsIn_wide (n := 3)).1 ?_
  refine callsIn_of_wp_marks Try.func48 rfl trivial ?_ rfl
  simp only [Try.ntmps48, List.size_toArray, List.length_cons, List.length_nil, Nat.reduceAdd, Nat.reduceSub, Array.replicate_succ, Array.replicate_zero, List.push_toArray, List.append_toArray, List.nil_append, List.cons_append]
  gi_wp2_with (refine ⟨trivial, ?_⟩; gi_at_call 40; refine (callsIn_wide.2 (all_any g _)).mono ?_; rintro e w' ⟨rfl, rfl⟩)
  obtain ⟨W0, hW0⟩ : ∃ W0, W0 = (((w.alloc (.cells #[.slice A d.n c, .int .i64 After, .int .i64 Torn, .bool d.dead, .int .i64 (d.writes : Int)] 55)).alloc (.cells #[.bool false] 4)).alloc (.cells #[.int .i64 0] 3)).alloc (.cells #[.pointer (some ⟨g, 0, none⟩)] 41) := ⟨_, rfl⟩
  rw [← hW0]
  have hsz : W0.heap.size = w.heap.size + 4 := by rw [hW0]; simp
  have hb0 : Below w.heap.size w W0 := by rw [hW0]; exact ((((Below.refl _ w).alloc (Nat.le_refl _) _).alloc (by simp) _).alloc (by simp <;> omega) _).alloc (by simp <;> omega) _
  have hR0 : W0.heap[w.heap.size]? = some (.cells #[.slice A d.n c, .int .i64 After, .int .i64 Torn, .bool d.dead, .int .i64 (d.writes : Int)] 55 (0, 0)) := by
    rw [hW0, Below.heap_alloc _ _ _ (by simp <;> omega), Below.heap_alloc _ _ _ (by simp <;> omega), Below.heap_alloc _ _ _ (by simp)]
    exact heap_alloc_new w _
  have hE0 : W0.heap[w.heap.size + 1]? = some (.cells #[.bool false] 4 (0, 0)) := by
    rw [hW0, Below.heap_alloc _ _ _ (by simp <;> omega), Below.heap_alloc _ _ _ (by simp)]
    have := heap_alloc_new (w.alloc (.cells #[.slice A d.n c, .int .i64 After, .int .i64 Torn, .bool d.dead, .int .i64 (d.writes : Int)] 55)) (.cells #[.bool false] 4 (0, 0))
    simpa using this
  have hC0 : W0.heap[w.heap.size + 1 + 1]? = some (.cells #[.int .i64 0] 3 (0, 0)) := by
    rw [hW0, Below.heap_alloc _ _ _ (by simp)]
    have := heap_alloc_new ((w.alloc (.cells #[.slice A d.n c, .int .i64 After, .int .i64 Torn, .bool d.dead, .int .i64 (d.writes : Int)] 55)).alloc (.cells #[.bool false] 4)) (.cells #[.int .i64 0] 3 (0, 0))
    simpa using this
  have hP0 : W0.heap[w.heap.size + 1 + 1 + 1]? = some (.cells #[.pointer (some ⟨g, 0, none⟩)] 41 (0, 0)) := by
    rw [hW0]
    have := heap_alloc_new (((w.alloc (.cells #[.slice A d.n c, .int .i64 After, .int .i64 Torn, .bool d.dead, .int .i64 (d.writes : Int)] 55)).alloc (.cells #[.bool false] 4)).alloc (.cells #[.int .i64 0] 3)) (.cells #[.pointer (some ⟨g, 0, none⟩)] 41 (0, 0))
    simpa using this
  clear hW0
  have hgw := h.lt
  have hd0 := h.below hb0
  refine wpIn_range rfl (by omega) (gf := 92) (lb := #[.pointer (some ⟨w.heap.size + 1 + 1 + 1, 0, none⟩)]) rfl trivial (enters_of Try.func92 (by kernel_rfl) rfl)
    (all1_seq hd0 (3 - 1) (by omega) (T := fun b => b < w.heap.size ∨ b = w.heap.size + 1 + 1 + 1) (by simp [World.cell?, hP0]) (.inr rfl) (fun b hb => .inl (hhi b hb)))
    (fun _ _ => trivial) (by rintro b (hb | rfl) <;> omega) (Below.refl _ _) (fun _ => rfl)
    (fun pre W => (W.heap[w.heap.size]? = some (.cells #[.slice A d.n c, .int .i64 After, .int .i64 Torn, .bool d.dead, .int .i64 (d.writes : Int)] 55 (0, 0)) ∧ W.heap[w.heap.size + 1]? = some (.cells #[.bool false] 4 (0, 0)) ∧ W.heap[w.heap.size + 1 + 1]? = some (.cells #[.int .i64 (pre.length : Int)] 3 (0, 0))) ∧ Below w.heap.size w W)
    (fun _ _ _ => False) ?hI (fun _ _ _ _ _ h _ _ => h) ?hIk (fun _ _ _ _ h _ => h) (fun pre x => argA_own d _ pre x) ⟨⟨hR0, hE0, hC0⟩, hb0⟩
    (fun x => { tmps := #[.pointer (some ⟨g, 0, none⟩), .agg #[.slice A d.n c, .int .i64 After, .int .i64 Torn, .bool d.dead, .int .i64 (d.writes : Int)], undef, .pointer (some ⟨w.heap.size, 0, none⟩), .pointer (some ⟨w.heap.size + 1, 0, none⟩), .pointer (some ⟨w.heap.size + 1 + 1, 0, none⟩), .func (.func 92) #[] #[.pointer (some ⟨w.heap.size + 1 + 1 + 1, 0, none⟩)], .int .i64 (x.1 : Int), x.2, .pointer (some ⟨g, 0, none⟩), .func (.func 92) #[] #[.pointer (some ⟨w.heap.size + 1 + 1 + 1, 0, none⟩)], .func (.func 92) #[] #[.pointer (some ⟨w.heap.size + 1 + 1 + 1, 0, none⟩)], .bool false, .func (.func 92) #[] #[.pointer (some ⟨w.heap.size + 1 + 1 + 1, 0, none⟩)], .int .i64 (x.1 : Int), x.2, undef, undef, undef, undef, undef, undef, undef, undef, undef, undef, undef, undef, undef, undef, undef, undef, undef, undef, undef, undef, undef, undef, undef, undef, undef, undef, undef, undef, undef, undef, undef, undef, undef, undef, undef, undef, undef, undef, undef, undef, undef, undef, undef, undef, undef, undef, undef], defers := [] }) ?assign ?body ?done ?stop
  case hI => exact OwnFrom.and (OwnFrom.and (ownFrom_block _ _) (OwnFrom.and (ownFrom_block _ _) (ownFrom_block _ _))) (ownFrom_below (Nat.le_refl _) (by omega))
  case hIk =>
    rintro s A B ⟨⟨h1, h2, h3⟩, h4⟩ hk
    exact ⟨⟨hk.heap h1 trivial, hk.heap h2 trivial, hk.heap h3 trivial⟩, h4.trans ((hk.toBelow (B := w.heap.size) h4.size (fun _ _ => trivial)))⟩
  case assign =>
    intro l x W K hK
    simp only [encA]
    gi_wp2
    exact hK
  case body =>
    rintro l pre ⟨k, v⟩ W hl hrec ⟨⟨hR, hE, hC⟩, hB⟩ ⟨hx1, hx2, hx3⟩
    simp only at hx1 hx2 hx3
    subst hx1
    have hpl : (pagesS d.L d.n).length = d.n := pagesS_len _ _
    obtain ⟨ad, c', hv, hc1, hc2, hb, hcell⟩ := (hs.below hB).1.at_ pre.length (by rw [hpl]; exact hx2)
    rw [hpl] at hv hc1
    simp only [Value.slice.injEq, true_and] at hv
    obtain ⟨rfl, rfl⟩ := hv
    have hcell' : W.cell? (ad.add pre.length) = some (.string (bsA (page d.L pre.length))) := by rw [hcell]; simp [pagesS, strK]
    have cR : W.cell? ⟨w.heap.size, 0, none⟩ = some (.slice (some ad) d.n c) := by simp [World.cell?, hR]
    have cC : W.cell? ⟨w.heap.size + 1 + 1, 0, none⟩ = some (.int .i64 (pre.length : Int)) := by simp [World.cell?, hC]
    have fC := free_of hC 0
    have hcv : ∀ m, (convert 23 9 v).run Try.prog (W.drewN m) = .ok (.string (bsA (page d.L pre.length))) (W.drewN m) := fun m => (show Byt (W.drewN m) W.heap.size v _ from hx3).str
    have e2 : decide (d.n ≤ pre.length) = false := decide_eq_false (by omega)
    have hn2 := h.ok.n2
    have hlt := lt_of_block hC
    generalize bsA (page d.L pre.length) = pg at *
    clear hcell hx3 h hd0 hr hs hf
    gi_wp2
    refine wpIn_round_quiet (by kernel_rfl) (by kernel_rfl) (by kernel_rfl) ?_ ?_
    rotate_left
    repeat (go_big_quiet_step (fail))
    refine wpQuiet_nil ?_
    intro _ hw'
    obtain ⟨nq, hw''⟩ := hw'
    subst hw''
    · gi_wp2
      have hkf := (KeepsOthers.setCell W ⟨w.heap.size + 1 + 1, 0, none⟩ (.int .i64 ((pre.length : Int) + 1))).from W0.heap.size
      have hkq : Kept (fun b => b < w.heap.size ∨ b = w.heap.size + 1 + 1 + 1) W (W.drewN nq) := ⟨rfl, rfl, rfl, Nat.le_refl _, fun _ _ _ => rfl⟩
      have hbq : Below w.heap.size W (W.drewN nq) := ⟨rfl, rfl, rfl, Nat.le_refl _, fun _ _ => rfl⟩
      have hCq : (W.drewN nq).heap[w.heap.size + 1 + 1]? = some (.cells #[.int .i64 (pre.length : Int)] 3 (0, 0)) := hC
      refine ⟨⟨hkf.size, hkf.same⟩, hkq.setCell ⟨w.heap.size + 1 + 1, 0, none⟩ _ (fun _ hS => ?_), ⟨?_, ?_, ?_⟩, (hB.trans hbq).setCell (p := ⟨w.heap.size + 1 + 1, 0, none⟩) (by show w.heap.size ≤ w.heap.size + 1 + 1; omega) _⟩
      · have hS' : w.heap.size + 1 + 1 < w.heap.size ∨ w.heap.size + 1 + 1 = w.heap.size + 1 + 1 + 1 := hS
        omega
      · rw [Below.heap_setCell _ _ _ _ (fun e => by have e' : w.heap.size = w.heap.size + 1 + 1 := e; omega)]; exact hR
      · rw [Below.heap_setCell _ _ _ _ (fun e => by have e' : w.heap.size + 1 = w.heap.size + 1 + 1 := e; omega)]; exact hE
      · have := Lib.heap_setCell_same (i := 0) hCq (.int .i64 ((pre.length : Int) + 1))
        simpa using this
    · rintro ⟨a, w, h⟩
      exact h
  case done =>
    rintro D ys W hD hys ⟨⟨hR, hE, hC⟩, hB⟩ hK
    rw [hys] at hC
    gi_wp2
    have hBd : Below w.heap.size w W.drew := hB.drew
    have hF : ∀ W', Below W.drew.heap.size W.drew W' → W'.cell? ⟨w.heap.size + 1 + 1, 0, none⟩ = some (.int .i64 (d.n : Int)) ∧ W'.cell? ⟨w.heap.size, 0, none⟩ = some (.slice A d.n c) ∧ W'.cell? ⟨w.heap.size, 3, none⟩ = some (.bool d.dead) ∧ W'.cell? ⟨w.heap.size, 4, none⟩ = some (.int .i64 (d.writes : Int)) ∧ Dk W' Z g d := fun W' hb => by
      have k1 := (hb.block (w.heap.size + 1 + 1) (lt_of_block hC)).trans hC
      have k2 := (hb.block w.heap.size (lt_of_block hR)).trans hR
      exact ⟨by simp [World.cell?, k1], by simp [World.cell?, k2], by simp [World.cell?, k2], by simp [World.cell?, k2], (h.below hBd).below hb⟩
    have HF := Lib.hid hF
    have HBD := Lib.hid hBd
    have hlt := lt_of_block hE
    have HE := Lib.hid hE
    have HK := Lib.hid hK
    clear hF hBd hR hC hB hK
    refine wpIn_wide.2 ?_
    -- region 11
    refine wp_region_tail 25 (by kernel_rfl) [isS (.int .i64 (d.n : Int)), isS (.pointer (some ⟨w.heap.size, 0, none⟩)), isS (.slice A d.n c), isS (.int .i64 (d.n : Int)), isS (.bool true), isS (.bool true), isS (.pointer (some ⟨g, 0, none⟩)), isS (.int .i64 (d.n : Int)), isS (.int .i64 (d.n : Int)), isS (.bool true), isS (.bool true), isS (.bool true), isS (.pointer (some ⟨g, 0, none⟩)), isS (.bool d.dead), isS (.pointer (some ⟨w.heap.size, 3, none⟩)), isS (.bool d.dead), isS (.bool true), isS (.bool true), isS (.bool true), isS (.pointer (some ⟨g, 0, none⟩)), isS (.int .i64 (d.writes : Int)), isS (.pointer (some ⟨w.heap.size, 4, none⟩)), isS (.int .i64 (d.writes : Int)), isS (.bool true), isS (.bool true)] (by kernel_rfl) (by kernel_rfl) (by kernel_rfl) (by kernel_rfl) (by decide) (by kernel_rfl) (fun i hi => ?_) (fun a w5 hc hs => ?_)
    · match i, hi with
      | 0, _ =>
        intro a W hc hd
        have z5 := hc.same 5 (by kernel_rfl)
        simp only [List.getElem?_toArray, List.getElem?_cons_succ, List.getElem?_cons_zero, Option.getD_some] at z5
        obtain ⟨q1, q2, q3, q4, q5⟩ := HF.out W hc.below
        refine obl_val rfl (wanted_none rfl) ?_ rfl
        go_simp
      | 1, _ =>
        intro a W hc hd
        have z3 := hc.same 3 (by kernel_rfl)
        simp only [List.getElem?_toArray, List.getElem?_cons_succ, List.getElem?_cons_zero, Option.getD_some] at z3
        refine obl_val rfl (wanted_none rfl) ?_ rfl
        go_simp
      | 2, _ =>
        intro a W hc hd
        have s1 : a.tmps[39]?.getD undef = (.pointer (some ⟨w.heap.size, 0, none⟩)) := hd 1 (by kernel_rfl)
        obtain ⟨q1, q2, q3, q4, q5⟩ := HF.out W hc.below
        refine obl_val rfl (wanted_none rfl) ?_ rfl
        go_simp
      | 3, _ =>
        intro a W hc hd
        have s2 : a.tmps[40]?.getD undef = (.slice A d.n c) := hd 2 (by kernel_rfl)
        refine obl_val rfl (wanted_none rfl) ?_ rfl
        go_simp
      | 4, _ =>
        intro a W hc hd
        have s0 : a.tmps[38]?.getD undef = (.int .i64 (d.n : Int)) := hd 0 (by kernel_rfl)
        have s3 : a.tmps[41]?.getD undef = (.int .i64 (d.n : Int)) := hd 3 (by kernel_rfl)
        refine obl_val rfl (wanted_none rfl) ?_ rfl
        go_simp
      | 5, _ =>
        intro a W hc hd
        have s4 : a.tmps[42]?.getD undef = (.bool true) := hd 4 (by kernel_rfl)
        refine obl_val rfl (wanted_none rfl) ?_ rfl
        go_simp
      | 6, _ =>
        intro a W hc hd
        have z0 := hc.same 0 (by kernel_rfl)
        have s5 : a.tmps[43]?.getD undef = (.bool true) := hd 5 (by kernel_rfl)
        simp only [List.getElem?_toArray, List.getElem?_cons_zero, Option.getD_some] at z0
        refine obl_val rfl (wanted_some rfl rfl s5) ?_ rfl
        go_simp
      | 7, _ =>
        intro a W hc hd
        have s6 : a.tmps[44]?.getD undef = (.pointer (some ⟨g, 0, none⟩)) := hd 6 (by kernel_rfl)
        have s5 : a.tmps[43]?.getD undef = (.bool true) := hd 5 (by kernel_rfl)
        obtain ⟨q1, q2, q3, q4, q5⟩ := HF.out W hc.below
        refine obl_call rfl (wanted_some rfl rfl s5) (by go_simp) (slen_any q5) ?_
        rintro e w8 ⟨rfl, rfl⟩
        exact ⟨_, rfl, rfl, Below.refl _ _⟩
      | 8, _ =>
        intro a W hc hd
        have z5 := hc.same 5 (by kernel_rfl)
        have s5 : a.tmps[43]?.getD undef = (.bool true) := hd 5 (by kernel_rfl)
        simp only [List.getElem?_toArray, List.getElem?_cons_succ, List.getElem?_cons_zero, Option.getD_some] at z5
        obtain ⟨q1, q2, q3, q4, q5⟩ := HF.out W hc.below
        refine obl_val rfl (wanted_some rfl rfl s5) ?_ rfl
        go_simp
      | 9, _ =>
        intro a W hc hd
        have s7 : a.tmps[45]?.getD undef = (.int .i64 (d.n : Int)) := hd 7 (by kernel_rfl)
        have s8 : a.tmps[46]?.getD undef = (.int .i64 (d.n : Int)) := hd 8 (by kernel_rfl)
        have s5 : a.tmps[43]?.getD undef = (.bool true) := hd 5 (by kernel_rfl)
        refine obl_val rfl (wanted_some rfl rfl s5) ?_ rfl
        go_simp
      | 10, _ =>
        intro a W hc hd
        have s5 : a.tmps[43]?.getD undef = (.bool true) := hd 5 (by kernel_rfl)
        have s9 : a.tmps[47]?.getD undef = (.bool true) := hd 9 (by kernel_rfl)
        refine obl_val rfl (wanted_none rfl) ?_ rfl
        go_simp
      | 11, _ =>
        intro a W hc hd
        have s10 : a.tmps[48]?.getD undef = (.bool true) := hd 10 (by kernel_rfl)
        refine obl_val rfl (wanted_none rfl) ?_ rfl
        go_simp
      | 12, _ =>
        intro a W hc hd
        have z0 := hc.same 0 (by kernel_rfl)
        have s11 : a.tmps[49]?.getD undef = (.bool true) := hd 11 (by kernel_rfl)
        simp only [List.getElem?_toArray, List.getElem?_cons_zero, Option.getD_some] at z0
        refine obl_val rfl (wanted_some rfl rfl s11) ?_ rfl
        go_simp
      | 13, _ =>
        intro a W hc hd
        have s12 : a.tmps[50]?.getD undef = (.pointer (some ⟨g, 0, none⟩)) := hd 12 (by kernel_rfl)
        have s11 : a.tmps[49]?.getD undef = (.bool true) := hd 11 (by kernel_rfl)
        obtain ⟨q1, q2, q3, q4, q5⟩ := HF.out W hc.below
        refine obl_call rfl (wanted_some rfl rfl s11) (by go_simp) (sdead_any q5) ?_
        rintro e w8 ⟨rfl, rfl⟩
        exact ⟨_, rfl, rfl, Below.refl _ _⟩
      | 14, _ =>
        intro a W hc hd
        have z3 := hc.same 3 (by kernel_rfl)
        have s11 : a.tmps[49]?.getD undef = (.bool true) := hd 11 (by kernel_rfl)
        simp only [List.getElem?_toArray, List.getElem?_cons_succ, List.getElem?_cons_zero, Option.getD_some] at z3
        refine obl_val rfl (wanted_some rfl rfl s11) ?_ rfl
        go_simp
      | 15, _ =>
        intro a W hc hd
        have s14 : a.tmps[52]?.getD undef = (.pointer (some ⟨w.heap.size, 3, none⟩)) := hd 14 (by kernel_rfl)
        have s11 : a.tmps[49]?.getD undef = (.bool true) := hd 11 (by kernel_rfl)
        obtain ⟨q1, q2, q3, q4, q5⟩ := HF.out W hc.below
        refine obl_val rfl (wanted_some rfl rfl s11) ?_ rfl
        go_simp
      | 16, _ =>
        intro a W hc hd
        have s13 : a.tmps[51]?.getD undef = (.bool d.dead) := hd 13 (by kernel_rfl)
        have s15 : a.tmps[53]?.getD undef = (.bool d.dead) := hd 15 (by kernel_rfl)
        have s11 : a.tmps[49]?.getD undef = (.bool true) := hd 11 (by kernel_rfl)
        refine obl_val rfl (wanted_some rfl rfl s11) ?_ rfl
        go_simp
      | 17, _ =>
        intro a W hc hd
        have s11 : a.tmps[49]?.getD undef = (.bool true) := hd 11 (by kernel_rfl)
        have s16 : a.tmps[54]?.getD undef = (.bool true) := hd 16 (by kernel_rfl)
        refine obl_val rfl (wanted_none rfl) ?_ rfl
        go_simp
      | 18, _ =>
        intro a W hc hd
        have s17 : a.tmps[55]?.getD undef = (.bool true) := hd 17 (by kernel_rfl)
        refine obl_val rfl (wanted_none rfl) ?_ rfl
        go_simp
      | 19, _ =>
        intro a W hc hd
        have z0 := hc.same 0 (by kernel_rfl)
        have s18 : a.tmps[56]?.getD undef = (.bool true) := hd 18 (by kernel_rfl)
        simp only [List.getElem?_toArray, List.getElem?_cons_zero, Option.getD_some] at z0
        refine obl_val rfl (wanted_some rfl rfl s18) ?_ rfl
        go_simp
      | 20, _ =>
        intro a W hc hd
        have s19 : a.tmps[57]?.getD undef = (.pointer (some ⟨g, 0, none⟩)) := hd 19 (by kernel_rfl)
        have s18 : a.tmps[56]?.getD undef = (.bool true) := hd 18 (by kernel_rfl)
        obtain ⟨q1, q2, q3, q4, q5⟩ := HF.out W hc.below
        refine obl_call rfl (wanted_some rfl rfl s18) (by go_simp) (swrites_any q5) ?_
        rintro e w8 ⟨rfl, rfl⟩
        exact ⟨_, rfl, rfl, Below.refl _ _⟩
      | 21, _ =>
        intro a W hc hd
        have z3 := hc.same 3 (by kernel_rfl)
        have s18 : a.tmps[56]?.getD undef = (.bool true) := hd 18 (by kernel_rfl)
        simp only [List.getElem?_toArray, List.getElem?_cons_succ, List.getElem?_cons_zero, Option.getD_some] at z3
        refine obl_val rfl (wanted_some rfl rfl s18) ?_ rfl
        go_simp
      | 22, _ =>
        intro a W hc hd
        have s21 : a.tmps[59]?.getD undef = (.pointer (some ⟨w.heap.size, 4, none⟩)) := hd 21 (by kernel_rfl)
        have s18 : a.tmps[56]?.getD undef = (.bool true) := hd 18 (by kernel_rfl)
        obtain ⟨q1, q2, q3, q4, q5⟩ := HF.out W hc.below
        refine obl_val rfl (wanted_some rfl rfl s18) ?_ rfl
        go_simp
      | 23, _ =>
        intro a W hc hd
        have s20 : a.tmps[58]?.getD undef = (.int .i64 (d.writes : Int)) := hd 20 (by kernel_rfl)
        have s22 : a.tmps[60]?.getD undef = (.int .i64 (d.writes : Int)) := hd 22 (by kernel_rfl)
        have s18 : a.tmps[56]?.getD undef = (.bool true) := hd 18 (by kernel_rfl)
        refine obl_val rfl (wanted_some rfl rfl s18) ?_ rfl
        go_simp
      | 24, _ =>
        intro a W hc hd
        have s18 : a.tmps[56]?.getD undef = (.bool true) := hd 18 (by kernel_rfl)
        have s23 : a.tmps[61]?.getD undef = (.bool true) := hd 23 (by kernel_rfl)
        refine obl_val rfl (wanted_none rfl) ?_ rfl
        go_simp
      | n + 25, h => exact absurd h (by omega)
    · have hfr := grow_frame hc [(38, .int .i64 (d.n : Int)), (39, .pointer (some ⟨w.heap.size, 0, none⟩)), (40, .slice A d.n c), (41, .int .i64 (d.n : Int)), (42, .bool true), (43, .bool true), (44, .pointer (some ⟨g, 0, none⟩)), (45, .int .i64 (d.n : Int)), (46, .int .i64 (d.n : Int)), (47, .bool true), (48, .bool true), (49, .bool true), (50, .pointer (some ⟨g, 0, none⟩)), (51, .bool d.dead), (52, .pointer (some ⟨w.heap.size, 3, none⟩)), (53, .bool d.dead), (54, .bool true), (55, .bool true), (56, .bool true), (57, .pointer (some ⟨g, 0, none⟩)), (58, .int .i64 (d.writes : Int)), (59, .pointer (some ⟨w.heap.size, 4, none⟩)), (60, .int .i64 (d.writes : Int)), (61, .bool true), (62, .bool true)] (by kernel_rfl) (fun p hp => by
        simp only [List.mem_cons, List.not_mem_nil, or_false] at hp
        rcases hp with rfl | rfl | rfl | rfl | rfl | rfl | rfl | rfl | rfl | rfl | rfl | rfl | rfl | rfl | rfl | rfl | rfl | rfl | rfl | rfl | rfl | rfl | rfl | rfl | rfl
        · exact hs 0 38 (by decide) (by kernel_rfl)
        · exact hs 1 39 (by decide) (by kernel_rfl)
        · exact hs 2 40 (by decide) (by kernel_rfl)
        · exact hs 3 41 (by decide) (by kernel_rfl)
        · exact hs 4 42 (by decide) (by kernel_rfl)
        · exact hs 5 43 (by decide) (by kernel_rfl)
        · exact hs 6 44 (by decide) (by kernel_rfl)
        · exact hs 7 45 (by decide) (by kernel_rfl)
        · exact hs 8 46 (by decide) (by kernel_rfl)
        · exact hs 9 47 (by decide) (by kernel_rfl)
        · exact hs 10 48 (by decide) (by kernel_rfl)
        · exact hs 11 49 (by decide) (by kernel_rfl)
        · exact hs 12 50 (by decide) (by kernel_rfl)
        · exact hs 13 51 (by decide) (by kernel_rfl)
        · exact hs 14 52 (by decide) (by kernel_rfl)
        · exact hs 15 53 (by decide) (by kernel_rfl)
        · exact hs 16 54 (by decide) (by kernel_rfl)
        · exact hs 17 55 (by decide) (by kernel_rfl)
        · exact hs 18 56 (by decide) (by kernel_rfl)
        · exact hs 19 57 (by decide) (by kernel_rfl)
        · exact hs 20 58 (by decide) (by kernel_rfl)
        · exact hs 21 59 (by decide) (by kernel_rfl)
        · exact hs 22 60 (by decide) (by kernel_rfl)
        · exact hs 23 61 (by decide) (by kernel_rfl)
        · exact hs 24 62 (by decide) (by kernel_rfl)
        )
      simp only [List.range, List.range.loop, List.size_toArray, List.length_cons, List.length_nil, List.map_cons, List.map_nil, List.lookup_cons, List.lookup_nil, Nat.reduceAdd, Nat.reduceBEq, Option.getD_some, Option.getD_none, List.getElem?_toArray, List.getElem?_cons_succ, List.getElem?_cons_zero] at hfr
      subst hfr
    -- end 11
      have hE5 := (hc.below.block (w.heap.size + 1) hlt).trans HE.out
      have hK5 := (hc.below.block D (lt_of_block HK.out)).trans HK.out
      have hB5 := HBD.out.trans (hc.below.mono HBD.out.size)
      have e5 : w5.cell? ⟨w.heap.size + 1, 0, none⟩ = some (.bool false) := by simp [World.cell?, hE5]
      have f5 := free_of hE5 0
      clear hs hc
      simp only [List.drop_succ_cons, List.drop_zero]
      go_wp2
      gi_wp2
      have hK6 := (KeepsOthers.setCell w5 ⟨w.heap.size + 1, 0, none⟩ (.bool true)).same D _ hK5 rfl
      refine ⟨by simp, .inl ⟨_, _, rfl, run_takeDeferred hK6, ?_⟩⟩
      have hE6 : (w5.setCell ⟨w.heap.size + 1, 0, none⟩ (.bool true)).cell? ⟨w.heap.size + 1, 0, none⟩ = some (.bool true) := World.cell?_setCell_same' _ _ _ (by rw [e5]; rfl)
      have hc6 := cell_kept hE6 (grownBy_putObj' _ D (.deferred none)) (fun r e => by cases e; exact ⟨_, hK6, rfl⟩)
      refine ⟨.bool true, ?_, rfl, (hB5.setCell (p := ⟨w.heap.size + 1, 0, none⟩) (by show w.heap.size ≤ w.heap.size + 1; omega) _).trans (belowK_b (w := w) (Nat.le_refl _) _ D _ _ (by omega) hK6 rfl rfl)⟩
      simp [results, Try.results48, go_sem, hc6]
  case stop =>
    rintro D c pre W _ _ h _
    exact h.elim
end Go.Proofs.Ytmcjefdnkcpghaa
