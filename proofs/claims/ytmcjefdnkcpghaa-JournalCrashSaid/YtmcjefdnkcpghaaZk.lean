/- THE DOCUMENT'S JOURNAL: Append, the walk. -/
import Derived.Test.YtmcjefdnkcpghaaZj
import Derived.Test.YtmcjefdnkcpghaaZg
namespace Go.Proofs.Ytmcjefdnkcpghaa
open Go.RowKit
/-- a value of the document's journal, that tells the same as j -/
def Rjv (w : World) (B : Nat) (v : Value) (j : Jv) : Prop :=
  ∃ v0 v1 v2 v3 v4, v = .agg #[v0, v1, v2, v3, v4, .int .i64 (j.many : Int), .int .i64 (j.tail : Int), .bool j.dead] ∧ Rv w B (.agg #[v0, v1, v2, v3, v4]) j.d
theorem Rjv.below {w w' : World} {B : Nat} {v : Value} {j : Jv} (h : Rjv w B v j) (k : Below B w w') : Rjv w' B v j := by
  obtain ⟨v0, v1, v2, v3, v4, e, hr⟩ := h
  exact ⟨v0, v1, v2, v3, v4, e, hr.below k⟩
theorem Rjv.heap {w : World} {B : Nat} {v : Value} {j : Jv} (h : Rjv w B v j) : Rjv w w.heap.size v j := by
  obtain ⟨v0, v1, v2, v3, v4, e, hr⟩ := h
  exact ⟨v0, v1, v2, v3, v4, e, hr.heap⟩
theorem Rjv.drew {w : World} {v : Value} {j : Jv} (h : Rjv w w.heap.size v j) : Rjv w.drew w.drew.heap.size v j := (h.below ((Below.refl _ w).drew)).heap
/-- its box -/
def JBox (w : World) (b : Nat) (v0 v1 v2 v3 v4 v5 v6 v7 : Value) : Prop := w.heap[b]? = some (.cells #[v0, v1, v2, v3, v4, v5, v6, v7] 123 (0, 0))
section
variable {w w' : World} {b : Nat} {v0 v1 v2 v3 v4 v5 v6 v7 u0 u1 u2 u3 u4 u5 u6 u7 : Value}
theorem JBox.below (h : JBox w b v0 v1 v2 v3 v4 v5 v6 v7) (k : Below w.heap.size w w') : JBox w' b v0 v1 v2 v3 v4 v5 v6 v7 := (k.block b (lt_of_block h)).trans h
theorem JBox.cells (h : JBox w b v0 v1 v2 v3 v4 v5 v6 v7) : w.cell? ⟨b, 0, none⟩ = some v0 ∧ w.cell? ⟨b, 1, none⟩ = some v1 ∧ w.cell? ⟨b, 2, none⟩ = some v2 ∧ w.cell? ⟨b, 3, none⟩ = some v3 ∧ w.cell? ⟨b, 4, none⟩ = some v4 ∧ w.cell? ⟨b, 5, none⟩ = some v5 ∧ w.cell? ⟨b, 6, none⟩ = some v6 ∧ w.cell? ⟨b, 7, none⟩ = some v7 := by
  refine ⟨?_, ?_, ?_, ?_, ?_, ?_, ?_, ?_⟩ <;> exact cells_of h _ _ rfl
theorem JBox.free (h : JBox w b v0 v1 v2 v3 v4 v5 v6 v7) : w.frozen? ⟨b, 0, none⟩ = false ∧ w.frozen? ⟨b, 1, none⟩ = false ∧ w.frozen? ⟨b, 2, none⟩ = false ∧ w.frozen? ⟨b, 3, none⟩ = false ∧ w.frozen? ⟨b, 4, none⟩ = false ∧ w.frozen? ⟨b, 5, none⟩ = false ∧ w.frozen? ⟨b, 6, none⟩ = false ∧ w.frozen? ⟨b, 7, none⟩ = false :=
  ⟨free_of h 0, free_of h 1, free_of h 2, free_of h 3, free_of h 4, free_of h 5, free_of h 6, free_of h 7⟩
/-- a store of the whole -/
abbrev set8 (w : World) (b : Nat) (v0 v1 v2 v3 v4 v5 v6 v7 : Value) : World := (((((((w.setCell ⟨b, 0, none⟩ v0).setCell ⟨b, 1, none⟩ v1).setCell ⟨b, 2, none⟩ v2).setCell ⟨b, 3, none⟩ v3).setCell ⟨b, 4, none⟩ v4).setCell ⟨b, 5, none⟩ v5).setCell ⟨b, 6, none⟩ v6).setCell ⟨b, 7, none⟩ v7
theorem JBox.set (h : JBox w b u0 u1 u2 u3 u4 u5 u6 u7) (v0 v1 v2 v3 v4 v5 v6 v7 : Value) : JBox (set8 w b v0 v1 v2 v3 v4 v5 v6 v7) b v0 v1 v2 v3 v4 v5 v6 v7 ∧ Kept (fun x => x ≠ b) w (set8 w b v0 v1 v2 v3 v4 v5 v6 v7) := by
  have s0 := Lib.heap_setCell_same (i := 0) h v0
  have s1 := Lib.heap_setCell_same (i := 1) s0 v1
  have s2 := Lib.heap_setCell_same (i := 2) s1 v2
  have s3 := Lib.heap_setCell_same (i := 3) s2 v3
  have s4 := Lib.heap_setCell_same (i := 4) s3 v4
  have s5 := Lib.heap_setCell_same (i := 5) s4 v5
  have s6 := Lib.heap_setCell_same (i := 6) s5 v6
  have s7 := Lib.heap_setCell_same (i := 7) s6 v7
  refine ⟨by simpa [JBox] using s7, ?_⟩
  exact ((((((((Kept.refl _ w).setCell _ _ (fun _ h => h rfl)).setCell _ _ (fun _ h => h rfl)).setCell _ _ (fun _ h => h rfl)).setCell _ _ (fun _ h => h rfl)).setCell _ _ (fun _ h => h rfl)).setCell _ _ (fun _ h => h rfl)).setCell _ _ (fun _ h => h rfl)).setCell _ _ (fun _ h => h rfl)
end
/-- the document's disk stands, whatever a block turns to that holds no texts -/
theorem Rv.off {w w' : World} {B b : Nat} {v : Value} {d : Dv} (h : Rv w B v d) {cs : Array Value} {t : TypeId} {fr : Nat × Nat} (hb : w.heap[b]? = some (.cells cs t fr)) (ht : t ≠ 9) (k : Kept (fun x => x ≠ b) w w') : Rv w' w'.heap.size v d := by
  obtain ⟨A, c, a, t, e, hs, hf, htt⟩ := h
  refine ⟨A, c, a, t, e, ?_, hf, htt⟩
  obtain ⟨⟨A', c', hv, hc, hm, hr⟩, h2⟩ := hs
  by_cases h0 : 0 < (pagesS d.L d.n).length
  · obtain ⟨ad, hA, hlt, hx⟩ := hr h0
    rw [pagesS_len] at hv
    cases hv
    subst hA
    obtain ⟨cs, hcs⟩ := h2 ad _ c rfl h0
    have hn : ad.block ≠ b := kind_ne hcs hb ht.symm
    have hl := lt_of_block hcs
    have hk := (k.block _ hl hn).trans hcs
    refine ⟨⟨some ad, c, by rw [pagesS_len], by rw [pagesS_len] at *; exact hc, hm, fun _ => ⟨ad, rfl, lt_of_block hk, fun j x hj => ?_⟩⟩, fun ad' n' c' e _ => ?_⟩
    · exact (k.cell (p := ad.add j) (by rw [addr_add_block]; exact hl) (by rw [addr_add_block]; exact hn)).trans (hx j x hj)
    · cases e; exact ⟨cs, hk⟩
  · exact ⟨⟨A', c', hv, hc, hm, fun h => absurd h h0⟩, fun ad n' c' e h => absurd h h0⟩
def rvV (d : Dv) : Sp := ⟨fun x w => Rv w w.heap.size x d, fun _ _ _ h hb => (h.below hb).heap⟩
def boxS (lo : Nat) : Sp := ⟨fun x w => ∃ b, x = .pointer (some ⟨b, 0, none⟩) ∧ RBox w b (.agg #[.slice none 0 0, .int .i64 0, .int .i64 0, .bool false, .int .i64 0]) ∧ lo ≤ b, fun x w w' h hb => by
  obtain ⟨b, e, h1, h2⟩ := h
  exact ⟨b, e, h1.below hb, h2⟩⟩
abbrev set5 (w : World) (b : Nat) (v0 v1 v2 v3 v4 : Value) : World := ((((w.setCell ⟨b, 0, none⟩ v0).setCell ⟨b, 1, none⟩ v1).setCell ⟨b, 2, none⟩ v2).setCell ⟨b, 3, none⟩ v3).setCell ⟨b, 4, none⟩ v4
/-- the disk is put into its box, and into the journal's -/
theorem rapp_step {W : World} {b5 b : Nat} {z v0 v1 v2 v3 v4 u0 u1 u2 u3 u4 u5 u6 u7 : Value} {d : Dv} (h5 : RBox W b5 z) (hb : JBox W b u0 u1 u2 u3 u4 u5 u6 u7) (hne : b ≠ b5) (hr : Rv W W.heap.size (.agg #[v0, v1, v2, v3, v4]) d) :
    JBox (set5 (set5 W b5 v0 v1 v2 v3 v4) b v0 v1 v2 v3 v4) b v0 v1 v2 v3 v4 u5 u6 u7 ∧ Rv (set5 (set5 W b5 v0 v1 v2 v3 v4) b v0 v1 v2 v3 v4) (set5 (set5 W b5 v0 v1 v2 v3 v4) b v0 v1 v2 v3 v4).heap.size (.agg #[v0, v1, v2, v3, v4]) d ∧
    Kept (fun x => x ≠ b5 ∧ x ≠ b) W (set5 (set5 W b5 v0 v1 v2 v3 v4) b v0 v1 v2 v3 v4) := by
  obtain ⟨h1, h2⟩ := h5.set v0 v1 v2 v3 v4
  have hr2 := hr.other h5 h2
  have hb2 : JBox (set5 W b5 v0 v1 v2 v3 v4) b u0 u1 u2 u3 u4 u5 u6 u7 := h2.heap hb hne
  have s0 := Lib.heap_setCell_same (i := 0) hb2 v0
  have s1 := Lib.heap_setCell_same (i := 1) s0 v1
  have s2 := Lib.heap_setCell_same (i := 2) s1 v2
  have s3 := Lib.heap_setCell_same (i := 3) s2 v3
  have s4 := Lib.heap_setCell_same (i := 4) s3 v4
  have hk : Kept (fun x => x ≠ b) (set5 W b5 v0 v1 v2 v3 v4) (set5 (set5 W b5 v0 v1 v2 v3 v4) b v0 v1 v2 v3 v4) := (((((Kept.refl _ _).setCell _ _ (fun _ h => h rfl)).setCell _ _ (fun _ h => h rfl)).setCell _ _ (fun _ h => h rfl)).setCell _ _ (fun _ h => h rfl)).setCell _ _ (fun _ h => h rfl)
  refine ⟨by simpa [JBox] using s4, hr2.off hb2 (by decide) hk, ?_⟩
  exact (h2.mono (fun _ _ h => h.1)).trans (hk.mono (fun _ _ h => h.2)) (fun _ _ h => h)
def RAppendPost (w : World) (R : Jv × Int × Int) (e : Ending) (w' : World) : Prop := ∃ v, e = .returned (.tuple #[v, .int .i64 R.2.1, .int .i64 R.2.2]) ∧ Rjv w' w'.heap.size v R.1 ∧ Below w.heap.size w w'
/-- what is handed back stands in the result's box -/
theorem rapp_ret {w W : World} {b : Nat} {v0 v1 v2 v3 v4 u0 u1 u2 u3 u4 u5 u6 u7 : Value} {d : Dv} (hr : Rv W W.heap.size (.agg #[v0, v1, v2, v3, v4]) d) (hx : JBox W b u0 u1 u2 u3 u4 u5 u6 u7) (hlo : w.heap.size ≤ b) (hbel : Below w.heap.size w W) (many tail : Nat) (dead : Bool) :
    Rjv (set8 W b v0 v1 v2 v3 v4 (.int .i64 (many : Int)) (.int .i64 (tail : Int)) (.bool dead)) (set8 W b v0 v1 v2 v3 v4 (.int .i64 (many : Int)) (.int .i64 (tail : Int)) (.bool dead)).heap.size (.agg #[v0, v1, v2, v3, v4, .int .i64 (many : Int), .int .i64 (tail : Int), .bool dead]) ⟨d, many, tail, dead⟩ ∧
    Below w.heap.size w (set8 W b v0 v1 v2 v3 v4 (.int .i64 (many : Int)) (.int .i64 (tail : Int)) (.bool dead)) := by
  obtain ⟨h1, h2⟩ := hx.set v0 v1 v2 v3 v4 (.int .i64 (many : Int)) (.int .i64 (tail : Int)) (.bool dead)
  exact ⟨⟨v0, v1, v2, v3, v4, rfl, hr.off hx (by decide) h2⟩, hbel.trans (h2.toBelow (B := w.heap.size) hbel.size (fun b' hb e => by omega))⟩
set_option maxRecDepth 100000 in
set_option maxHeartbeats 4000000 in
theorem rappend_any {w : World} {B0 : Nat} {v : Value} {j : Jv} (h : Rjv w B0 v j) (hok : j.ok) (hdok : j.d.ok) {B : Nat} {x : Value} {b : List UInt8} (hb : Byt w B x b) (hbl : b.length ≤ 5000) (hw : j.d.writes + 5000 ≤ 1000000000) :
    Calls Try.prog 84 #[v, x] w (RAppendPost w (appendW j b)) := by
  obtain ⟨v0, v1, v2, v3, v4, rfl, hr⟩ := h
  obtain ⟨A, c, After, Torn, he⟩ := hr.form
  cases he
  have hpg := fun (W : World) (hW : Below w.heap.size w W) => rpages_any ((j.many : Int) + 1) x b w.heap.size (hb.heap.below hW) (by omega)
  obtain ⟨A2, c2, rfl, hcb, hmb, _⟩ := id hb
  unfold maxLen at hmb
  have hht := hok.tail
  have hhm := hok.many
  have hn2 := hdok.n2
  obtain ⟨P, E, hPE, hPl, hE2⟩ := pages_cases2 ((j.many : Int) + 1) b hbl
  have i1 : IntKind.i64.wrap ((j.many : Int) + 1) = (j.many : Int) + 1 := by rw [IntKind.wrap_i64]; omega
  unfold PagesPost at hpg
  rw [hPE] at hpg
  unfold appendW
  rw [hPE]
  obtain ⟨d, many, tail, dead⟩ := j
  simp only at *
  have HR := Lib.hid hr.heap
  have HPG := Lib.hid hpg
  have HDOK := Lib.hid hdok
  have HHT := Lib.hid hht
  clear hr hok hdok hb hpg hPE hht
  have hb0 : ∀ o o', Below w.heap.size w ((w.alloc o).alloc o') := fun o o' => ((Below.refl _ _).alloc (Nat.le_refl _) o).alloc (by simp) o'
  have HB0 := Lib.hid hb0
  have hbx : ∀ o, JBox ((w.alloc (.cells #[.slice A d.n c, .int .i64 After, .int .i64 Torn, .bool d.dead, .int .i64 (d.writes : Int), .int .i64 (many : Int), .int .i64 (tail : Int), .bool dead] 123)).alloc o) w.heap.size (.slice A d.n c) (.int .i64 After) (.int .i64 Torn) (.bool d.dead) (.int .i64 (d.writes : Int)) (.int .i64 (many : Int)) (.int .i64 (tail : Int)) (.bool dead) := fun o => by
    unfold JBox
    rw [Below.heap_alloc _ _ _ (by simp)]; exact heap_alloc_new w _
  have hx1 := heap_alloc_new (w.alloc (.cells #[.slice A d.n c, .int .i64 After, .int .i64 Torn, .bool d.dead, .int .i64 (d.writes : Int), .int .i64 (many : Int), .int .i64 (tail : Int), .bool dead] 123)) (.cells #[.slice none 0 0, .int .i64 0, .int .i64 0, .bool false, .int .i64 0, .int .i64 0, .int .i64 0, .bool false] 123 (0, 0))
  rw [World.size_alloc] at hx1
  have hx2 : JBox _ (w.heap.size + 1) _ _ _ _ _ _ _ _ := hx1
  have HBX := Lib.hid hbx
  have HX := Lib.hid hx2
  clear hbx hx1 hx2 hb0
  generalize hdw : ((d.writes : Nat) : Int) = dw at *
  generalize hdd : d.dead = dd at *
  have HDW := Lib.hid hdw
  have HDD := Lib.hid hdd
  clear hdw hdd
  cases dead with
  | true =>
    go_enter Try.func84, Try.ntmps84
    go_wp2
    exact bodyPost_ret (v := .tuple #[.agg #[.slice A d.n c, .int .i64 After, .int .i64 Torn, .bool dd, .int .i64 dw, .int .i64 (many : Int), .int .i64 (tail : Int), .bool true], .int .i64 0, .int .i64 32]) (by simp [results, Try.results84, go_sem]) rfl ⟨_, rfl, ⟨_, _, _, _, _, rfl, (HR.out.below (HB0.out _ _)).heap⟩, HB0.out _ _⟩
  | false =>
    rw [if_neg (by simp)]
    have HB1 := Lib.hid (HB0.out (.cells #[.slice A d.n c, .int .i64 After, .int .i64 Torn, .bool dd, .int .i64 dw, .int .i64 (many : Int), .int .i64 (tail : Int), .bool false] 123) (.cells #[.slice none 0 0, .int .i64 0, .int .i64 0, .bool false, .int .i64 0, .int .i64 0, .int .i64 0, .bool false] 123))
    have hpg := HPG.out _ HB1.out
    clear HB0
    by_cases hE : E = 0
    · subst hE
      rw [if_neg (by simp)]
      have i2 : IntKind.i64.wrap ((d.n : Int) - (tail : Int)) = (d.n : Int) - (tail : Int) := by have := HHT.out; rw [IntKind.wrap_i64]; omega
      by_cases hlt : (d.n : Int) - (tail : Int) < (P.length : Int)
      · rw [if_pos hlt]
        have e1 : decide ((d.n : Int) - (tail : Int) < (P.length : Int)) = true := decide_eq_true hlt
        go_enter Try.func84, Try.ntmps84
        go_wp2_with fail
        refine hpg.mono ?_
        rintro e w1 ⟨v1, rfl, ho1, hb1⟩
        have hbw := HB1.out.trans (hb1.mono HB1.out.size)
        have hbx1 := (HBX.out (.cells #[.slice none 0 0, .int .i64 0, .int .i64 0, .bool false, .int .i64 0, .int .i64 0, .int .i64 0, .bool false] 123)).below (hb1.mono (Nat.le_refl _))
        obtain ⟨x0, x1, x2, x3, x4, x5, x6, x7⟩ := hbx1.cells
        have hy := HX.out.below hb1
        obtain ⟨z0, z1, z2, z3, z4, z5, z6, z7⟩ := hy.cells
        obtain ⟨g0, g1, g2, g3, g4, g5, g6, g7⟩ := hy.free
        have hr1 := (HR.out.below hbw).heap
        have HQ := Lib.hid (rapp_ret (w := w) hr1 hy (by omega) hbw many tail false)
        obtain ⟨A1, n1, c1, hv1, hn1⟩ := ho1.form
        subst hv1 hn1
        clear hpg ho1 hb1 hbw hy hr1 hbx1
        go_wp2
        exact bodyPost_ret (v := .tuple #[.agg #[.slice A d.n c, .int .i64 After, .int .i64 Torn, .bool dd, .int .i64 dw, .int .i64 (many : Int), .int .i64 (tail : Int), .bool false], .int .i64 0, .int .i64 31]) (by simp [results, Try.results84, go_sem, z0, z1, z2, z3, z4, z5, z6, z7]) rfl ⟨_, rfl, HQ.out.1, HQ.out.2⟩
      · rw [if_neg hlt]
        have e1 : decide ((d.n : Int) - (tail : Int) < (P.length : Int)) = false := decide_eq_false hlt
        have htp : tail + P.length ≤ d.n := by omega
        generalize hR : (if (putW d tail P).2 = 0 then ((⟨(putW d tail P).1, many + 1, tail + P.length, false⟩ : Jv), (many : Int) + 1, (0 : Int)) else (⟨(putW d tail P).1, many, tail, true⟩, 0, (putW d tail P).2)) = R
        have HRR := Lib.hid hR
        clear hR
        go_enter Try.func84, Try.ntmps84
        go_wp2_with fail
        refine hpg.mono ?_
        rintro e w1 ⟨v1, rfl, ho1, hb1⟩
        have hbw := HB1.out.trans (hb1.mono HB1.out.size)
        have hbx1 := (HBX.out (.cells #[.slice none 0 0, .int .i64 0, .int .i64 0, .bool false, .int .i64 0, .int .i64 0, .int .i64 0, .bool false] 123)).below (hb1.mono (Nat.le_refl _))
        obtain ⟨x0, x1, x2, x3, x4, x5, x6, x7⟩ := hbx1.cells
        have hy := HX.out.below hb1
        obtain ⟨z0, z1, z2, z3, z4, z5, z6, z7⟩ := hy.cells
        obtain ⟨g0, g1, g2, g3, g4, g5, g6, g7⟩ := hy.free
        have hr1 := (HR.out.below hbw).heap
        have HQ := Lib.hid (rapp_ret (w := w) hr1 hy (by omega) hbw many tail false)
        obtain ⟨A1, n1, c1, hv1, hn1⟩ := ho1.form
        subst hv1 hn1
        have HO1 := Lib.hid (ho1.lt.mono (D' := fun b => w.heap.size + 2 ≤ b) (fun b hb => by have := hb.1; simpa using this))
        have HBX1 := Lib.hid hbx1
        have HY1 := Lib.hid hy
        have HR1 := Lib.hid hr1
        have HBW := Lib.hid hbw
        clear hpg ho1 hb1 hbw hy hr1 hbx1 z0 z1 z2 z3 z4 z5 z6 z7 g0 g1 g2 g3 g4 g5 g6 g7 HQ
        go_wp2
        go_loopg [9, 10, 11] P.length (fun gk x9 x10 x11 wr => ∃ (i : Nat) (dk : Dv) (A' : Option Addr) (c' : Nat) (After' Torn' : Int), gk = P.length - i ∧ i ≤ P.length ∧ x9 = .int .i64 (i : Int) ∧ putW dk (tail + i) (P.drop i) = putW d tail P ∧ dk.n = d.n ∧ dk.ok ∧ dk.writes ≤ d.writes + i ∧
          JBox wr w.heap.size (.slice A' d.n c') (.int .i64 After') (.int .i64 Torn') (.bool dk.dead) (.int .i64 (dk.writes : Int)) (.int .i64 (many : Int)) (.int .i64 (tail : Int)) (.bool false) ∧ Rv wr wr.heap.size (.agg #[.slice A' d.n c', .int .i64 After', .int .i64 Torn', .bool dk.dead, .int .i64 (dk.writes : Int)]) dk ∧
          JBox wr (w.heap.size + 1) (.slice none 0 0) (.int .i64 0) (.int .i64 0) (.bool false) (.int .i64 0) (.int .i64 0) (.int .i64 0) (.bool false) ∧ OwB (fun b => w.heap.size + 2 ≤ b) wr (w.heap.size + 2) (.slice A1 P.length c1) P ∧ Below w.heap.size w wr)
        case atStart => exact ⟨0, d, A, c, After, Torn, rfl, Nat.zero_le _, rfl, rfl, rfl, HDOK.out, Nat.le_refl _, HDD.out ▸ HDW.out ▸ HBX1.out, HDD.out ▸ HDW.out ▸ HR1.out, HY1.out, by simpa using HO1.out, HBW.out⟩
        case round =>
          obtain ⟨i, dk, A', c', After', Torn', hgk, hi, rfl, hpw, hdn, hdok, hdwr, hbx, hrv, hby, ho, hbel⟩ := hrel
          have HG := Lib.hid hgk
          have HPW := Lib.hid hpw
          have HDKOK := Lib.hid hdok
          have HBX := Lib.hid hbx
          have HRV := Lib.hid hrv
          have HBY := Lib.hid hby
          have HO := Lib.hid ho.lt
          have HBE := Lib.hid hbel
          have hwr := hbel.size
          have hwr2 := lt_of_block hby
          clear hgk hpw hdok hbx hrv hby ho HBX1 HR1 HY1 HO1 HBW
          by_cases h : i < P.length
          · obtain ⟨ad, u, rfl, hadB, hcell, hbu⟩ := (show Byts wr wr.heap.size (.slice A1 P.length c1) P from HO.out.byts).atv i h
            have hC : ∀ W, Below wr.heap.size wr W → W.cell? (ad.add i) = some u ∧ (convert 23 9 u).run Try.prog W = .ok (.string (bsA P[i])) W := fun W hW => ⟨(hW.cell (by rw [addr_add_block]; exact hadB)).trans hcell, (hbu.below hW).strA⟩
            have hwrt := fun (W : World) (hW : Below wr.heap.size wr W) => rwrite_any (m := P[i]) (HRV.out.below hW) HDKOK.out (by omega) ((tail : Int) + (i : Int))
            have hok1 := write_okk HDKOK.out (by omega) ((tail : Int) + (i : Int)) P[i]
            have hww := write_writes dk ((tail : Int) + (i : Int)) P[i]
            have hn1 := write_n dk ((tail : Int) + (i : Int)) P[i]
            have hpw := HPW.out
            rw [List.drop_eq_getElem_cons h, putW, Int.natCast_add] at hpw
            have i5 : IntKind.i64.wrap ((tail : Int) + (i : Int)) = (tail : Int) + (i : Int) := by rw [IntKind.wrap_i64]; omega
            have i6 : IntKind.i64.wrap ((i : Int) + 1) = (i : Int) + 1 := by rw [IntKind.wrap_i64]; omega
            have i7 : (0 : Int) ≤ (i : Int) := by omega
            have i8 : (i : Int) < (P.length : Int) := by omega
            generalize P[i] = pg at *
            generalize dk.write ((tail : Int) + (i : Int)) pg = Q at *
            obtain ⟨d1, r⟩ := Q
            simp only at hwrt hok1 hww hn1 hpw
            unfold RPost at hwrt
            have HPW1 := Lib.hid hpw
            have HC := Lib.hid hC
            have HWR := Lib.hid hwrt
            have HOK1 := Lib.hid hok1
            generalize hps : bsA pg = ps at *
            clear hps hbu hpw hC hwrt hok1 hcell
            generalize hdd' : dk.dead = dd' at *
            generalize hwk' : ((dk.writes : Nat) : Int) = wk at *
            have HDD' := Lib.hid hdd'
            have HWK' := Lib.hid hwk'
            generalize hdn' : d.n = n at *
            clear hdd' hwk'
            go_wp2_with fail
            -- region 11
            refine wp_region_headE 16 2 14 (by decide) (.int .i64 r) _ rfl (by kernel_rfl) [isS (.pointer (some ⟨w.heap.size, 0, none⟩)), isS (.agg #[.slice A' n c', .int .i64 After', .int .i64 Torn', .bool dd', .int .i64 wk]), isS (.pointer (some ⟨w.heap.size, 6, none⟩)), isS (.int .i64 (tail : Int)), isS (.int .i64 (i : Int)), isS (.int .i64 ((tail : Int) + (i : Int))), isS (.slice (some ad) P.length c1), isS (.int .i64 (i : Int)), isS (.pointer (some (ad.add i))), isS u, isS (.string ps), rvS d1 r, rvS d1 r, rvV d1, isS (.int .i64 r), boxS wr.heap.size] (by kernel_rfl) (by kernel_rfl) (by kernel_rfl) (by decide) rfl (by kernel_rfl) (fun _ _ _ h => h) (by kernel_rfl) (by kernel_rfl) (fun a W hd => by
                obtain ⟨v4, e4, hv4⟩ := (show ∃ v, a.tmps[43]?.getD undef = .tuple #[v, .int .i64 r] ∧ Rv W W.heap.size v d1 from hd 12 (by decide) (by kernel_rfl))
                exact .inl ⟨by rfl, fun w => by go_simp⟩) (fun _ => rfl) (fun q hq => ?_) (fun a w5 hc hs => ?_)
            · match q, hq with
              | 0, _ =>
                intro a W hc hd
                have z2 := hc.same 2 (by kernel_rfl)
                simp only [List.getElem?_toArray, List.getElem?_cons_succ, List.getElem?_cons_zero, Option.getD_some] at z2
                refine obl_val rfl (wanted_none rfl) ?_ rfl
                go_simp
              | 1, _ =>
                intro a W hc hd
                have s0 : a.tmps[44]?.getD undef = (.pointer (some ⟨w.heap.size, 0, none⟩)) := hd 0 (by decide) (by kernel_rfl)
                obtain ⟨y0, y1, y2, y3, y4, y5, y6, y7⟩ := (HBX.out.below ((Below.refl wr.heap.size wr).drew.trans hc.below)).cells
                refine obl_val rfl (wanted_none rfl) ?_ rfl
                go_simp
              | 2, _ =>
                intro a W hc hd
                have z2 := hc.same 2 (by kernel_rfl)
                simp only [List.getElem?_toArray, List.getElem?_cons_succ, List.getElem?_cons_zero, Option.getD_some] at z2
                refine obl_val rfl (wanted_none rfl) ?_ rfl
                go_simp
              | 3, _ =>
                intro a W hc hd
                have s2 : a.tmps[46]?.getD undef = (.pointer (some ⟨w.heap.size, 6, none⟩)) := hd 2 (by decide) (by kernel_rfl)
                obtain ⟨y0, y1, y2, y3, y4, y5, y6, y7⟩ := (HBX.out.below ((Below.refl wr.heap.size wr).drew.trans hc.below)).cells
                refine obl_val rfl (wanted_none rfl) ?_ rfl
                go_simp
              | 4, _ =>
                intro a W hc hd
                have z9 := hc.same 9 (by kernel_rfl)
                simp only [List.getElem?_toArray, List.getElem?_cons_succ, List.getElem?_cons_zero, Option.getD_some] at z9
                refine obl_val rfl (wanted_none rfl) ?_ rfl
                go_simp
              | 5, _ =>
                intro a W hc hd
                have s3 : a.tmps[47]?.getD undef = (.int .i64 (tail : Int)) := hd 3 (by decide) (by kernel_rfl)
                have s4 : a.tmps[48]?.getD undef = (.int .i64 (i : Int)) := hd 4 (by decide) (by kernel_rfl)
                refine obl_val rfl (wanted_none rfl) ?_ rfl
                go_simp
              | 6, _ =>
                intro a W hc hd
                have z7 := hc.same 7 (by kernel_rfl)
                simp only [List.getElem?_toArray, List.getElem?_cons_succ, List.getElem?_cons_zero, Option.getD_some] at z7
                refine obl_val rfl (wanted_none rfl) ?_ rfl
                go_simp
              | 7, _ =>
                intro a W hc hd
                have z9 := hc.same 9 (by kernel_rfl)
                simp only [List.getElem?_toArray, List.getElem?_cons_succ, List.getElem?_cons_zero, Option.getD_some] at z9
                refine obl_val rfl (wanted_none rfl) ?_ rfl
                go_simp
              | 8, _ =>
                intro a W hc hd
                have s6 : a.tmps[50]?.getD undef = (.slice (some ad) P.length c1) := hd 6 (by decide) (by kernel_rfl)
                have s7 : a.tmps[51]?.getD undef = (.int .i64 (i : Int)) := hd 7 (by decide) (by kernel_rfl)
                refine obl_val rfl (wanted_none rfl) ?_ rfl
                go_simp
              | 9, _ =>
                intro a W hc hd
                have s8 : a.tmps[52]?.getD undef = (.pointer (some (ad.add i))) := hd 8 (by decide) (by kernel_rfl)
                have y := (HC.out W ((Below.refl wr.heap.size wr).drew.trans hc.below)).1
                refine obl_val rfl (wanted_none rfl) ?_ rfl
                go_simp
              | 10, _ =>
                intro a W hc hd
                have s9 : a.tmps[53]?.getD undef = u := hd 9 (by decide) (by kernel_rfl)
                have e3 := (HC.out W ((Below.refl wr.heap.size wr).drew.trans hc.below)).2
                refine obl_val rfl (wanted_none rfl) ?_ rfl
                go_simp
              | 11, _ =>
                intro a W hc hd
                have s1 : a.tmps[45]?.getD undef = (.agg #[.slice A' n c', .int .i64 After', .int .i64 Torn', .bool dd', .int .i64 wk]) := hd 1 (by decide) (by kernel_rfl)
                have s5 : a.tmps[49]?.getD undef = (.int .i64 ((tail : Int) + (i : Int))) := hd 5 (by decide) (by kernel_rfl)
                have s10 : a.tmps[54]?.getD undef = (.string ps) := hd 10 (by decide) (by kernel_rfl)
                refine obl_call rfl (wanted_none rfl) (by go_simp) (HWR.out W ((Below.refl wr.heap.size wr).drew.trans hc.below)) ?_
                rintro e w9 ⟨v9, rfl, hv9, hb9⟩
                exact ⟨_, rfl, ⟨v9, rfl, hv9⟩, hb9⟩
              | 12, _ =>
                intro a W hc hd
                have s11 : (rvS d1 r).f (a.tmps[55]?.getD undef) W := hd 11 (by decide) (by kernel_rfl)
                obtain ⟨v4, e4, hv4⟩ := (show ∃ v, a.tmps[55]?.getD undef = .tuple #[v, .int .i64 r] ∧ Rv W W.heap.size v d1 from s11)
                refine obl_val rfl (wanted_none rfl) (v := .tuple #[v4, .int .i64 r]) ?_ ⟨v4, rfl, hv4⟩
                go_simp
              | 13, _ =>
                intro a W hc hd
                have s12 : (rvS d1 r).f (a.tmps[43]?.getD undef) W := hd 12 (by decide) (by kernel_rfl)
                obtain ⟨v4, e4, hv4⟩ := (show ∃ v, a.tmps[43]?.getD undef = .tuple #[v, .int .i64 r] ∧ Rv W W.heap.size v d1 from s12)
                refine obl_val rfl (wanted_none rfl) (v := v4) ?_ hv4
                go_simp
              | 14, _ =>
                intro a W hc hd
                have s12 : (rvS d1 r).f (a.tmps[43]?.getD undef) W := hd 12 (by decide) (by kernel_rfl)
                obtain ⟨v4, e4, hv4⟩ := (show ∃ v, a.tmps[43]?.getD undef = .tuple #[v, .int .i64 r] ∧ Rv W W.heap.size v d1 from s12)
                refine obl_val rfl (wanted_none rfl) ?_ rfl
                go_simp
              | 15, _ =>
                intro a W hc hd
                refine obl_grow rfl (wanted_none rfl) (v := .pointer (some ⟨W.heap.size, 0, none⟩)) (w' := W.alloc (.cells #[.slice none 0 0, .int .i64 0, .int .i64 0, .bool false, .int .i64 0] 55)) ?_ ⟨_, rfl, ⟨_, _, _, _, _, rfl, heap_alloc_new W _⟩, ((Below.refl wr.heap.size wr).drew.trans hc.below).size⟩ ((Below.refl W.heap.size W).alloc (Nat.le_refl _) _)
                go_simp
              | n + 16, h => exact absurd h (by omega)
            · have h56 := hs 13 56 (by decide) (by kernel_rfl)
              have h10 := hs 15 10 (by decide) (by kernel_rfl)
              have hfr := grow_frameN hc [(44, (.pointer (some ⟨w.heap.size, 0, none⟩))), (45, (.agg #[.slice A' n c', .int .i64 After', .int .i64 Torn', .bool dd', .int .i64 wk])), (46, (.pointer (some ⟨w.heap.size, 6, none⟩))), (47, (.int .i64 (tail : Int))), (48, (.int .i64 (i : Int))), (49, (.int .i64 ((tail : Int) + (i : Int)))), (50, (.slice (some ad) P.length c1)), (51, (.int .i64 (i : Int))), (52, (.pointer (some (ad.add i)))), (53, u), (54, (.string ps)), (55, a.tmps[55]?.getD undef), (43, a.tmps[43]?.getD undef), (56, a.tmps[56]?.getD undef), (57, (.int .i64 r)), (10, a.tmps[10]?.getD undef)] (by kernel_rfl) (fun p hp => by
                  simp only [List.mem_cons, List.not_mem_nil, or_false] at hp
                  rcases hp with rfl | rfl | rfl | rfl | rfl | rfl | rfl | rfl | rfl | rfl | rfl | rfl | rfl | rfl | rfl | rfl
                  · exact hs 0 44 (by decide) (by kernel_rfl)
                  · exact hs 1 45 (by decide) (by kernel_rfl)
                  · exact hs 2 46 (by decide) (by kernel_rfl)
                  · exact hs 3 47 (by decide) (by kernel_rfl)
                  · exact hs 4 48 (by decide) (by kernel_rfl)
                  · exact hs 5 49 (by decide) (by kernel_rfl)
                  · exact hs 6 50 (by decide) (by kernel_rfl)
                  · exact hs 7 51 (by decide) (by kernel_rfl)
                  · exact hs 8 52 (by decide) (by kernel_rfl)
                  · exact hs 9 53 (by decide) (by kernel_rfl)
                  · exact hs 10 54 (by decide) (by kernel_rfl)
                  · rfl
                  · rfl
                  · rfl
                  · exact hs 14 57 (by decide) (by kernel_rfl)
                  · rfl
                  )
              generalize a.tmps[55]?.getD undef = z55 at hfr
              generalize a.tmps[43]?.getD undef = z43 at hfr
              generalize a.tmps[56]?.getD undef = z56 at hfr h56
              generalize a.tmps[10]?.getD undef = z10 at hfr h10
              simp only [List.range, List.range.loop, List.size_toArray, List.length_cons, List.length_nil, List.map_cons, List.map_nil, List.lookup_cons, List.lookup_nil, Nat.reduceAdd, Nat.reduceBEq, Option.getD_some, Option.getD_none, List.getElem?_toArray, List.getElem?_cons_succ, List.getElem?_cons_zero] at hfr
              subst hfr
              obtain ⟨b5, rfl, hbx5, hlo5⟩ := h10
            -- end 11
              obtain ⟨A9, c9, After9, Torn9, hv, hs9, hf9, ht9⟩ := id h56
              rw [hn1, hdn] at hv
              subst hv
              have hb9 : Below wr.heap.size wr w5 := (Below.refl wr.heap.size wr).drew.trans hc.below
              have HRV9 := Lib.hid (show Rv w5 w5.heap.size _ d1 from h56)
              have HBX9 := Lib.hid (HBX.out.below hb9)
              have HBY9 := Lib.hid (HBY.out.below hb9)
              have HBE9 := Lib.hid (HBE.out.trans (hb9.mono hwr))
              have HO9 := Lib.hid (HO.out.below hb9)
              have HB5 := Lib.hid hbx5
              obtain ⟨x0, x1, x2, x3, x4, f0, f1, f2, f3, f4⟩ := hbx5.cells
              obtain ⟨y0, y1, y2, y3, y4, y5, y6, y7⟩ := HBX9.out.cells
              obtain ⟨k0, k1, k2, k3, k4, k5, k6, k7⟩ := HBX9.out.free
              have hne1 : b5 ≠ w.heap.size := by omega
              have hne2 : w.heap.size ≠ b5 := by omega
              clear hs hc hb9 hs9 hf9 h56 hbx5
              refine wpAny_seq 16 2 (by kernel_rfl) (by kernel_rfl) ?_
              simp only [List.drop_succ_cons, List.drop_zero]
              obtain ⟨q1, q2, q3⟩ := rapp_step HB5.out HBX9.out hne2 HRV9.out
              simp only [set5] at q1 q2 q3
              go_upto_region 13 with fail
              generalize World.setCell (World.setCell _ _ _) ⟨w.heap.size, 4, none⟩ (.int .i64 (d1.writes : Int)) = w6 at q1 q2 q3 ⊢
              have HQ1 := Lib.hid q1
              have HQ2 := Lib.hid q2
              have HBY6 := Lib.hid (q3.heap HBY9.out ⟨by omega, by omega⟩)
              have HBE6 := Lib.hid (HBE9.out.trans (q3.toBelow (B := w.heap.size) HBE9.out.size (fun b hb => ⟨by omega, by omega⟩)))
              have HO6 := Lib.hid ((HO9.out.kept q3 (fun b hb => ⟨by have := hb.2; omega, by have := hb.1; omega⟩)).mono (D' := fun b => w.heap.size + 2 ≤ b) (fun b hb => hb.1))
              obtain ⟨y0, y1, y2, y3, y4, y5, y6, y7⟩ := q1.cells
              obtain ⟨k0, k1, k2, k3, k4, k5, k6, k7⟩ := q1.free
              obtain ⟨z0, z1, z2, z3, z4, z5, z6, z7⟩ := (show JBox w6 (w.heap.size + 1) _ _ _ _ _ _ _ _ from HBY6.out).cells
              obtain ⟨g0, g1, g2, g3, g4, g5, g6, g7⟩ := (show JBox w6 (w.heap.size + 1) _ _ _ _ _ _ _ _ from HBY6.out).free
              clear q1 q2 q3 x0 x1 x2 x3 x4 f0 f1 f2 f3 f4 HB5 HBX9 HBY9 HO9 HRV9 HBE9
              by_cases hr0 : r = 0
              · subst hr0
                have hpw := HPW1.out
                rw [if_pos rfl] at hpw
                have HPW2 := Lib.hid hpw
                clear hpw
                go_wp2
                go_roundg (P.length - (i + 1))
                case measure => have := HG.out; omega
                case rel =>
                  exact ⟨i + 1, d1, A9, c9, After9, Torn9, rfl, by omega, by simp, HPW2.out, hn1.trans hdn, HOK1.out, by omega, HQ1.out, HQ2.out, HBY6.out, HO6.out, HBE6.out⟩
              · have hpw := HPW1.out
                rw [if_neg hr0] at hpw
                have e1 : (r == 0) = false := by rw [beq_eq_false_iff_ne]; exact hr0
                have e2 : (r != 0) = true := by simp [e1, bne]
                have hR := HRR.out
                rw [← hpw] at hR
                simp only at hR
                rw [if_neg hr0] at hR
                subst hR
                clear hpw
                have hk7 : Kept (fun x => x ≠ w.heap.size) w6 (w6.setCell ⟨w.heap.size, 7, none⟩ (.bool true)) := (Kept.refl _ w6).setCell _ _ (fun _ h => h rfl)
                have HQ := Lib.hid (rapp_ret (w := w) (HQ2.out.off HQ1.out (by decide) hk7) (hk7.heap HBY6.out (by omega)) (by omega) (HBE6.out.trans (hk7.toBelow (B := w.heap.size) HBE6.out.size (fun b hb => by omega))) many tail true)
                clear hk7
                go_wp2
                exact bodyPost_ret (v := .tuple #[.agg #[.slice A9 n c9, .int .i64 After9, .int .i64 Torn9, .bool d1.dead, .int .i64 (d1.writes : Int), .int .i64 (many : Int), .int .i64 (tail : Int), .bool true], .int .i64 0, .int .i64 r]) (by simp [results, Try.results84, go_sem, z0, z1, z2, z3, z4, z5, z6, z7]) rfl ⟨_, rfl, HQ.out.1, HQ.out.2⟩
          · obtain rfl : i = P.length := by omega
            have hpw := HPW.out
            rw [List.drop_length, putW] at hpw
            have hR := HRR.out
            rw [← hpw] at hR
            simp only [if_true] at hR
            subst hR
            have HO8 := HO.out
            have i5 : IntKind.i64.wrap ((tail : Int) + (P.length : Int)) = (tail : Int) + (P.length : Int) := by rw [IntKind.wrap_i64]; omega
            obtain ⟨y0, y1, y2, y3, y4, y5, y6, y7⟩ := HBX.out.cells
            obtain ⟨k0, k1, k2, k3, k4, k5, k6, k7⟩ := HBX.out.free
            have s6 := Lib.heap_setCell_same (i := 6) HBX.out (.int .i64 ((tail : Int) + (P.length : Int)))
            have s5 := Lib.heap_setCell_same (i := 5) s6 (.int .i64 ((many : Int) + 1))
            have q1 : JBox ((wr.setCell ⟨w.heap.size, 6, none⟩ (.int .i64 ((tail : Int) + (P.length : Int)))).setCell ⟨w.heap.size, 5, none⟩ (.int .i64 ((many : Int) + 1))) w.heap.size (.slice A' d.n c') (.int .i64 After') (.int .i64 Torn') (.bool dk.dead) (.int .i64 (dk.writes : Int)) (.int .i64 ((many : Int) + 1)) (.int .i64 ((tail : Int) + (P.length : Int))) (.bool false) := by simpa [JBox] using s5
            have hk7 : Kept (fun x => x ≠ w.heap.size) wr ((wr.setCell ⟨w.heap.size, 6, none⟩ (.int .i64 ((tail : Int) + (P.length : Int)))).setCell ⟨w.heap.size, 5, none⟩ (.int .i64 ((many : Int) + 1))) := ((Kept.refl _ wr).setCell _ _ (fun _ h => h rfl)).setCell _ _ (fun _ h => h rfl)
            have q2 := HRV.out.off HBX.out (by decide) hk7
            have q3 := hk7.heap HBY.out (by omega)
            have q4 := HBE.out.trans (hk7.toBelow (B := w.heap.size) HBE.out.size (fun b hb => by omega))
            clear hpw HO8 s6 s5 hk7
            go_upto_region 18 with fail
            generalize World.setCell (World.setCell _ _ _) ⟨w.heap.size, 5, none⟩ (.int .i64 ((many : Int) + 1)) = w6 at q1 q2 q3 q4 ⊢
            obtain ⟨y0, y1, y2, y3, y4, y5, y6, y7⟩ := q1.cells
            obtain ⟨k0, k1, k2, k3, k4, k5, k6, k7⟩ := q1.free
            obtain ⟨z0, z1, z2, z3, z4, z5, z6, z7⟩ := (show JBox w6 (w.heap.size + 1) _ _ _ _ _ _ _ _ from q3).cells
            obtain ⟨g0, g1, g2, g3, g4, g5, g6, g7⟩ := (show JBox w6 (w.heap.size + 1) _ _ _ _ _ _ _ _ from q3).free
            have hq := rapp_ret (w := w) q2 q3 (by omega) q4 (many + 1) (tail + P.length) false
            rw [show ((many + 1 : Nat) : Int) = (many : Int) + 1 from rfl, show ((tail + P.length : Nat) : Int) = (tail : Int) + (P.length : Int) from rfl] at hq
            have HQ := Lib.hid (show Rjv (set8 w6 (w.heap.size + 1) _ _ _ _ _ _ _ _).drew (set8 w6 (w.heap.size + 1) _ _ _ _ _ _ _ _).drew.heap.size _ _ ∧ Below w.heap.size w (set8 w6 (w.heap.size + 1) _ _ _ _ _ _ _ _).drew from ⟨hq.1.drew, hq.2.drew⟩)
            clear hq
            clear q1 q2 q3 q4
            generalize dk.dead = dd at *
            generalize (dk.writes : Int) = dw at *
            go_region
            go_wp2
            exact bodyPost_ret (v := .tuple #[.agg #[.slice A' d.n c', .int .i64 After', .int .i64 Torn', .bool dd, .int .i64 dw, .int .i64 ((many : Int) + 1), .int .i64 ((tail : Int) + (P.length : Int)), .bool false], .int .i64 ((many : Int) + 1), .int .i64 0]) (by simp [results, Try.results84, go_sem, z0, z1, z2, z3, z4, z5, z6, z7]) rfl ⟨_, rfl, HQ.out.1, HQ.out.2⟩
    · rw [if_pos hE]
      obtain rfl : E = 2 := by omega
      go_enter Try.func84, Try.ntmps84
      go_wp2_with fail
      refine hpg.mono ?_
      rintro e w1 ⟨v1, rfl, ho1, hb1⟩
      have hbw := HB1.out.trans (hb1.mono HB1.out.size)
      have hbx1 := (HBX.out (.cells #[.slice none 0 0, .int .i64 0, .int .i64 0, .bool false, .int .i64 0, .int .i64 0, .int .i64 0, .bool false] 123)).below (hb1.mono (Nat.le_refl _))
      obtain ⟨x0, x1, x2, x3, x4, x5, x6, x7⟩ := hbx1.cells
      have hy := HX.out.below hb1
      obtain ⟨z0, z1, z2, z3, z4, z5, z6, z7⟩ := hy.cells
      obtain ⟨g0, g1, g2, g3, g4, g5, g6, g7⟩ := hy.free
      have hr1 := (HR.out.below hbw).heap
      have HQ := Lib.hid (rapp_ret (w := w) hr1 hy (by omega) hbw many tail false)
      clear hpg ho1 hb1 hbw hy hr1 hbx1
      go_wp2
      exact bodyPost_ret (v := .tuple #[.agg #[.slice A d.n c, .int .i64 After, .int .i64 Torn, .bool dd, .int .i64 dw, .int .i64 (many : Int), .int .i64 (tail : Int), .bool false], .int .i64 0, .int .i64 2]) (by simp [results, Try.results84, go_sem, z0, z1, z2, z3, z4, z5, z6, z7]) rfl ⟨_, rfl, HQ.out.1, HQ.out.2⟩
end Go.Proofs.Ytmcjefdnkcpghaa
/- THE DOCUMENT'S JOURNAL: Open, the walk. -/
namespace Go.Proofs.Ytmcjefdnkcpghaa
open Go.RowKit
def ROpenPost (w : World) (F : List (List UInt8) × Nat) (R : Dv × Int × Int) (e : Ending) (w' : World) : Prop :=
  Below w.heap.size w w' ∧ ∃ (Av : Option Addr) (nv cv : Nat) (v1 v2 : Int) (v3 : Bool) (v4 v5 v6 : Int) (v7 : Bool) (vl : Value) (Au : Option Addr) (nu cu : Nat) (u1 u2 : Int) (u3 : Bool) (u4 : Int), e = .returned (.tuple #[.agg #[.slice Av nv cv, .int .i64 v1, .int .i64 v2, .bool v3, .int .i64 v4, .int .i64 v5, .int .i64 v6, .bool v7], vl, .agg #[.slice Au nu cu, .int .i64 u1, .int .i64 u2, .bool u3, .int .i64 u4], .int .i64 R.2.2]) ∧ Rv w' w'.heap.size (.agg #[.slice Au nu cu, .int .i64 u1, .int .i64 u2, .bool u3, .int .i64 u4]) R.1 ∧
  (R.2.2 = 0 → Rjv w' w'.heap.size (.agg #[.slice Av nv cv, .int .i64 v1, .int .i64 v2, .bool v3, .int .i64 v4, .int .i64 v5, .int .i64 v6, .bool v7]) ⟨R.1, F.1.length, F.2, false⟩) ∧ OwB (fun b => w.heap.size ≤ b) w' w.heap.size vl (if R.2.2 = 0 then F.1 else [])
/-- the boxes of what is handed back are filled -/
theorem ropen_ret {w W : World} {b2 b4 : Nat} {z x0 x1 x2 x3 x4 x5 x6 x7 : Value} (h2 : JBox W b2 x0 x1 x2 x3 x4 x5 x6 x7) (h4 : RBox W b4 z) (hlo2 : w.heap.size ≤ b2) (hlo4 : w.heap.size ≤ b4) (hne : b4 ≠ b2) (hbel : Below w.heap.size w W) (v0 v1 v2 v3 v4 v5 v6 v7 u0 u1 u2 u3 u4 : Value) :
    (∀ v d, Rv W W.heap.size v d → Rv (set5 (set8 W b2 v0 v1 v2 v3 v4 v5 v6 v7) b4 u0 u1 u2 u3 u4).drew (set5 (set8 W b2 v0 v1 v2 v3 v4 v5 v6 v7) b4 u0 u1 u2 u3 u4).drew.heap.size v d) ∧
    Below w.heap.size w (set5 (set8 W b2 v0 v1 v2 v3 v4 v5 v6 v7) b4 u0 u1 u2 u3 u4).drew ∧ Kept (fun x => x ≠ b2 ∧ x ≠ b4) W (set5 (set8 W b2 v0 v1 v2 v3 v4 v5 v6 v7) b4 u0 u1 u2 u3 u4).drew := by
  obtain ⟨h1, k1⟩ := h2.set v0 v1 v2 v3 v4 v5 v6 v7
  have h4' : RBox (set8 W b2 v0 v1 v2 v3 v4 v5 v6 v7) b4 z := by
    obtain ⟨a0, a1, a2, a3, a4, e, hb⟩ := h4
    exact ⟨a0, a1, a2, a3, a4, e, k1.heap hb hne⟩
  obtain ⟨h3, k2⟩ := h4'.set u0 u1 u2 u3 u4
  have k3 : Kept (fun x => x ≠ b2 ∧ x ≠ b4) W (set5 (set8 W b2 v0 v1 v2 v3 v4 v5 v6 v7) b4 u0 u1 u2 u3 u4).drew := ((k1.mono (fun _ _ h => h.1)).trans (k2.mono (fun _ _ h => h.2)) (fun _ _ h => h)).drew
  refine ⟨fun v d hr => ?_, hbel.trans (k3.toBelow (B := w.heap.size) hbel.size (fun b hb => ⟨by omega, by omega⟩)), k3⟩
  have q := (hr.off h2 (by decide) k1).other h4' k2
  exact (q.below ((Below.refl _ _).drew)).heap
set_option maxRecDepth 100000 in
set_option maxHeartbeats 4000000 in
theorem rjopen_dead {w : World} {B : Nat} {v : Value} {d : Dv} (h : Rv w B v d) (hd : d.dead = true) (F : List (List UInt8) × Nat) :
    Calls Try.prog 82 #[v] w (ROpenPost w F (d, 0, 32)) := by
  obtain ⟨A0, c0, After0, Torn0, rfl⟩ := h.form
  have hr := h.heap
  rw [hd] at hr ⊢
  have hb3 : ∀ o o' o'', Below w.heap.size w (((w.alloc o).alloc o').alloc o'') := fun o o' o'' => (((Below.refl _ _).alloc (Nat.le_refl _) o).alloc (by simp) o').alloc (by simp; omega) o''
  clear h hd
  generalize d.n = n at *
  generalize (d.writes : Int) = wr at *
  have hx0 := heap_alloc_new w (.cells #[.slice A0 n c0, .int .i64 After0, .int .i64 Torn0, .bool true, .int .i64 wr] 55 (0, 0))
  have hx1 := heap_alloc_new (w.alloc (.cells #[.slice A0 n c0, .int .i64 After0, .int .i64 Torn0, .bool true, .int .i64 wr] 55)) (.cells #[.slice none 0 0, .int .i64 0, .int .i64 0, .bool false, .int .i64 0, .int .i64 0, .int .i64 0, .bool false] 123 (0, 0))
  have hx2 := heap_alloc_new ((w.alloc (.cells #[.slice A0 n c0, .int .i64 After0, .int .i64 Torn0, .bool true, .int .i64 wr] 55)).alloc (.cells #[.slice none 0 0, .int .i64 0, .int .i64 0, .bool false, .int .i64 0, .int .i64 0, .int .i64 0, .bool false] 123)) (.cells #[.slice none 0 0, .int .i64 0, .int .i64 0, .bool false, .int .i64 0] 55 (0, 0))
  rw [World.size_alloc] at hx1
  rw [World.size_alloc, World.size_alloc] at hx2
  have q0 : RBox _ w.heap.size _ := ⟨_, _, _, _, _, rfl, hx0⟩
  have q1 : JBox _ (w.heap.size + 1) _ _ _ _ _ _ _ _ := hx1
  have q2 : RBox _ (w.heap.size + 1 + 1) _ := ⟨_, _, _, _, _, rfl, hx2⟩
  have q0 := (q0.below ((Below.refl _ _).alloc (Nat.le_refl _) (.cells #[.slice none 0 0, .int .i64 0, .int .i64 0, .bool false, .int .i64 0, .int .i64 0, .int .i64 0, .bool false] 123))).below ((Below.refl _ _).alloc (Nat.le_refl _) (.cells #[.slice none 0 0, .int .i64 0, .int .i64 0, .bool false, .int .i64 0] 55))
  have q1 := q1.below ((Below.refl _ _).alloc (Nat.le_refl _) (.cells #[.slice none 0 0, .int .i64 0, .int .i64 0, .bool false, .int .i64 0] 55))
  have q3 := hb3 (.cells #[.slice A0 n c0, .int .i64 After0, .int .i64 Torn0, .bool true, .int .i64 wr] 55) (.cells #[.slice none 0 0, .int .i64 0, .int .i64 0, .bool false, .int .i64 0, .int .i64 0, .int .i64 0, .bool false] 123) (.cells #[.slice none 0 0, .int .i64 0, .int .i64 0, .bool false, .int .i64 0] 55)
  have q4 := (hr.below q3).heap
  clear hr hx0 hx1 hx2 hb3
  go_enter Try.func82, Try.ntmps82
  go_upto_region 2 with fail
  generalize World.alloc (World.alloc _ _) _ = w3 at q0 q1 q2 q3 q4 ⊢
  obtain ⟨x0, x1, x2, x3, x4, f0, f1, f2, f3, f4⟩ := q0.cells
  obtain ⟨y0, y1, y2, y3, y4, y5, y6, y7⟩ := q1.cells
  obtain ⟨k0, k1, k2, k3, k4, k5, k6, k7⟩ := q1.free
  obtain ⟨z0, z1, z2, z3, z4, g0, g1, g2, g3, g4⟩ := q2.cells
  have HQ := Lib.hid (ropen_ret (w := w) q1 q2 (by omega) (by omega) (by omega) q3 (.slice none 0 0) (.int .i64 0) (.int .i64 0) (.bool false) (.int .i64 0) (.int .i64 0) (.int .i64 0) (.bool false) (.slice A0 n c0) (.int .i64 After0) (.int .i64 Torn0) (.bool true) (.int .i64 wr))
  have HQ4 := Lib.hid q4
  clear q0 q1 q2 q3 q4
  go_region
  go_wp2
  exact bodyPost_ret (v := .tuple #[.agg #[.slice none 0 0, .int .i64 0, .int .i64 0, .bool false, .int .i64 0, .int .i64 0, .int .i64 0, .bool false], .slice none 0 0, .agg #[.slice A0 n c0, .int .i64 After0, .int .i64 Torn0, .bool true, .int .i64 wr], .int .i64 32]) (by simp [results, Try.results82, go_sem, y0, y1, y2, y3, y4, y5, y6, y7, z0, z1, z2, z3, z4]) rfl ⟨HQ.out.2.1, _, _, _, _, _, _, _, _, _, _, _, _, _, _, _, _, _, _, rfl, HQ.out.1 _ _ HQ4.out, fun h => absurd h (show ¬ (32 : Int) = 0 by decide), by rw [if_neg (show ¬ (32 : Int) = 0 by decide)]; exact OwB.nil_ _ _ _⟩
set_option maxRecDepth 100000 in
set_option maxHeartbeats 4000000 in
theorem rjopen_any {w : World} {B : Nat} {v : Value} {d : Dv} (h : Rv w B v d) (hok : d.ok) (hd : d.dead = false) (hw : d.writes + 5000 ≤ 1000000000) :
    Calls Try.prog 82 #[v] w (ROpenPost w (findW (page d.L) d.n 0 []) (wipeR d ((findW (page d.L) d.n 0 []).2 : Int))) := by
  obtain ⟨A0, c0, After0, Torn0, he, hsl, _, _⟩ := id h.heap
  have hr := h.heap
  subst he
  have hff := find_facts (pg := page d.L) (n := d.n) d.n 0 [] (by omega) (by omega)
  have hn2 := hok.n2
  have hrf := fun (W : World) (hW : Below w.heap.size w W) => rfind_any (hsl.1.below hW) hn2
  have hrw := fun (W : World) (hW : Below w.heap.size w W) (tail : Int) (ht : -9223372036854775808 ≤ tail ∧ tail ≤ 9223372036854775807) => rwipe_any (hr.below hW) hok hw tail ht
  have hb3 : ∀ o o' o'', Below w.heap.size w (((w.alloc o).alloc o').alloc o'') := fun o o' o'' => (((Below.refl _ _).alloc (Nat.le_refl _) o).alloc (by simp) o').alloc (by simp; omega) o''
  rw [hd] at hr hrw ⊢
  have ht : ((findW (page d.L) d.n 0 []).2 : Int) ≤ 9223372036854775807 := by have := hff.2.1; omega
  have hl : (findW (page d.L) d.n 0 []).1.length ≤ 100000 := by have := hff.2.1; have := hff.2.2.2.2; simp only [List.length_nil] at this; omega
  have hrw := fun W hW => hrw W hW ((findW (page d.L) d.n 0 []).2 : Int) (by omega)
  generalize findW (page d.L) d.n 0 [] = F at *
  generalize wipeR d (F.2 : Int) = R at *
  clear h hok hd hw hff hsl hn2
  generalize d.n = n at *
  generalize (d.writes : Int) = wr at *
  have hx0 := heap_alloc_new w (.cells #[.slice A0 n c0, .int .i64 After0, .int .i64 Torn0, .bool false, .int .i64 wr] 55 (0, 0))
  have hx1 := heap_alloc_new (w.alloc (.cells #[.slice A0 n c0, .int .i64 After0, .int .i64 Torn0, .bool false, .int .i64 wr] 55)) (.cells #[.slice none 0 0, .int .i64 0, .int .i64 0, .bool false, .int .i64 0, .int .i64 0, .int .i64 0, .bool false] 123 (0, 0))
  have hx2 := heap_alloc_new ((w.alloc (.cells #[.slice A0 n c0, .int .i64 After0, .int .i64 Torn0, .bool false, .int .i64 wr] 55)).alloc (.cells #[.slice none 0 0, .int .i64 0, .int .i64 0, .bool false, .int .i64 0, .int .i64 0, .int .i64 0, .bool false] 123)) (.cells #[.slice none 0 0, .int .i64 0, .int .i64 0, .bool false, .int .i64 0] 55 (0, 0))
  rw [World.size_alloc] at hx1
  rw [World.size_alloc, World.size_alloc] at hx2
  have q0 : RBox _ w.heap.size _ := ⟨_, _, _, _, _, rfl, hx0⟩
  have q1 : JBox _ (w.heap.size + 1) _ _ _ _ _ _ _ _ := hx1
  have q2 : RBox _ (w.heap.size + 1 + 1) _ := ⟨_, _, _, _, _, rfl, hx2⟩
  have q0 := (q0.below ((Below.refl _ _).alloc (Nat.le_refl _) (.cells #[.slice none 0 0, .int .i64 0, .int .i64 0, .bool false, .int .i64 0, .int .i64 0, .int .i64 0, .bool false] 123))).below ((Below.refl _ _).alloc (Nat.le_refl _) (.cells #[.slice none 0 0, .int .i64 0, .int .i64 0, .bool false, .int .i64 0] 55))
  have q1 := q1.below ((Below.refl _ _).alloc (Nat.le_refl _) (.cells #[.slice none 0 0, .int .i64 0, .int .i64 0, .bool false, .int .i64 0] 55))
  have q3 := hb3 (.cells #[.slice A0 n c0, .int .i64 After0, .int .i64 Torn0, .bool false, .int .i64 wr] 55) (.cells #[.slice none 0 0, .int .i64 0, .int .i64 0, .bool false, .int .i64 0, .int .i64 0, .int .i64 0, .bool false] 123) (.cells #[.slice none 0 0, .int .i64 0, .int .i64 0, .bool false, .int .i64 0] 55)
  have q5 : (((w.alloc (.cells #[.slice A0 n c0, .int .i64 After0, .int .i64 Torn0, .bool false, .int .i64 wr] 55)).alloc (.cells #[.slice none 0 0, .int .i64 0, .int .i64 0, .bool false, .int .i64 0, .int .i64 0, .int .i64 0, .bool false] 123)).alloc (.cells #[.slice none 0 0, .int .i64 0, .int .i64 0, .bool false, .int .i64 0] 55)).heap.size = w.heap.size + 3 := by simp
  have q4 := (hr.below q3).heap
  have HRF := Lib.hid hrf
  have HRW := Lib.hid hrw
  clear hr hx0 hx1 hx2 hb3 hrf hrw
  go_enter Try.func82, Try.ntmps82
  go_upto_region 3 with fail
  generalize World.alloc (World.alloc _ _) _ = w3 at q0 q1 q2 q3 q4 q5 ⊢
  obtain ⟨x0, x1, x2, x3, x4, f0, f1, f2, f3, f4⟩ := q0.cells
  have hrf := HRF.out w3 q3
  have Q0 := Lib.hid q0
  have Q1 := Lib.hid q1
  have Q2 := Lib.hid q2
  have Q3 := Lib.hid q3
  have Q4 := Lib.hid q4
  clear q0 q1 q2 q3 q4
  go_wp2_with fail
  refine hrf.mono ?_
  rintro e w4 ⟨v4, rfl, ho4, hb4⟩
  obtain ⟨A4, k4, c4, hv4, hk4⟩ := ho4.form
  subst hv4 hk4
  have hs4 := hb4.size
  have Q0 := Lib.hid (Q0.out.below hb4)
  have Q1 := Lib.hid (Q1.out.below hb4)
  have Q2 := Lib.hid (Q2.out.below hb4)
  have HO4 := Lib.hid (ho4.mono (D' := fun b => w.heap.size + 3 ≤ b) (fun b hb => by have h := hb; rw [q5] at h; exact h))
  have Q4 := Lib.hid (Q4.out.below hb4).heap
  have hrw := HRW.out w4 (Q3.out.trans (hb4.mono Q3.out.size))
  have Q3 := Lib.hid (Q3.out.trans (hb4.mono Q3.out.size))
  obtain ⟨x0, x1, x2, x3, x4, f0, f1, f2, f3, f4⟩ := Q0.out.cells
  clear ho4 hb4 hrf
  go_wp2_with fail
  refine hrw.mono ?_
  rintro e w5 ⟨v5, rfl, hr5, hb5⟩
  obtain ⟨d1, m1, e1⟩ := R
  obtain ⟨A5, c5, After5, Torn5, rfl⟩ := hr5.form
  simp only at hr5 ⊢
  generalize hn5 : d1.n = n5 at *
  generalize hd5 : d1.dead = dd5 at *
  generalize hw5 : (d1.writes : Int) = wr5 at *
  have hal : Below w5.heap.size w5 (w5.alloc (.cells #[.slice A5 n5 c5, .int .i64 After5, .int .i64 Torn5, .bool dd5, .int .i64 wr5] 55)) := (Below.refl _ _).alloc (Nat.le_refl _) _
  have hs5 := hb5.size
  have n1 : w5.heap.size ≠ w.heap.size + 1 := by omega
  have n2 : w.heap.size + 1 ≠ w5.heap.size := by omega
  have n3 : w5.heap.size ≠ w.heap.size + 1 + 1 := by omega
  have n4 : w.heap.size + 1 + 1 ≠ w5.heap.size := by omega
  have q1 := (Q1.out.below hb5).below (hal.mono (Nat.le_refl _))
  have q2 := (Q2.out.below hb5).below (hal.mono (Nat.le_refl _))
  have q3 := (Q3.out.trans (hb5.mono Q3.out.size)).trans (hal.mono (Q3.out.trans (hb5.mono Q3.out.size)).size)
  have q4 := (hr5.below hal).heap
  have q6 := (HO4.out.below hb5).below hal
  have q7 : RBox (w5.alloc (.cells #[.slice A5 n5 c5, .int .i64 After5, .int .i64 Torn5, .bool dd5, .int .i64 wr5] 55)) w5.heap.size (.agg #[.slice A5 n5 c5, .int .i64 After5, .int .i64 Torn5, .bool dd5, .int .i64 wr5]) := ⟨_, _, _, _, _, rfl, heap_alloc_new w5 _⟩
  clear hrw HRF HRW hn5 hd5 hw5 hal hr5 x0 x1 x2 x3 x4 f0 f1 f2 f3 f4 Q0 Q1 Q2 Q3 Q4 HO4
  go_upto_region 5 with fail
  generalize World.alloc w5 _ = w6 at q1 q2 q3 q4 q6 q7 ⊢
  obtain ⟨x0, x1, x2, x3, x4, f0, f1, f2, f3, f4⟩ := q7.cells
  obtain ⟨y0, y1, y2, y3, y4, y5, y6, y7⟩ := q1.cells
  obtain ⟨k0, k1, k2, k3, k4, k5, k6, k7⟩ := q1.free
  obtain ⟨z0, z1, z2, z3, z4, g0, g1, g2, g3, g4⟩ := q2.cells
  have Q4 := Lib.hid q4
  have Q6 := Lib.hid q6
  by_cases h0 : e1 = 0
  · subst h0
    have HQ := Lib.hid (ropen_ret (w := w) q1 q2 (by omega) (by omega) (by omega) q3 (.slice A5 n5 c5) (.int .i64 After5) (.int .i64 Torn5) (.bool dd5) (.int .i64 wr5) (.int .i64 (F.1.length : Int)) (.int .i64 (F.2 : Int)) (.bool false) (.slice A5 n5 c5) (.int .i64 After5) (.int .i64 Torn5) (.bool dd5) (.int .i64 wr5))
    clear q1 q2 q3 q4 q6 q7 Q0
    go_upto_region 7 with fail
    go_region
    go_wp2
    exact bodyPost_ret (v := .tuple #[.agg #[.slice A5 n5 c5, .int .i64 After5, .int .i64 Torn5, .bool dd5, .int .i64 wr5, .int .i64 (F.1.length : Int), .int .i64 (F.2 : Int), .bool false], .slice A4 F.1.length c4, .agg #[.slice A5 n5 c5, .int .i64 After5, .int .i64 Torn5, .bool dd5, .int .i64 wr5], .int .i64 0]) (by simp [results, Try.results82, go_sem, y0, y1, y2, y3, y4, y5, y6, y7, z0, z1, z2, z3, z4]) rfl ⟨HQ.out.2.1, _, _, _, _, _, _, _, _, _, _, _, _, _, _, _, _, _, _, rfl, HQ.out.1 _ _ Q4.out, fun _ => ⟨_, _, _, _, _, rfl, HQ.out.1 _ _ Q4.out⟩, by rw [if_pos rfl]; exact ((Q6.out.kept HQ.out.2.2 (fun b hb => ⟨by have : w.heap.size + 3 ≤ b := hb; omega, by have : w.heap.size + 3 ≤ b := hb; omega⟩)).mono (fun b hb => by have : w.heap.size + 3 ≤ b := hb; omega)).more (by omega)⟩
  · have e2 : (e1 == 0) = false := by rw [beq_eq_false_iff_ne]; exact h0
    have e3 : (e1 != 0) = true := by simp [e2, bne]
    have HQ := Lib.hid (ropen_ret (w := w) q1 q2 (by omega) (by omega) (by omega) q3 (.slice none 0 0) (.int .i64 0) (.int .i64 0) (.bool false) (.int .i64 0) (.int .i64 0) (.int .i64 0) (.bool false) (.slice A5 n5 c5) (.int .i64 After5) (.int .i64 Torn5) (.bool dd5) (.int .i64 wr5))
    clear q1 q2 q3 q4 q6 q7 Q0
    go_upto_region 6 with fail
    go_region
    go_wp2
    exact bodyPost_ret (v := .tuple #[.agg #[.slice none 0 0, .int .i64 0, .int .i64 0, .bool false, .int .i64 0, .int .i64 0, .int .i64 0, .bool false], .slice none 0 0, .agg #[.slice A5 n5 c5, .int .i64 After5, .int .i64 Torn5, .bool dd5, .int .i64 wr5], .int .i64 e1]) (by simp [results, Try.results82, go_sem, y0, y1, y2, y3, y4, y5, y6, y7, z0, z1, z2, z3, z4]) rfl ⟨HQ.out.2.1, _, _, _, _, _, _, _, _, _, _, _, _, _, _, _, _, _, _, rfl, HQ.out.1 _ _ Q4.out, fun h => absurd h h0, by rw [if_neg h0]; exact OwB.nil_ _ _ _⟩
end Go.Proofs.Ytmcjefdnkcpghaa
/- WHAT AN APPEND AND A WIPE CHANGE AT MOST; A JOURNAL BESIDE THE DOCUMENT'S, IN A LAW. -/
namespace Go.Proofs.Ytmcjefdnkcpghaa
open Go.RowKit
theorem wipeW_facts : ∀ (l : List Nat) (d : Dv), (wipeW d l).1.writes ≤ d.writes + l.length ∧ (wipeW d l).1.n = d.n := by
  intro l
  induction l with
  | nil => intro d; exact ⟨Nat.le_add_right _ _, rfl⟩
  | cons i r ih =>
    intro d
    have hw := write_writes d (i : Int) z64
    have hn := write_n d (i : Int) z64
    rw [wipeW, List.length_cons]
    split
    · obtain ⟨h1, h2⟩ := ih (d.write (i : Int) z64).1
      exact ⟨by omega, h2.trans hn⟩
    · exact ⟨by omega, hn⟩
theorem wipeR_facts (d : Dv) (tail : Int) : (wipeR d tail).1.writes ≤ d.writes + d.n ∧ (wipeR d tail).1.n = d.n := by
  have hl := dirtyL_len d.L tail.toNat d.n
  obtain ⟨h1, h2⟩ := wipeW_facts (dirtyL d.L d.n tail.toNat) d
  unfold wipeR
  split
  · split
    · exact ⟨by simp only; omega, h2⟩
    · exact ⟨by simp only; omega, h2⟩
  · exact ⟨Nat.le_add_right _ _, rfl⟩
theorem put_n : ∀ (P : List (List UInt8)) (d : Dv) (at_ : Nat), (putW d at_ P).1.n = d.n := by
  intro P
  induction P with
  | nil => intro d at_; rfl
  | cons p r ih =>
    intro d at_
    have hn := write_n d (at_ : Int) p
    rw [putW]
    split
    · exact (ih _ _).trans hn
    · exact hn
theorem append_facts {j : Jv} (hok : j.ok) {b : List UInt8} (hb : b.length ≤ 5000) :
    (appendW j b).1.d.n = j.d.n ∧ (appendW j b).1.d.writes ≤ j.d.writes + 1000 ∧ (appendW j b).1.many ≤ j.many + 1 ∧ (appendW j b).1.tail ≤ j.d.n := by
  obtain ⟨P, E, hPE, hPl, _⟩ := pages_cases2 ((j.many : Int) + 1) b hb
  have hw := put_writes P j.d j.tail
  have hn := put_n P j.d j.tail
  have ht := hok.tail
  unfold appendW
  rw [hPE]
  split
  · exact ⟨rfl, Nat.le_add_right _ _, Nat.le_succ _, ht⟩
  · split
    · exact ⟨rfl, Nat.le_add_right _ _, Nat.le_succ _, ht⟩
    · split
      · exact ⟨rfl, Nat.le_add_right _ _, Nat.le_succ _, ht⟩
      · rename_i hr
        simp only at hr
        split
        · exact ⟨hn, by simp only; omega, Nat.le_refl _, by simp only; omega⟩
        · exact ⟨hn, by simp only; omega, Nat.le_succ _, by simp only; omega⟩
/-- the document's journal in its box -/
def JBoxV (w : World) (b : Nat) (v : Value) : Prop := ∃ v0 v1 v2 v3 v4 v5 v6 v7, v = .agg #[v0, v1, v2, v3, v4, v5, v6, v7] ∧ JBox w b v0 v1 v2 v3 v4 v5 v6 v7
/-- a journal, the document's one in its box; j': what the journal is, j: what the document's is -/
structure Jm (w0 : World) (bj g bb : Nat) (j' j : Jv) (Z : Nat → Prop) (v : Value) (w : World) : Prop where
  jn : Jn w Z bj g j'
  lo : ∀ b, Z b → w0.heap.size ≤ b
  kd : ∀ b, Z b → KindD w b
  lob : w0.heap.size ≤ bj
  box : JBoxV w bb v
  lo2 : w0.heap.size ≤ bb
  rj : Rjv w w.heap.size v j
  below : Below w0.heap.size w0 w
section
variable {w0 w w' : World} {bj g bb : Nat} {j' j j1 : Jv} {Z : Nat → Prop} {v : Value}
theorem Jm.hi (h : Jm w0 bj g bb j' j Z v w) : ∀ b, Z b → b < w.heap.size := fun b hb => (h.kd b hb).lt
theorem Jm.grow (h : Jm w0 bj g bb j' j Z v w) (hb : Below w.heap.size w w') : Jm w0 bj g bb j' j Z v w' := by
  obtain ⟨v0, v1, v2, v3, v4, v5, v6, v7, e, hx⟩ := h.box
  exact ⟨h.jn.below hb, h.lo, fun b hz => (h.kd b hz).below hb, h.lob, ⟨v0, v1, v2, v3, v4, v5, v6, v7, e, hx.below hb⟩, h.lo2, (h.rj.below hb).heap, h.below.trans (hb.mono h.below.size)⟩
/-- the document's disk stands, whatever blocks turn to that hold no texts -/
theorem Rv.offs {B : Nat} {d : Dv} {S : Nat → Prop} (h : Rv w B v d) (k : Kept S w w') (hS : ∀ b cs t fr, w.heap[b]? = some (.cells cs t fr) → t = 9 → S b) : Rv w' w'.heap.size v d := by
  obtain ⟨A, c, a, t, e, hs, hf, htt⟩ := h
  refine ⟨A, c, a, t, e, ?_, hf, htt⟩
  obtain ⟨⟨A', c', hv, hc, hm, hr⟩, h2⟩ := hs
  by_cases h0 : 0 < (pagesS d.L d.n).length
  · obtain ⟨ad, hA, hlt, hx⟩ := hr h0
    rw [pagesS_len] at hv
    cases hv
    subst hA
    obtain ⟨cs, hcs⟩ := h2 ad _ c rfl h0
    have hn := hS _ _ _ _ hcs rfl
    have hl := lt_of_block hcs
    have hk := (k.block _ hl hn).trans hcs
    refine ⟨⟨some ad, c, by rw [pagesS_len], by rw [pagesS_len] at *; exact hc, hm, fun _ => ⟨ad, rfl, lt_of_block hk, fun j x hj => ?_⟩⟩, fun ad' n' c' e _ => ?_⟩
    · exact (k.cell (p := ad.add j) (by rw [addr_add_block]; exact hl) (by rw [addr_add_block]; exact hn)).trans (hx j x hj)
    · cases e; exact ⟨cs, hk⟩
  · exact ⟨⟨A', c', hv, hc, hm, fun h => absurd h h0⟩, fun ad n' c' e h => absurd h h0⟩
/-- behind Append -/
theorem Jm.app (h : Jm w0 bj g bb j' j Z v w) (hj : Jn w' Z bj g j1) (hk : Kept (fun x => ¬ Z x ∧ x ≠ bj) w w') : ∃ Z2, Jm w0 bj g bb j1 j Z2 v w' := by
  obtain ⟨Z2, h2, h3, h4⟩ := hj.dk.tight
  obtain ⟨v0, v1, v2, v3, v4, v5, v6, v7, e, hx⟩ := h.box
  have hne : bb ≠ bj := kind_ne hx h.jn.hd (by decide)
  have hbx : JBox w' bb v0 v1 v2 v3 v4 v5 v6 v7 := hk.heap hx ⟨fun hz => (h.kd _ hz).ne hx (by decide) (by decide) (by decide) rfl, hne⟩
  refine ⟨Z2, ⟨hj.hd, h2, fun hz => hj.nz (h3 _ hz)⟩, fun b hb => h.lo b (h3 b hb), h4, h.lob, ⟨v0, v1, v2, v3, v4, v5, v6, v7, e, hbx⟩, h.lo2, ?_, h.below.trans (hk.toBelow (B := w0.heap.size) h.below.size (fun b hb => ⟨fun hz => by have := h.lo b hz; omega, fun e => by have := h.lob; omega⟩))⟩
  obtain ⟨u0, u1, u2, u3, u4, eu, hr⟩ := h.rj
  refine ⟨u0, u1, u2, u3, u4, eu, hr.offs hk (fun b cs t fr hb ht => ?_)⟩
  subst ht
  exact ⟨fun hz => (h.kd _ hz).ne hb (by decide) (by decide) (by decide) rfl, kind_ne hb h.jn.hd (by decide)⟩
/-- the document's journal is put into its box -/
theorem Jm.put (h : Jm w0 bj g bb j' j Z v w) {v0 v1 v2 v3 v4 v5 v6 v7 : Value} (hr : Rjv w w.heap.size (.agg #[v0, v1, v2, v3, v4, v5, v6, v7]) j1) : Jm w0 bj g bb j' j1 Z (.agg #[v0, v1, v2, v3, v4, v5, v6, v7]) (set8 w bb v0 v1 v2 v3 v4 v5 v6 v7) := by
  obtain ⟨u0, u1, u2, u3, u4, u5, u6, u7, e, hx⟩ := h.box
  obtain ⟨h1, hk⟩ := hx.set v0 v1 v2 v3 v4 v5 v6 v7
  have hne : bj ≠ bb := kind_ne h.jn.hd hx (by decide)
  have hnz : ∀ b, Z b → b ≠ bb := fun b hz => (h.kd b hz).ne hx (by decide) (by decide) (by decide)
  refine ⟨⟨hk.heap h.jn.hd hne, h.jn.dk.kept hk hnz, h.jn.nz⟩, h.lo, fun b hz => ?_, h.lob, ⟨v0, v1, v2, v3, v4, v5, v6, v7, rfl, h1⟩, h.lo2, ?_, h.below.trans (hk.toBelow (B := w0.heap.size) h.below.size (fun b hb e => by have := h.lo2; omega))⟩
  · obtain ⟨cs, t, hh, ht⟩ := h.kd b hz
    exact ⟨cs, t, hk.heap hh (hnz b hz), ht⟩
  · obtain ⟨z0, z1, z2, z3, z4, ez, hz⟩ := hr
    exact ⟨z0, z1, z2, z3, z4, ez, hz.off hx (by decide) hk⟩
/-- behind both Opens -/
theorem opened_ok {w w11 w12 : World} {b12 g bj m t : Nat} {d' d1 : Dv} {Z : Nat → Prop} {vd v0 v1 v2 v3 v4 v5 v6 v7 u0 u1 u2 u3 u4 : Value} (hm : Pm w b12 g d1 Z vd d' w11) (hj : w11.heap[bj]? = some (.cells #[.pointer (some ⟨g, 0, none⟩), .int .i64 (m : Int), .int .i64 (t : Int), .bool false] 120 (0, 0)))
    (hlo : w.heap.size ≤ bj) (hb : Below w11.heap.size w11 w12) (hr : Rv w12 w12.heap.size (.agg #[u0, u1, u2, u3, u4]) d1) (hrj : Rjv w12 w12.heap.size (.agg #[v0, v1, v2, v3, v4, v5, v6, v7]) ⟨d1, m, t, false⟩) :
    Pl w b12 g d1 Z (.agg #[u0, u1, u2, u3, u4]) ((set5 w12 b12 u0 u1 u2 u3 u4).alloc (.cells #[v0, v1, v2, v3, v4, v5, v6, v7] 123)) ∧
    Jm w bj g w12.heap.size ⟨d1, m, t, false⟩ ⟨d1, m, t, false⟩ Z (.agg #[v0, v1, v2, v3, v4, v5, v6, v7]) ((set5 w12 b12 u0 u1 u2 u3 u4).alloc (.cells #[v0, v1, v2, v3, v4, v5, v6, v7] 123)) ∧
    Kept (fun x => x ≠ b12) w12 ((set5 w12 b12 u0 u1 u2 u3 u4).alloc (.cells #[v0, v1, v2, v3, v4, v5, v6, v7] 123)) ∧ b12 < w11.heap.size := by
  have hm12 := hm.grow hb
  have hp := hm12.put hr
  obtain ⟨_, hkk⟩ := hm12.box.set u0 u1 u2 u3 u4
  have hsz : (set5 w12 b12 u0 u1 u2 u3 u4).heap.size = w12.heap.size := by simp
  have hal : Below (set5 w12 b12 u0 u1 u2 u3 u4).heap.size (set5 w12 b12 u0 u1 u2 u3 u4) ((set5 w12 b12 u0 u1 u2 u3 u4).alloc (.cells #[v0, v1, v2, v3, v4, v5, v6, v7] 123)) := (Below.refl _ _).alloc (Nat.le_refl _) _
  have hpa := hp.grow hal
  have hl12 : b12 < w11.heap.size := by obtain ⟨a0, a1, a2, a3, a4, _, hx⟩ := hm.box; exact lt_of_block hx
  have hs := hb.size
  have hs0 := hm.below.size
  have hj12 := (hb.block bj (lt_of_block hj)).trans hj
  obtain ⟨a0, a1, a2, a3, a4, _, hx12⟩ := hm12.box
  have hne : bj ≠ b12 := kind_ne hj12 hx12 (by decide)
  have hj13 := hkk.heap hj12 hne
  refine ⟨hpa, ⟨⟨(hal.block bj (lt_of_block hj13)).trans hj13, hpa.dk, fun hz => (hm12.kd bj hz).ne hj12 (by decide) (by decide) (by decide) rfl⟩, hpa.hi, hpa.kd, hlo, ⟨v0, v1, v2, v3, v4, v5, v6, v7, rfl, ?_⟩, by omega, ?_, hpa.below⟩, hkk.trans (Kept.ofBelow (S := fun x => x ≠ b12) hal) (fun _ _ h => h), hl12⟩
  · have := heap_alloc_new (set5 w12 b12 u0 u1 u2 u3 u4) (.cells #[v0, v1, v2, v3, v4, v5, v6, v7] 123 (0, 0))
    rw [hsz] at this
    exact this
  · obtain ⟨z0, z1, z2, z3, z4, e, hz⟩ := hrj
    exact ⟨z0, z1, z2, z3, z4, e, ((hz.other hm12.box hkk).below hal).heap⟩
end
end Go.Proofs.Ytmcjefdnkcpghaa
