/- THE WALK OF SectorTorn: arguments that are not looked at. -/
import Derived.Test.YtmcjefdnkcpghaaSeT
namespace Go.Proofs.Ytmcjefdnkcpghaa
open Go.RowKit
def TornPost (w : World) (e : Ending) (w' : World) : Prop := e = .returned (.bool true) ∧ Below w.heap.size w w'
/-- the boxes of SectorTorn -/
def tW (w : World) (i torn a b : Int) : World := ((((w.alloc (.cells #[.int .i64 i] 3)).alloc (.cells #[.int .i64 torn] 3)).alloc (.cells #[.int .u8 a] 5)).alloc (.cells #[.int .u8 b] 5)).alloc (.cells #[.bool false] 4)
section
variable (w : World) (i torn a b : Int)
theorem tW_size : (tW w i torn a b).heap.size = w.heap.size + 5 := by simp [tW]
theorem tW_below : Below w.heap.size w (tW w i torn a b) := (((((Below.refl _ w).alloc (Nat.le_refl _) _).alloc (by simp) _).alloc (by simp <;> omega) _).alloc (by simp <;> omega) _).alloc (by simp <;> omega) _
theorem tW_0 : (tW w i torn a b).heap[w.heap.size]? = some (.cells #[.int .i64 i] 3 (0, 0)) := by
  unfold tW
  rw [Below.heap_alloc _ _ _ (by simp <;> omega), Below.heap_alloc _ _ _ (by simp <;> omega), Below.heap_alloc _ _ _ (by simp <;> omega), Below.heap_alloc _ _ _ (by simp)]
  exact heap_alloc_new w _
theorem tW_1 : (tW w i torn a b).heap[w.heap.size + 1]? = some (.cells #[.int .i64 torn] 3 (0, 0)) := by
  unfold tW
  rw [Below.heap_alloc _ _ _ (by simp <;> omega), Below.heap_alloc _ _ _ (by simp <;> omega), Below.heap_alloc _ _ _ (by simp <;> omega)]
  have := heap_alloc_new (w.alloc (.cells #[.int .i64 i] 3)) (.cells #[.int .i64 torn] 3 (0, 0))
  simpa using this
theorem tW_2 : (tW w i torn a b).heap[w.heap.size + 1 + 1]? = some (.cells #[.int .u8 a] 5 (0, 0)) := by
  unfold tW
  rw [Below.heap_alloc _ _ _ (by simp <;> omega), Below.heap_alloc _ _ _ (by simp <;> omega)]
  have := heap_alloc_new ((w.alloc (.cells #[.int .i64 i] 3)).alloc (.cells #[.int .i64 torn] 3)) (.cells #[.int .u8 a] 5 (0, 0))
  simpa using this
theorem tW_3 : (tW w i torn a b).heap[w.heap.size + 1 + 1 + 1]? = some (.cells #[.int .u8 b] 5 (0, 0)) := by
  unfold tW
  rw [Below.heap_alloc _ _ _ (by simp <;> omega)]
  have := heap_alloc_new (((w.alloc (.cells #[.int .i64 i] 3)).alloc (.cells #[.int .i64 torn] 3)).alloc (.cells #[.int .u8 a] 5)) (.cells #[.int .u8 b] 5 (0, 0))
  simpa using this
theorem tW_4 : (tW w i torn a b).heap[w.heap.size + 1 + 1 + 1 + 1]? = some (.cells #[.bool false] 4 (0, 0)) := by
  unfold tW
  have := heap_alloc_new ((((w.alloc (.cells #[.int .i64 i] 3)).alloc (.cells #[.int .i64 torn] 3)).alloc (.cells #[.int .u8 a] 5)).alloc (.cells #[.int .u8 b] 5)) (.cells #[.bool false] 4 (0, 0))
  simpa using this
end
theorem tW_boxes {w wr : World} {i torn a b : Int} (h : Below (tW w i torn a b).heap.size (tW w i torn a b) wr) : wr.cell? ⟨w.heap.size, 0, none⟩ = some (.int .i64 i) ∧ wr.cell? ⟨w.heap.size + 1, 0, none⟩ = some (.int .i64 torn) ∧
    wr.cell? ⟨w.heap.size + 1 + 1, 0, none⟩ = some (.int .u8 a) ∧ wr.cell? ⟨w.heap.size + 1 + 1 + 1, 0, none⟩ = some (.int .u8 b) ∧ wr.heap[w.heap.size + 1 + 1 + 1 + 1]? = some (.cells #[.bool false] 4 (0, 0)) ∧ Below w.heap.size w wr := by
  have hs := tW_size w i torn a b
  have k0 := (h.block w.heap.size (by omega)).trans (tW_0 w i torn a b)
  have k1 := (h.block (w.heap.size + 1) (by omega)).trans (tW_1 w i torn a b)
  have k2 := (h.block (w.heap.size + 1 + 1) (by omega)).trans (tW_2 w i torn a b)
  have k3 := (h.block (w.heap.size + 1 + 1 + 1) (by omega)).trans (tW_3 w i torn a b)
  have k4 := (h.block (w.heap.size + 1 + 1 + 1 + 1) (by omega)).trans (tW_4 w i torn a b)
  exact ⟨cells_of k0 0 _ rfl, cells_of k1 0 _ rfl, cells_of k2 0 _ rfl, cells_of k3 0 _ rfl, k4, (tW_below w i torn a b).trans (h.mono (by omega))⟩
theorem Tp.boxes {w wr : World} {i torn a b : Int} {g : Nat} {d : Dv} (h : Tp (tW w i torn a b) g d wr) : wr.cell? ⟨w.heap.size, 0, none⟩ = some (.int .i64 i) ∧ wr.cell? ⟨w.heap.size + 1, 0, none⟩ = some (.int .i64 torn) ∧
    wr.cell? ⟨w.heap.size + 1 + 1, 0, none⟩ = some (.int .u8 a) ∧ wr.cell? ⟨w.heap.size + 1 + 1 + 1, 0, none⟩ = some (.int .u8 b) ∧ wr.heap[w.heap.size + 1 + 1 + 1 + 1]? = some (.cells #[.bool false] 4 (0, 0)) ∧ Below w.heap.size w wr := tW_boxes h.below
set_option maxRecDepth 100000 in
set_option maxHeartbeats 4000000 in
theorem torn_out {w : World} (many i after torn : Int) (a b : Nat) (h : many < 1 ∨ 40 < many ∨ i < 0 ∨ many ≤ i ∨ after < 0 ∨ 40 < after ∨ torn < 0 ∨ 64 < torn) :
    Calls Try.prog 8 #[.int .i64 many, .int .i64 i, .int .i64 after, .int .i64 torn, .int .u8 (a : Int), .int .u8 (b : Int)] w (TornPost w) := by
  have pick : ∀ {p q : Prop}, (p ∨ q) → p ∨ (¬ p ∧ q) := fun {p q} h => (Classical.em p).imp id fun hn => ⟨hn, h.resolve_left hn⟩
  have H4 := Lib.hid (tW_4 w i torn a b)
  have HB := Lib.hid (tW_below w i torn a b)
  have hsz := tW_size w i torn a b
  rcases pick h with h1 | ⟨n1, h⟩
  rotate_left
  rcases pick h with h2 | ⟨n2, h⟩
  rotate_left
  rcases pick h with h3 | ⟨n3, h⟩
  rotate_left
  rcases pick h with h4 | ⟨n4, h⟩
  rotate_left
  rcases pick h with h5 | ⟨n5, h⟩
  rotate_left
  rcases pick h with h6 | ⟨n6, h⟩
  rotate_left
  rcases pick h with h7 | ⟨n7, h8⟩
  all_goals
    clear pick
    try clear h
    try (have e1 : decide (many < 1) = false := decide_eq_false n1)
    try (have e2 : decide (40 < many) = false := decide_eq_false n2)
    try (have e3 : decide (i < 0) = false := decide_eq_false n3)
    try (have e4 : decide (many ≤ i) = false := decide_eq_false n4)
    try (have e5 : decide (after < 0) = false := decide_eq_false n5)
    try (have e6 : decide (40 < after) = false := decide_eq_false n6)
    try (have e7 : decide (torn < 0) = false := decide_eq_false n7)
    go_enter Try.func8, Try.ntmps8
    go_wp2_with (go_at_call 33; refine (lives_any _).mono ?_; rintro e w9 ⟨rfl, hb9⟩
                 have hx : w9.heap[w.heap.size + 1 + 1 + 1 + 1]? = some (.cells #[.bool false] 4 (0, 0)) := (hb9.block _ (by simp)).trans H4.out
                 have cx := cells_of hx 0 _ rfl
                 have fx := free_of hx 0)
    have hB9 := (HB.out.trans (hb9.mono (by rw [hsz] at *; simp; omega))).setCell (p := ⟨w.heap.size + 1 + 1 + 1 + 1, 0, none⟩) (by show w.heap.size ≤ w.heap.size + 1 + 1 + 1 + 1; omega) (.bool true)
    exact bodyPost_ret (v := .bool true) (by simp [results, Try.results8, go_sem, cx]) rfl ⟨rfl, hB9⟩
end Go.Proofs.Ytmcjefdnkcpghaa
