/- THE WALK OF octroiref09.New. -/
import Derived.Test.YtmcjefdnkcpghaaSeG
import Derived.Test.YtmcjefdnkcpghaaGr3
import Derived.Deep.RegionLaw
namespace Go.Proofs.Ytmcjefdnkcpghaa
open Go.RowKit
theorem Ow.apart2 {α : Type} {K : Kd α} {w : World} {base : Nat} {v : Value} {l : List α} {g : Nat} {cs : Array Value} {t : TypeId} {fr : Nat × Nat} (ho : Ow K w base v l) (hg : w.heap[g]? = some (.cells cs t fr)) (ht : t ≠ K.E) : v.ownBlock ≠ some g := by
  intro e
  rcases ho.2 with ⟨rfl, _⟩ | ⟨g', cap, cur, rfl, _, hgg, _⟩
  · simp [Value.ownBlock] at e
  · simp [Value.ownBlock] at e
    subst e
    rw [hg] at hgg
    injection hgg with hgg
    injection hgg with _ hgg _
    exact ht hgg
def z64 : List UInt8 := List.replicate 64 0
theorem made_z64 : madeCells #[.int .u8 0] 64 = (z64.map bV).toArray := by
  apply Array.toList_inj.1
  rw [toList_madeCells_one]
  rfl
theorem page_zero (n i : Nat) (h : i < n) : page (List.replicate (64 * n) 0) i = z64 := by
  unfold page z64
  rw [List.drop_replicate, List.take_replicate]
  congr 1; omega
theorem pagesS_zero (n : Nat) : pagesS (List.replicate (64 * n) 0) n = List.replicate n (bsA z64) := by
  apply List.ext_getElem?
  intro i
  by_cases h : i < n
  · rw [pagesS_get _ _ _ h, page_zero n i h, List.getElem?_replicate, if_pos h]
  · rw [List.getElem?_eq_none (by rw [pagesS_len]; omega), List.getElem?_eq_none (by rw [List.length_replicate]; omega)]
set_option maxRecDepth 100000 in
set_option maxHeartbeats 4000000 in
theorem rnew_any (n : Nat) (h2 : n ≤ 4096) (w : World) : Calls Try.prog 41 #[.int .i64 (n : Int)] w fun e w' => ∃ v, e = .returned v ∧ Rv w' w'.heap.size v (Dv.new n) ∧ Below w.heap.size w w' := by
  obtain ⟨i, hi, hz, hs, hb⟩ := info_parts Try.byteInfo
  have hmk : ∀ w, (Instr.makeSlice 23 (.int .i64 64) (.int .i64 64)).run Try.prog w = .ok (.slice (some ⟨w.heap.size, 0, none⟩) 64 64) (w.alloc (.cells (z64.map bV).toArray 5)) := fun w => by
    have := run_make (P := Try.prog) w 23 5 i (.int .u8 0) Try.underlying23 hi hz .i64 .i64 64 64 (by omega) (Int.le_refl _) (by rw [hb]; decide) (by omega)
    rw [this, hs, ← made_z64]; rfl
  have hcv : ∀ w : World, (convert 23 9 (.slice (some ⟨w.heap.size, 0, none⟩) 64 64)).run Try.prog (w.alloc (.cells (z64.map bV).toArray 5)) = .ok (.string (bsA z64)) (w.alloc (.cells (z64.map bV).toArray 5)) := fun w =>
    (own_lit w z64 (by decide)).byt.str
  have hcw : ∀ w : World, (convert 23 9 (.slice (some ⟨w.heap.size, 0, none⟩) 64 64)).run Try.prog (w.alloc (.cells (z64.map bV).toArray 5)).drew = .ok (.string (bsA z64)) (w.alloc (.cells (z64.map bV).toArray 5)).drew := fun w =>
    ((own_lit w z64 (by decide)).byt.drew).str
  obtain ⟨Z, hZ⟩ : ∃ Z, Z = (z64.map bV).toArray := ⟨_, rfl⟩
  rw [← hZ] at hmk hcv hcw
  obtain ⟨zs, hzs⟩ : ∃ zs, zs = bsA z64 := ⟨_, rfl⟩
  rw [← hzs] at hcv hcw
  have HZ := Lib.hid hzs
  clear hZ hzs hi hz hs hb
  go_enter Try.func41, Try.ntmps41
  go_wp2
  have hR := heap_alloc_new w (.cells #[.slice none 0 0, .int .i64 0, .int .i64 0, .bool false, .int .i64 0] 55 (0, 0))
  go_loopg [4] n (fun g x4 wr => ∃ (k : Nat) (v : Value), k ≤ n ∧ g = n - k ∧ x4 = .int .i64 (k : Int) ∧
    wr.heap[w.heap.size]? = some (.cells #[.slice none 0 0, .int .i64 0, .int .i64 0, .bool false, .int .i64 0] 55 (0, 0)) ∧
    wr.heap[w.heap.size + 1]? = some (.cells #[v, .int .i64 (-1), .int .i64 0, .bool false, .int .i64 0] 55 (0, 0)) ∧
    Ow strK wr w.heap.size v (List.replicate k zs) ∧ Below w.heap.size w wr)
  case atStart =>
    refine ⟨0, _, Nat.zero_le _, rfl, rfl, ?_, ?_, Ow.nil_ _ _ _, ((Below.refl _ w).alloc (Nat.le_refl _) _).alloc (by simp) _⟩
    · rw [Below.heap_alloc _ _ _ (by simp)]; exact hR
    · have := heap_alloc_new (w.alloc (.cells #[.slice none 0 0, .int .i64 0, .int .i64 0, .bool false, .int .i64 0] 55)) (.cells #[.slice none 0 0, .int .i64 (-1), .int .i64 0, .bool false, .int .i64 0] 55 (0, 0))
      simpa using this
  case round =>
    obtain ⟨k, v, hk, hg, rfl, hRr, hDr, hown, hbel⟩ := hrel
    have HG := Lib.hid hg
    clear hg hR
    by_cases h : k < n
    · have c0 : wr.cell? ⟨w.heap.size + 1, 0, none⟩ = some v := by simp [World.cell?, hDr]
      have f0 := free_of hDr 0
      have hlt := lt_of_block hDr
      obtain ⟨A, c, rfl, _, _, _⟩ := hown.sl
      rw [List.length_replicate] at *
      have hsl : Sl strK ((wr.alloc (.cells Z 5)).alloc (.cells #[.string zs] 9)).drew (wr.heap.size + 1 + 1) (.slice (some ⟨wr.heap.size + 1, 0, none⟩) 1 1) [zs] := by
        have := sl_one strK (wr.alloc (.cells Z 5)) zs
        simp only [World.size_alloc] at this
        exact this.drew
      have hoA : Ow strK ((wr.alloc (.cells Z 5)).alloc (.cells #[.string zs] 9)).drew w.heap.size (.slice A k c) (List.replicate k zs) := ((hown.alloc _).alloc _).drew
      have hbA : Below w.heap.size w ((wr.alloc (.cells Z 5)).alloc (.cells #[.string zs] 9)).drew := ((hbel.alloc hbel.size _).alloc (by have := hbel.size; simp; omega) _).drew
      have hDA : ((wr.alloc (.cells Z 5)).alloc (.cells #[.string zs] 9)).drew.heap[w.heap.size + 1]? = some (.cells #[.slice A k c, .int .i64 (-1), .int .i64 0, .bool false, .int .i64 0] 55 (0, 0)) := by
        show ((wr.alloc (.cells Z 5)).alloc (.cells #[.string zs] 9)).heap[w.heap.size + 1]? = _
        rw [Below.heap_alloc _ _ _ (by simp; omega), Below.heap_alloc _ _ _ hlt]; exact hDr
      have hRA : ((wr.alloc (.cells Z 5)).alloc (.cells #[.string zs] 9)).drew.heap[w.heap.size]? = some (.cells #[.slice none 0 0, .int .i64 0, .int .i64 0, .bool false, .int .i64 0] 55 (0, 0)) := by
        show ((wr.alloc (.cells Z 5)).alloc (.cells #[.string zs] 9)).heap[w.heap.size]? = _
        rw [Below.heap_alloc _ _ _ (by simp; omega), Below.heap_alloc _ _ _ (lt_of_block hRr)]; exact hRr
      have hlr : (List.replicate k zs).length + [zs].length ≤ 1000000000 := by simp; omega
      have hba := hbA.size
      have y1 : (wr.alloc (.cells Z 5)).cell? ⟨w.heap.size + 1, 0, none⟩ = some (.slice A k c) := (World.cell?_alloc_lt wr _ _ hlt).trans c0
      have y2 : ((wr.alloc (.cells Z 5)).alloc (.cells #[.string zs] 9)).cell? ⟨w.heap.size + 1, 0, none⟩ = some (.slice A k c) := (World.cell?_alloc_lt _ _ _ (by simp; omega)).trans y1
      have hn1 := Ow.apart2 hoA hDA (by decide)
      have hn2 := Ow.apart2 hoA hRA (by decide)
      go_wp2_with fail
      go_region_law (refine step_append_sl strK _ rfl (.tmp 12) (.tmp 15) 53 rfl Try.underlying53 w.heap.size _ (List.replicate k zs) rfl hoA _ _ [zs] rfl hsl hlr (by decide) hba ?_; intro v5 w5 hown5 hg5 _; have hD5 := (hg5.block (w.heap.size + 1) (lt_of_block hDA) (fun e => hn1 e.symm)).trans hDA; have hR5 := (hg5.block w.heap.size (lt_of_block hRA) (fun e => hn2 e.symm)).trans hRA; have c5 : w5.cell? ⟨w.heap.size + 1, 0, none⟩ = some (.slice A k c) := (by simp [World.cell?, hD5]); have f5 := free_of hD5 0; obtain ⟨A5, cp5, rfl, _, _, _⟩ := hown5.sl)
      all_goals go_wp2
      all_goals go_roundg (n - (k + 1))
      all_goals first
        | (have := HG.out; omega)
        | (refine ⟨k + 1, .slice A5 (List.replicate k zs ++ [zs]).length cp5, by omega, rfl, by go_num, ?_, ?_, ?_, ?_⟩
           · rw [Below.heap_setCell _ _ _ _ (fun e => by have e' : w.heap.size = w.heap.size + 1 := e; omega)]; exact hR5
           · simpa using Lib.heap_setCell_same (i := 0) hD5 _
           · rw [List.replicate_succ']; exact ownsRow_setCell_other hown5 (Ow.apart2 hown5 hD5 (by decide)) _
           · exact (hbA.grown hg5 hba (fun b hb => (hoA.lt b hb).1)).setCell (by simp) _)
    · obtain rfl : k = n := by omega
      have r0 : wr.cell? ⟨w.heap.size, 0, none⟩ = some (.slice none 0 0) := by simp [World.cell?, hRr]
      have r1 : wr.cell? ⟨w.heap.size, 1, none⟩ = some (.int .i64 0) := by simp [World.cell?, hRr]
      have r2 : wr.cell? ⟨w.heap.size, 2, none⟩ = some (.int .i64 0) := by simp [World.cell?, hRr]
      have r3 : wr.cell? ⟨w.heap.size, 3, none⟩ = some (.bool false) := by simp [World.cell?, hRr]
      have r4 : wr.cell? ⟨w.heap.size, 4, none⟩ = some (.int .i64 0) := by simp [World.cell?, hRr]
      have d0 : wr.cell? ⟨w.heap.size + 1, 0, none⟩ = some v := by simp [World.cell?, hDr]
      have d1 : wr.cell? ⟨w.heap.size + 1, 1, none⟩ = some (.int .i64 (-1)) := by simp [World.cell?, hDr]
      have d2 : wr.cell? ⟨w.heap.size + 1, 2, none⟩ = some (.int .i64 0) := by simp [World.cell?, hDr]
      have d3 : wr.cell? ⟨w.heap.size + 1, 3, none⟩ = some (.bool false) := by simp [World.cell?, hDr]
      have d4 : wr.cell? ⟨w.heap.size + 1, 4, none⟩ = some (.int .i64 0) := by simp [World.cell?, hDr]
      have g0 := free_of hRr 0
      have g1 := free_of hRr 1
      have g2 := free_of hRr 2
      have g3 := free_of hRr 3
      have g4 := free_of hRr 4
      obtain ⟨A, c, rfl, _, _, _⟩ := hown.sl
      rw [List.length_replicate] at *
      go_wp2
      have hne := Ow.apart2 hown hRr (by decide)
      have o1 := ownsRow_setCell_other (a := ⟨w.heap.size, 0, none⟩) hown hne (.slice A k c)
      have o2 := ownsRow_setCell_other (a := ⟨w.heap.size, 1, none⟩) o1 hne (.int .i64 (-1))
      have o3 := ownsRow_setCell_other (a := ⟨w.heap.size, 2, none⟩) o2 hne (.int .i64 0)
      have o4 := ownsRow_setCell_other (a := ⟨w.heap.size, 3, none⟩) o3 hne (.bool false)
      have o5 : Ow strK _ w.heap.size (.slice A k c) (List.replicate k zs) := ownsRow_setCell_other (a := ⟨w.heap.size, 4, none⟩) o4 hne (.int .i64 0)
      have hsl := o5.sls
      rw [HZ.out, ← pagesS_zero] at hsl
      refine bodyPost_ret (v := .agg #[.slice A k c, .int .i64 (-1), .int .i64 0, .bool false, .int .i64 0]) (by simp [results, Try.results41, go_sem, r0, r1, r2, r3, r4]) rfl ⟨_, rfl, ⟨A, c, -1, 0, rfl, hsl, rfl, by omega⟩, ?_⟩
      exact ((((hbel.setCell (by simp) _).setCell (by simp) _).setCell (by simp) _).setCell (by simp) _).setCell (by simp) _
end Go.Proofs.Ytmcjefdnkcpghaa
