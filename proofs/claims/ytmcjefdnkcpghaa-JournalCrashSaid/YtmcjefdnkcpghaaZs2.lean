/- THE WALK OF octroiref09.New. -/
import Derived.Test.YtmcjefdnkcpghaaZs1
import Derived.Test.YtmcjefdnkcpghaaZg
import Derived.Deep.RegionLaw
import Derived.RangeFuncBound
import Derived.RangeFuncLeaves
import Derived.Shelf.Abstract
import Derived.WalkKit
import Derived.OwnWalkIn
import Derived.TacticsInMore
import Derived.LoopNIn
import Derived.LoopIn
namespace Go.Proofs.Ytmcjefdnkcpghaa
open Go.RowKit
theorem Ow.apart2 {α : Type} {K : Kd α} {w : World} {base : Nat} {v : Value} {l : List α} {g : Nat} {cs : Array Value} {t : TypeId} {fr : Nat × Nat} (ho : Ow K w base v l) (hg : w.heap[g]? = some (.cells cs t fr)) (ht : t ≠ K.E) : v.ownBlock ≠ some g := by
  intro e
  rcases ho.2 with ⟨rfl, _⟩ | ⟨g', cap, cur, rfl, _, hgg, _⟩
  · simp [Value.ownBlock] at e
  · simp [Value.ownBlock] at e
    subst e
    rw [hg] at hgg
    injection hgg with hgg
    injection hgg with _ hgg _
    exact ht hgg
def z64 : List UInt8 := List.replicate 64 0
theorem made_z64 : madeCells #[.int .u8 0] 64 = (z64.map bV).toArray := by
  apply Array.toList_inj.1
  rw [toList_madeCells_one]
  rfl
theorem page_zero (n i : Nat) (h : i < n) : page (List.replicate (64 * n) 0) i = z64 := by
  unfold page z64
  rw [List.drop_replicate, List.take_replicate]
  congr 1; omega
theorem pagesS_zero (n : Nat) : pagesS (List.replicate (64 * n) 0) n = List.replicate n (bsA z64) := by
  apply List.ext_getElem?
  intro i
  by_cases h : i < n
  · rw [pagesS_get _ _ _ h, page_zero n i h, List.getElem?_replicate, if_pos h]
  · rw [List.getElem?_eq_none (by rw [pagesS_len]; omega), List.getElem?_eq_none (by rw [List.length_replicate]; omega)]
set_option maxRecDepth 100000 in
set_option maxHeartbeats 4000000 in
theorem rnew_any (n : Nat) (h2 : n ≤ 4096) (w : World) : Calls Try.prog 41 #[.int .i64 (n : Int)] w fun e w' => ∃ v, e = .returned v ∧ Rv w' w'.heap.size v (Dv.new n) ∧ Below w.heap.size w w' := by
  obtain ⟨i, hi, hz, hs, hb⟩ := info_parts Try.byteInfo
  have hmk : ∀ w, (Instr.makeSlice 23 (.int .i64 64) (.int .i64 64)).run Try.prog w = .ok (.slice (some ⟨w.heap.size, 0, none⟩) 64 64) (w.alloc (.cells (z64.map bV).toArray 5)) := fun w => by
    have := run_make (P := Try.prog) w 23 5 i (.int .u8 0) Try.underlying23 hi hz .i64 .i64 64 64 (by omega) (Int.le_refl _) (by rw [hb]; decide) (by omega)
    rw [this, hs, ← made_z64]; rfl
  have hcv : ∀ w : World, (convert 23 9 (.slice (some ⟨w.heap.size, 0, none⟩) 64 64)).run Try.prog (w.alloc (.cells (z64.map bV).toArray 5)) = .ok (.string (bsA z64)) (w.alloc (.cells (z64.map bV).toArray 5)) := fun w =>
    (own_lit w z64 (by decide)).byt.str
  have hcw : ∀ w : World, (convert 23 9 (.slice (some ⟨w.heap.size, 0, none⟩) 64 64)).run Try.prog (w.alloc (.cells (z64.map bV).toArray 5)).drew = .ok (.string (bsA z64)) (w.alloc (.cells (z64.map bV).toArray 5)).drew := fun w =>
    ((own_lit w z64 (by decide)).byt.drew).str
  obtain ⟨Z, hZ⟩ : ∃ Z, Z = (z64.map bV).toArray := ⟨_, rfl⟩
  rw [← hZ] at hmk hcv hcw
  obtain ⟨zs, hzs⟩ : ∃ zs, zs = bsA z64 := ⟨_, rfl⟩
  rw [← hzs] at hcv hcw
  have HZ := Lib.hid hzs
  clear hZ hzs hi hz hs hb
  go_enter Try.func41, Try.ntmps41
  go_wp2
  have hR := heap_alloc_new w (.cells #[.slice none 0 0, .int .i64 0, .int .i64 0, .bool false, .int .i64 0] 55 (0, 0))
  go_loopg [4] n (fun g x4 wr => ∃ (k : Nat) (v : Value), k ≤ n ∧ g = n - k ∧ x4 = .int .i64 (k : Int) ∧
    wr.heap[w.heap.size]? = some (.cells #[.slice none 0 0, .int .i64 0, .int .i64 0, .bool false, .int .i64 0] 55 (0, 0)) ∧
    wr.heap[w.heap.size + 1]? = some (.cells #[v, .int .i64 (-1), .int .i64 0, .bool false, .int .i64 0] 55 (0, 0)) ∧
    Ow strK wr w.heap.size v (List.replicate k zs) ∧ Below w.heap.size w wr)
  case atStart =>
    refine ⟨0, _, Nat.zero_le _, rfl, rfl, ?_, ?_, Ow.nil_ _ _ _, ((Below.refl _ w).alloc (Nat.le_refl _) _).alloc (by simp) _⟩
    · rw [Below.heap_alloc _ _ _ (by simp)]; exact hR
    · have := heap_alloc_new (w.alloc (.cells #[.slice none 0 0, .int .i64 0, .int .i64 0, .bool false, .int .i64 0] 55)) (.cells #[.slice none 0 0, .int .i64 (-1), .int .i64 0, .bool false, .int .i64 0] 55 (0, 0))
      simpa using this
  case round =>
    obtain ⟨k, v, hk, hg, rfl, hRr, hDr, hown, hbel⟩ := hrel
    have HG := Lib.hid hg
    clear hg hR
    by_cases h : k < n
    · have c0 : wr.cell? ⟨w.heap.size + 1, 0, none⟩ = some v := by simp [World.cell?, hDr]
      have f0 := free_of hDr 0
      have hlt := lt_of_block hDr
      obtain ⟨A, c, rfl, _, _, _⟩ := hown.sl
      rw [List.length_replicate] at *
      have hsl : Sl strK ((wr.alloc (.cells Z 5)).alloc (.cells #[.string zs] 9)).drew (wr.heap.size + 1 + 1) (.slice (some ⟨wr.heap.size + 1, 0, none⟩) 1 1) [zs] := by
        have := sl_one strK (wr.alloc (.cells Z 5)) zs
        simp only [World.size_alloc] at this
        exact this.drew
      have hoA : Ow strK ((wr.alloc (.cells Z 5)).alloc (.cells #[.string zs] 9)).drew w.heap.size (.slice A k c) (List.replicate k zs) := ((hown.alloc _).alloc _).drew
      have hbA : Below w.heap.size w ((wr.alloc (.cells Z 5)).alloc (.cells #[.string zs] 9)).drew := ((hbel.alloc hbel.size _).alloc (by have := hbel.size; simp; omega) _).drew
      have hDA : ((wr.alloc (.cells Z 5)).alloc (.cells #[.string zs] 9)).drew.heap[w.heap.size + 1]? = some (.cells #[.slice A k c, .int .i64 (-1), .int .i64 0, .bool false, .int .i64 0] 55 (0, 0)) := by
        show ((wr.alloc (.cells Z 5)).alloc (.cells #[.string zs] 9)).heap[w.heap.size + 1]? = _
        rw [Below.heap_alloc _ _ _ (by simp; omega), Below.heap_alloc _ _ _ hlt]; exact hDr
      have hRA : ((wr.alloc (.cells Z 5)).alloc (.cells #[.string zs] 9)).drew.heap[w.heap.size]? = some (.cells #[.slice none 0 0, .int .i64 0, .int .i64 0, .bool false, .int .i64 0] 55 (0, 0)) := by
        show ((wr.alloc (.cells Z 5)).alloc (.cells #[.string zs] 9)).heap[w.heap.size]? = _
        rw [Below.heap_alloc _ _ _ (by simp; omega), Below.heap_alloc _ _ _ (lt_of_block hRr)]; exact hRr
      have hlr : (List.replicate k zs).length + [zs].length ≤ 1000000000 := by simp; omega
      have hba := hbA.size
      have y1 : (wr.alloc (.cells Z 5)).cell? ⟨w.heap.size + 1, 0, none⟩ = some (.slice A k c) := (World.cell?_alloc_lt wr _ _ hlt).trans c0
      have y2 : ((wr.alloc (.cells Z 5)).alloc (.cells #[.string zs] 9)).cell? ⟨w.heap.size + 1, 0, none⟩ = some (.slice A k c) := (World.cell?_alloc_lt _ _ _ (by simp; omega)).trans y1
      have hn1 := Ow.apart2 hoA hDA (by decide)
      have hn2 := Ow.apart2 hoA hRA (by decide)
      go_wp2_with fail
      go_region_law (refine step_append_sl strK _ rfl (.tmp 12) (.tmp 15) 53 rfl Try.underlying53 w.heap.size _ (List.replicate k zs) rfl hoA _ _ [zs] rfl hsl hlr (by decide) hba ?_; intro v5 w5 hown5 hg5 _; have hD5 := (hg5.block (w.heap.size + 1) (lt_of_block hDA) (fun e => hn1 e.symm)).trans hDA; have hR5 := (hg5.block w.heap.size (lt_of_block hRA) (fun e => hn2 e.symm)).trans hRA; have c5 : w5.cell? ⟨w.heap.size + 1, 0, none⟩ = some (.slice A k c) := (by simp [World.cell?, hD5]); have f5 := free_of hD5 0; obtain ⟨A5, cp5, rfl, _, _, _⟩ := hown5.sl)
      all_goals go_wp2
      all_goals go_roundg (n - (k + 1))
      all_goals first
        | (have := HG.out; omega)
        | (refine ⟨k + 1, .slice A5 (List.replicate k zs ++ [zs]).length cp5, by omega, rfl, by go_num, ?_, ?_, ?_, ?_⟩
           · rw [Below.heap_setCell _ _ _ _ (fun e => by have e' : w.heap.size = w.heap.size + 1 := e; omega)]; exact hR5
           · simpa using Lib.heap_setCell_same (i := 0) hD5 _
           · rw [List.replicate_succ']; exact ownsRow_setCell_other hown5 (Ow.apart2 hown5 hD5 (by decide)) _
           · exact (hbA.grown hg5 hba (fun b hb => (hoA.lt b hb).1)).setCell (by simp) _)
    · obtain rfl : k = n := by omega
      have r0 : wr.cell? ⟨w.heap.size, 0, none⟩ = some (.slice none 0 0) := by simp [World.cell?, hRr]
      have r1 : wr.cell? ⟨w.heap.size, 1, none⟩ = some (.int .i64 0) := by simp [World.cell?, hRr]
      have r2 : wr.cell? ⟨w.heap.size, 2, none⟩ = some (.int .i64 0) := by simp [World.cell?, hRr]
      have r3 : wr.cell? ⟨w.heap.size, 3, none⟩ = some (.bool false) := by simp [World.cell?, hRr]
      have r4 : wr.cell? ⟨w.heap.size, 4, none⟩ = some (.int .i64 0) := by simp [World.cell?, hRr]
      have d0 : wr.cell? ⟨w.heap.size + 1, 0, none⟩ = some v := by simp [World.cell?, hDr]
      have d1 : wr.cell? ⟨w.heap.size + 1, 1, none⟩ = some (.int .i64 (-1)) := by simp [World.cell?, hDr]
      have d2 : wr.cell? ⟨w.heap.size + 1, 2, none⟩ = some (.int .i64 0) := by simp [World.cell?, hDr]
      have d3 : wr.cell? ⟨w.heap.size + 1, 3, none⟩ = some (.bool false) := by simp [World.cell?, hDr]
      have d4 : wr.cell? ⟨w.heap.size + 1, 4, none⟩ = some (.int .i64 0) := by simp [World.cell?, hDr]
      have g0 := free_of hRr 0
      have g1 := free_of hRr 1
      have g2 := free_of hRr 2
      have g3 := free_of hRr 3
      have g4 := free_of hRr 4
      obtain ⟨A, c, rfl, _, _, _⟩ := hown.sl
      rw [List.length_replicate] at *
      go_wp2
      have hne := Ow.apart2 hown hRr (by decide)
      have o1 := ownsRow_setCell_other (a := ⟨w.heap.size, 0, none⟩) hown hne (.slice A k c)
      have o2 := ownsRow_setCell_other (a := ⟨w.heap.size, 1, none⟩) o1 hne (.int .i64 (-1))
      have o3 := ownsRow_setCell_other (a := ⟨w.heap.size, 2, none⟩) o2 hne (.int .i64 0)
      have o4 := ownsRow_setCell_other (a := ⟨w.heap.size, 3, none⟩) o3 hne (.bool false)
      have o5 : Ow strK _ w.heap.size (.slice A k c) (List.replicate k zs) := ownsRow_setCell_other (a := ⟨w.heap.size, 4, none⟩) o4 hne (.int .i64 0)
      have hsl := o5.sls
      rw [HZ.out, ← pagesS_zero] at hsl
      refine bodyPost_ret (v := .agg #[.slice A k c, .int .i64 (-1), .int .i64 0, .bool false, .int .i64 0]) (by simp [results, Try.results41, go_sem, r0, r1, r2, r3, r4]) rfl ⟨_, rfl, ⟨A, c, -1, 0, rfl, hsl, rfl, by omega⟩, ?_⟩
      exact ((((hbel.setCell (by simp) _).setCell (by simp) _).setCell (by simp) _).setCell (by simp) _).setCell (by simp) _
end Go.Proofs.Ytmcjefdnkcpghaa
/- THE WALK OF octroiref09.Disk.Write. -/
namespace Go.Proofs.Ytmcjefdnkcpghaa
open Go.RowKit
theorem Ow.pos {α : Type} {K : Kd α} {w : World} {base : Nat} {v : Value} {l : List α} (h : Ow K w base v l) (h0 : 0 < l.length) : ∃ g c, v = .slice (some ⟨g, 0, none⟩) l.length c ∧ base ≤ g ∧ l.length ≤ c ∧ c ≤ maxLen := by
  obtain ⟨h1, h2⟩ := h
  rcases h2 with ⟨rfl, hn⟩ | ⟨g, cap, cur, rfl, hb', hg, hc, hm, _⟩
  · omega
  · exact ⟨g, cap, rfl, hb', hc, hm⟩
theorem Ow.freeze {α : Type} {K : Kd α} {w : World} {base g n c : Nat} {l : List α} (h : Ow K w base (.slice (some ⟨g, 0, none⟩) n c) l) (i : Nat) : w.frozen? ⟨g, i, none⟩ = false := by
  obtain ⟨h1, h2⟩ := h
  rcases h2 with ⟨e, hn⟩ | ⟨g', cap, cur, e, hb', hg, _⟩
  · cases e
  · cases e; exact free_of hg i
theorem Ow.at_ {α : Type} {K : Kd α} {w : World} {base g n c : Nat} {l : List α} (h : Ow K w base (.slice (some ⟨g, 0, none⟩) n c) l) (i : Nat) (x : α) (hx : l[i]? = some x) : w.cell? ⟨g, i, none⟩ = some (K.enc x) := by
  obtain ⟨A, c', e, _, _, hr⟩ := h.sl
  have h0 : 0 < l.length := by have := (List.getElem?_eq_some_iff.1 hx).1; omega
  obtain ⟨ad, hA, _, hj⟩ := hr h0
  cases e
  cases hA
  have := hj i x hx
  simpa [addr_mk_add] using this
/-- the two blocks of the call: the disk that was handed in, the disk that is answered -/
def wW (w : World) (cs : Array Value) : World := (w.alloc (.cells cs 55)).alloc (.cells #[.slice none 0 0, .int .i64 0, .int .i64 0, .bool false, .int .i64 0] 55)
theorem wW_below (w : World) (cs : Array Value) : Below w.heap.size w (wW w cs) := ((Below.refl _ w).alloc (Nat.le_refl _) _).alloc (by simp) _
theorem wW_size (w : World) (cs : Array Value) : (wW w cs).heap.size = w.heap.size + 2 := by simp [wW]
theorem wW_0 (w : World) (cs : Array Value) : (wW w cs).heap[w.heap.size]? = some (.cells cs 55 (0, 0)) := by
  unfold wW
  rw [Below.heap_alloc _ _ _ (by simp)]
  exact heap_alloc_new w (.cells cs 55 (0, 0))
theorem wW_1 (w : World) (cs : Array Value) : (wW w cs).heap[w.heap.size + 1]? = some (.cells #[.slice none 0 0, .int .i64 0, .int .i64 0, .bool false, .int .i64 0] 55 (0, 0)) := by
  have := heap_alloc_new (w.alloc (.cells cs 55)) (.cells #[.slice none 0 0, .int .i64 0, .int .i64 0, .bool false, .int .i64 0] 55 (0, 0))
  simpa [wW] using this
theorem Rv.of {w : World} {d : Dv} {A : Option Addr} {c n : Nat} {After Torn wr : Int} {dead : Bool} (hs : SlS w w.heap.size (.slice A n c) (pagesS d.L d.n)) (hn : n = d.n) (hd : dead = d.dead) (hw : wr = (d.writes : Int)) (hf : fuseR After Torn d.fuse) (ht : -9223372036854775808 ≤ Torn ∧ Torn ≤ 9223372036854775807) : Rv w w.heap.size (.agg #[.slice A n c, .int .i64 After, .int .i64 Torn, .bool dead, .int .i64 wr]) d := by
  subst hn hd hw; exact ⟨A, c, After, Torn, rfl, hs, hf, ht⟩
-- what stands ahead of the write proper: refused, or of a wrong length
set_option maxRecDepth 100000 in
theorem rwrite_bad {w : World} {v : Value} {d : Dv} {i : Int} {m : List UInt8} (h : Rv w w.heap.size v d) (hok : d.ok) (hbad : d.can i ≠ 0 ∨ m.length ≠ 64) :
    Calls Try.prog 42 #[v, .int .i64 i, .string (bsA m)] w (RPost w d (if d.can i ≠ 0 then d.can i else 2)) := by
  have hcall : ∀ w', Below w.heap.size w w' → Calls Try.prog 43 #[v, .int .i64 i] w' fun e w'' => ∃ x, e = .returned (.tuple #[.string x, .int .i64 (d.can i)]) ∧ Below w'.heap.size w' w'' := fun w' hb => (rread_any (h.below hb) hok i).mono fun e w'' ⟨h1, h2⟩ => ⟨_, h1, h2⟩
  obtain ⟨A, c, After, Torn, rfl, hs, hf, ht⟩ := id h
  have HH := Lib.hid h
  clear hs hf hok h
  have hw2 := wW_below w #[.slice A d.n c, .int .i64 After, .int .i64 Torn, .bool d.dead, .int .i64 (d.writes : Int)]
  have hc := hcall _ hw2
  have hsz := wW_size w #[.slice A d.n c, .int .i64 After, .int .i64 Torn, .bool d.dead, .int .i64 (d.writes : Int)]
  have hR := wW_0 w #[.slice A d.n c, .int .i64 After, .int .i64 Torn, .bool d.dead, .int .i64 (d.writes : Int)]
  have hD := wW_1 w #[.slice A d.n c, .int .i64 After, .int .i64 Torn, .bool d.dead, .int .i64 (d.writes : Int)]
  have hE : ∀ w', Below w.heap.size w w' → Rv w' w'.heap.size (.agg #[.slice A d.n c, .int .i64 After, .int .i64 Torn, .bool d.dead, .int .i64 (d.writes : Int)]) d := fun w' hb => (HH.out.below hb).heap
  have HE := Lib.hid hE
  clear hcall HH hE
  have hms : (bsA m).size = m.length := bsA_size m
  generalize bsA m = ms at *
  obtain ⟨z, hz⟩ : ∃ z, z = d.can i := ⟨_, rfl⟩
  rw [← hz] at hc hbad ⊢
  generalize d.n = n at *
  generalize d.dead = dead at *
  generalize hwr : (d.writes : Int) = wr at *
  by_cases h0 : z = 0
  · subst h0
    rw [if_neg (by simp)]
    have h64 := hbad.resolve_left (by simp)
    have e64 : ((m.length : Int) == 64) = false := by rw [beq_eq_false_iff_ne]; omega
    have e64' : ((m.length : Int) != 64) = true := by simp; omega
    clear hbad hz h64
    go_enter Try.func42, Try.ntmps42
    go_wp2_with (go_at_call 43; refine hc.mono ?_; rintro e w' ⟨x, rfl, hb⟩
                 have hR' := (hb.block w.heap.size (by rw [hsz]; omega)).trans hR
                 have hD' := (hb.block (w.heap.size + 1) (by rw [hsz]; omega)).trans hD
                 have r0 : w'.cell? ⟨w.heap.size, 0, none⟩ = some (.slice A n c) := (by simp [World.cell?, hR'])
                 have r1 : w'.cell? ⟨w.heap.size, 1, none⟩ = some (.int .i64 After) := (by simp [World.cell?, hR'])
                 have r2 : w'.cell? ⟨w.heap.size, 2, none⟩ = some (.int .i64 Torn) := (by simp [World.cell?, hR'])
                 have r3 : w'.cell? ⟨w.heap.size, 3, none⟩ = some (.bool dead) := (by simp [World.cell?, hR'])
                 have r4 : w'.cell? ⟨w.heap.size, 4, none⟩ = some (.int .i64 wr) := (by simp [World.cell?, hR'])
                 have d0 : w'.cell? ⟨w.heap.size + 1, 0, none⟩ = some (.slice none 0 0) := (by simp [World.cell?, hD'])
                 have d1 : w'.cell? ⟨w.heap.size + 1, 1, none⟩ = some (.int .i64 0) := (by simp [World.cell?, hD'])
                 have d2 : w'.cell? ⟨w.heap.size + 1, 2, none⟩ = some (.int .i64 0) := (by simp [World.cell?, hD'])
                 have d3 : w'.cell? ⟨w.heap.size + 1, 3, none⟩ = some (.bool false) := (by simp [World.cell?, hD'])
                 have d4 : w'.cell? ⟨w.heap.size + 1, 4, none⟩ = some (.int .i64 0) := (by simp [World.cell?, hD'])
                 have g0 := free_of hD' 0
                 have g1 := free_of hD' 1
                 have g2 := free_of hD' 2
                 have g3 := free_of hD' 3
                 have g4 := free_of hD' 4)
    have hb' := hw2.trans (hb.mono (by rw [hsz]; omega))
    have hB := ((((hb'.setCell (p := ⟨w.heap.size + 1, 0, none⟩) (by simp) (.slice A n c)).setCell (p := ⟨w.heap.size + 1, 1, none⟩) (by simp) (.int .i64 After)).setCell (p := ⟨w.heap.size + 1, 2, none⟩) (by simp) (.int .i64 Torn)).setCell (p := ⟨w.heap.size + 1, 3, none⟩) (by simp) (.bool dead)).setCell (p := ⟨w.heap.size + 1, 4, none⟩) (by simp) (.int .i64 wr)
    refine bodyPost_ret (v := .tuple #[.agg #[.slice A n c, .int .i64 After, .int .i64 Torn, .bool dead, .int .i64 wr], .int .i64 2]) (by simp [results, Try.results42, go_sem, d0, d1, d2, d3, d4]) rfl ⟨_, rfl, HE.out _ hB, hB⟩
  · rw [if_pos h0]
    have e1 : (z == 0) = false := by rw [beq_eq_false_iff_ne]; exact h0
    have e2 : (z != 0) = true := by simp [h0]
    clear hbad hz h0
    go_enter Try.func42, Try.ntmps42
    go_wp2_with (go_at_call 43; refine hc.mono ?_; rintro e w' ⟨x, rfl, hb⟩
                 have hR' := (hb.block w.heap.size (by rw [hsz]; omega)).trans hR
                 have hD' := (hb.block (w.heap.size + 1) (by rw [hsz]; omega)).trans hD
                 have r0 : w'.cell? ⟨w.heap.size, 0, none⟩ = some (.slice A n c) := (by simp [World.cell?, hR'])
                 have r1 : w'.cell? ⟨w.heap.size, 1, none⟩ = some (.int .i64 After) := (by simp [World.cell?, hR'])
                 have r2 : w'.cell? ⟨w.heap.size, 2, none⟩ = some (.int .i64 Torn) := (by simp [World.cell?, hR'])
                 have r3 : w'.cell? ⟨w.heap.size, 3, none⟩ = some (.bool dead) := (by simp [World.cell?, hR'])
                 have r4 : w'.cell? ⟨w.heap.size, 4, none⟩ = some (.int .i64 wr) := (by simp [World.cell?, hR'])
                 have d0 : w'.cell? ⟨w.heap.size + 1, 0, none⟩ = some (.slice none 0 0) := (by simp [World.cell?, hD'])
                 have d1 : w'.cell? ⟨w.heap.size + 1, 1, none⟩ = some (.int .i64 0) := (by simp [World.cell?, hD'])
                 have d2 : w'.cell? ⟨w.heap.size + 1, 2, none⟩ = some (.int .i64 0) := (by simp [World.cell?, hD'])
                 have d3 : w'.cell? ⟨w.heap.size + 1, 3, none⟩ = some (.bool false) := (by simp [World.cell?, hD'])
                 have d4 : w'.cell? ⟨w.heap.size + 1, 4, none⟩ = some (.int .i64 0) := (by simp [World.cell?, hD'])
                 have g0 := free_of hD' 0
                 have g1 := free_of hD' 1
                 have g2 := free_of hD' 2
                 have g3 := free_of hD' 3
                 have g4 := free_of hD' 4)
    have hb' := hw2.trans (hb.mono (by rw [hsz]; omega))
    have hB := ((((hb'.setCell (p := ⟨w.heap.size + 1, 0, none⟩) (by simp) (.slice A n c)).setCell (p := ⟨w.heap.size + 1, 1, none⟩) (by simp) (.int .i64 After)).setCell (p := ⟨w.heap.size + 1, 2, none⟩) (by simp) (.int .i64 Torn)).setCell (p := ⟨w.heap.size + 1, 3, none⟩) (by simp) (.bool dead)).setCell (p := ⟨w.heap.size + 1, 4, none⟩) (by simp) (.int .i64 wr)
    refine bodyPost_ret (v := .tuple #[.agg #[.slice A n c, .int .i64 After, .int .i64 Torn, .bool dead, .int .i64 wr], .int .i64 z]) (by simp [results, Try.results42, go_sem, d0, d1, d2, d3, d4]) rfl ⟨_, rfl, HE.out _ hB, hB⟩
end Go.Proofs.Ytmcjefdnkcpghaa
/- THE WALK OF octroiref09.Disk.Write: no fuse. -/
namespace Go.Proofs.Ytmcjefdnkcpghaa
open Go.RowKit
theorem Ow.setN {α : Type} {K : Kd α} {w : World} {base g n c : Nat} {l : List α} (h : Ow K w base (.slice (some ⟨g, 0, none⟩) n c) l) {p : Addr} (hp : g ≠ p.block) (u : Value) : Ow K (w.setCell p u) base (.slice (some ⟨g, 0, none⟩) n c) l :=
  ownsRow_setCell_other h (by simpa [Value.ownBlock] using hp) u
theorem Ow.set0 {α : Type} {K : Kd α} {w : World} {base g n c : Nat} {l : List α} (h : Ow K w base (.slice (some ⟨g, 0, none⟩) n c) l) (i : Nat) (x : α) : Ow K (w.setCell ⟨g, i, none⟩ (K.enc x)) base (.slice (some ⟨g, 0, none⟩) n c) (l.set i x) := by
  have := h.set i x
  rwa [addr_mk_add, Nat.zero_add] at this
set_option maxRecDepth 100000 in
set_option maxHeartbeats 4000000 in
theorem rwrite_none {w : World} {L m : List UInt8} {n k wr : Nat} {Y : Value} {dead : Bool} {Torn : Int} (hs : Sl strK w w.heap.size (Y) (pagesS L n)) (hlen : L.length = 64 * n) (hn2 : n ≤ 4096) (hk : k < n) (h64 : m.length = 64) (hwr : wr + 1 ≤ 1000000000) (ht : -9223372036854775808 ≤ Torn ∧ Torn ≤ 9223372036854775807)
    (hc : Calls Try.prog 43 #[.agg #[Y, .int .i64 (-1), .int .i64 Torn, .bool dead, .int .i64 (wr : Int)], .int .i64 (k : Int)] (wW w #[Y, .int .i64 (-1), .int .i64 Torn, .bool dead, .int .i64 (wr : Int)]) fun e w'' => ∃ x, e = .returned (.tuple #[.string x, .int .i64 0]) ∧ Below (wW w #[Y, .int .i64 (-1), .int .i64 Torn, .bool dead, .int .i64 (wr : Int)]).heap.size (wW w #[Y, .int .i64 (-1), .int .i64 Torn, .bool dead, .int .i64 (wr : Int)]) w'') :
    Calls Try.prog 42 #[.agg #[Y, .int .i64 (-1), .int .i64 Torn, .bool dead, .int .i64 (wr : Int)], .int .i64 (k : Int), .string (bsA m)] w (RPost w ⟨n, splice L (k * 64) (m.take 64), none, dead, wr + 1⟩ 0) := by
  have hw2 := wW_below w #[Y, .int .i64 (-1), .int .i64 Torn, .bool dead, .int .i64 (wr : Int)]
  have hsz := wW_size w #[Y, .int .i64 (-1), .int .i64 Torn, .bool dead, .int .i64 (wr : Int)]
  have hR := wW_0 w #[Y, .int .i64 (-1), .int .i64 Torn, .bool dead, .int .i64 (wr : Int)]
  have hD := wW_1 w #[Y, .int .i64 (-1), .int .i64 Torn, .bool dead, .int .i64 (wr : Int)]
  have hpl : (pagesS L n).length = n := pagesS_len L n
  have HPK := Lib.hid (show (pagesS L n)[k]? = some (bsA (page L k)) from pagesS_get L n k hk)
  have HPW := Lib.hid (fun t (ht : t ≤ 64) => pagesS_write (t := t) hlen hk h64 ht)
  have HFU := Lib.hid (page_full hlen hk h64)
  have hpg := page_len hlen hk
  generalize page L k = pg at *
  generalize hps : pagesS L n = ps at *
  have HS := Lib.hid hs
  have HPS := Lib.hid hps
  have hms : (bsA m).size = 64 := by rw [bsA_size, h64]
  have hpgs : (bsA pg).size = 64 := by rw [bsA_size, hpg]
  have e64' : (((64 : Nat) : Int) != 64) = false := by simp
  have hn0 : 0 < n := by omega
  clear hs hps hlen hpg
  go_enter Try.func42, Try.ntmps42
  go_wp2_with (first
    | (go_at_call 43; refine hc.mono ?_; rintro e w' ⟨x, rfl, hb⟩
       have hb' := hw2.trans (hb.mono (by rw [hsz]; omega))
       have hR' := (hb.block w.heap.size (by rw [hsz]; omega)).trans hR
       have hD' := (hb.block (w.heap.size + 1) (by rw [hsz]; omega)).trans hD
       have r0' : w'.cell? ⟨w.heap.size, 0, none⟩ = some (Y) := (by simp [World.cell?, hR'])
       have hlt' := lt_of_block hD'
       have hlr : ([] : List ByteArray).length + ps.length ≤ 1000000000 := (by rw [hpl]; simp; omega)
       have hba : w'.heap.size ≤ (w'.alloc (.cells #[] 9)).heap.size := (by simp)
       have hb1 : w.heap.size < (w'.alloc (.cells #[] 9)).heap.size := (by simp; omega)
       have hb2 : w.heap.size + 1 < (w'.alloc (.cells #[] 9)).heap.size := (by simp; omega)
       have hown0 : Ow strK (w'.alloc (.cells #[] 9)) w'.heap.size (.slice (some ⟨w'.heap.size, 0, none⟩) 0 0) [] := ow_lit strK w' [] (by simp [maxLen])
       have HSA := Lib.hid ((HS.out.below hb').below ((Below.refl w.heap.size w').alloc (by omega) (.cells #[] 9)))
       have hRA : (w'.alloc (.cells #[] 9)).heap[w.heap.size]? = _ := (Below.heap_alloc _ _ _ (by omega)).trans hR'
       have hDA : (w'.alloc (.cells #[] 9)).heap[w.heap.size + 1]? = _ := (Below.heap_alloc _ _ _ hlt').trans hD'
       have r0A : (w'.alloc (.cells #[] 9)).cell? ⟨w.heap.size, 0, none⟩ = some (Y) := (by simp [World.cell?, hRA]))
    | (at_builtin
       refine wpList_append_sl strK (o := ⟨some 28, _, _, _, _, _⟩) _ rfl (.tmp 25) (.tmp 27) 53 rfl Try.underlying53 w'.heap.size (.slice (some ⟨w'.heap.size, 0, none⟩) 0 0) [] rfl hown0 _ (Y) ps rfl HSA.out hlr (by decide) hba ?_
       intro v5 w5 hown5 hg5 _
       rw [List.nil_append] at hown5
       have hR5 := (hg5.block w.heap.size hb1 (fun e => by simp [Value.ownBlock] at e; omega)).trans hRA
       have hD5 := (hg5.block (w.heap.size + 1) hb2 (fun e => by simp [Value.ownBlock] at e; omega)).trans hDA
       obtain ⟨g5, c5, rfl, hg5b, hc5, hc5m⟩ := hown5.pos (by rw [hpl]; exact hn0)
       rw [hpl] at hown5 hc5
       have y5 : w5.cell? ⟨g5, k, none⟩ = some (.string (bsA pg)) := hown5.at_ k _ HPK.out
       have f5 := hown5.freeze k
       have r0 : w5.cell? ⟨w.heap.size, 0, none⟩ = some (Y) := (by simp [World.cell?, hR5])
       have r1 : w5.cell? ⟨w.heap.size, 1, none⟩ = some (.int .i64 (-1)) := (by simp [World.cell?, hR5])
       have r2 : w5.cell? ⟨w.heap.size, 2, none⟩ = some (.int .i64 Torn) := (by simp [World.cell?, hR5])
       have r3 : w5.cell? ⟨w.heap.size, 3, none⟩ = some (.bool dead) := (by simp [World.cell?, hR5])
       have r4 : w5.cell? ⟨w.heap.size, 4, none⟩ = some (.int .i64 (wr : Int)) := (by simp [World.cell?, hR5])
       have d0 : w5.cell? ⟨w.heap.size + 1, 0, none⟩ = some (.slice none 0 0) := (by simp [World.cell?, hD5])
       have d1 : w5.cell? ⟨w.heap.size + 1, 1, none⟩ = some (.int .i64 0) := (by simp [World.cell?, hD5])
       have d2 : w5.cell? ⟨w.heap.size + 1, 2, none⟩ = some (.int .i64 0) := (by simp [World.cell?, hD5])
       have d3 : w5.cell? ⟨w.heap.size + 1, 3, none⟩ = some (.bool false) := (by simp [World.cell?, hD5])
       have d4 : w5.cell? ⟨w.heap.size + 1, 4, none⟩ = some (.int .i64 0) := (by simp [World.cell?, hD5])
       have f0 := free_of hR5 0
       have f1 := free_of hR5 1
       have f2 := free_of hR5 2
       have f3 := free_of hR5 3
       have f4 := free_of hR5 4
       have g0 := free_of hD5 0
       have g1 := free_of hD5 1
       have g2 := free_of hD5 2
       have g3 := free_of hD5 3
       have g4 := free_of hD5 4))
  have hn0 : g5 ≠ w.heap.size := by omega
  have hn1 : g5 ≠ w.heap.size + 1 := by omega
  have hg5w : w.heap.size ≤ g5 := by omega
  have hB5 : Below w.heap.size w w5 := (hb'.alloc hb'.size (.cells #[] 9)).grown hg5 (by simp; omega) (fun b hb => by simp [Value.ownBlock] at hb; omega)
  have hB := ((((((((hB5.setCell (p := ⟨g5, k, none⟩) hg5w (strK.enc (bsA m))).setCell (p := ⟨w.heap.size, 0, none⟩) (by simp) (.slice (some ⟨g5, 0, none⟩) n c5)).setCell (p := ⟨w.heap.size, 4, none⟩) (by simp) (.int .i64 ((wr : Int) + 1))).setCell (p := ⟨w.heap.size + 1, 0, none⟩) (by simp) (.slice (some ⟨g5, 0, none⟩) n c5)).setCell (p := ⟨w.heap.size + 1, 1, none⟩) (by simp) (.int .i64 (-1))).setCell (p := ⟨w.heap.size + 1, 2, none⟩) (by simp) (.int .i64 Torn)).setCell (p := ⟨w.heap.size + 1, 3, none⟩) (by simp) (.bool dead)).setCell (p := ⟨w.heap.size + 1, 4, none⟩) (by simp) (.int .i64 ((wr : Int) + 1)))
  have ho := (((((((hown5.set0 k (bsA m)).setN (p := ⟨w.heap.size, 0, none⟩) hn0 (.slice (some ⟨g5, 0, none⟩) n c5)).setN (p := ⟨w.heap.size, 4, none⟩) hn0 (.int .i64 ((wr : Int) + 1))).setN (p := ⟨w.heap.size + 1, 0, none⟩) hn1 (.slice (some ⟨g5, 0, none⟩) n c5)).setN (p := ⟨w.heap.size + 1, 1, none⟩) hn1 (.int .i64 (-1))).setN (p := ⟨w.heap.size + 1, 2, none⟩) hn1 (.int .i64 Torn)).setN (p := ⟨w.heap.size + 1, 3, none⟩) hn1 (.bool dead)).setN (p := ⟨w.heap.size + 1, 4, none⟩) hn1 (.int .i64 ((wr : Int) + 1))
  have hsl := ho.sls
  rw [show ps.set k (bsA m) = pagesS (splice L (k * 64) (m.take 64)) n from (by rw [← HPW.out 64 (Nat.le_refl _), HFU.out])] at hsl
  refine bodyPost_ret (v := .tuple #[.agg #[.slice (some ⟨g5, 0, none⟩) n c5, .int .i64 (-1), .int .i64 Torn, .bool dead, .int .i64 ((wr : Int) + 1)], .int .i64 0]) (by simp [results, Try.results42, go_sem, d0, d1, d2, d3, d4]) rfl ⟨_, rfl, Rv.of hsl rfl rfl (by simp) rfl ht, hB⟩
end Go.Proofs.Ytmcjefdnkcpghaa
/- THE WALK OF octroiref09.Disk.Write: a fuse that goes down. -/
namespace Go.Proofs.Ytmcjefdnkcpghaa
open Go.RowKit
set_option maxRecDepth 100000 in
set_option maxHeartbeats 4000000 in
theorem rwrite_dec {w : World} {L m : List UInt8} {n k wr : Nat} {Y : Value} {dead : Bool} {Torn : Int} {After : Int} {a t : Nat} (hs : Sl strK w w.heap.size (Y) (pagesS L n)) (hlen : L.length = 64 * n) (hn2 : n ≤ 4096) (hk : k < n) (h64 : m.length = 64) (hwr : wr + 1 ≤ 1000000000) (ht : Torn = (t : Int) ∧ t ≤ 64) (ha : After = (a : Int) + 1) (ha0 : 0 < After) (ha1 : After ≤ 9223372036854775807)
    (hc : Calls Try.prog 43 #[.agg #[Y, .int .i64 After, .int .i64 Torn, .bool dead, .int .i64 (wr : Int)], .int .i64 (k : Int)] (wW w #[Y, .int .i64 After, .int .i64 Torn, .bool dead, .int .i64 (wr : Int)]) fun e w'' => ∃ x, e = .returned (.tuple #[.string x, .int .i64 0]) ∧ Below (wW w #[Y, .int .i64 After, .int .i64 Torn, .bool dead, .int .i64 (wr : Int)]).heap.size (wW w #[Y, .int .i64 After, .int .i64 Torn, .bool dead, .int .i64 (wr : Int)]) w'') :
    Calls Try.prog 42 #[.agg #[Y, .int .i64 After, .int .i64 Torn, .bool dead, .int .i64 (wr : Int)], .int .i64 (k : Int), .string (bsA m)] w (RPost w ⟨n, splice L (k * 64) (m.take 64), some (a, t), dead, wr + 1⟩ 0) := by
  have hw2 := wW_below w #[Y, .int .i64 After, .int .i64 Torn, .bool dead, .int .i64 (wr : Int)]
  have hsz := wW_size w #[Y, .int .i64 After, .int .i64 Torn, .bool dead, .int .i64 (wr : Int)]
  have hR := wW_0 w #[Y, .int .i64 After, .int .i64 Torn, .bool dead, .int .i64 (wr : Int)]
  have hD := wW_1 w #[Y, .int .i64 After, .int .i64 Torn, .bool dead, .int .i64 (wr : Int)]
  have hpl : (pagesS L n).length = n := pagesS_len L n
  have HPK := Lib.hid (show (pagesS L n)[k]? = some (bsA (page L k)) from pagesS_get L n k hk)
  have HPW := Lib.hid (fun t (ht : t ≤ 64) => pagesS_write (t := t) hlen hk h64 ht)
  have HFU := Lib.hid (page_full hlen hk h64)
  have hpg := page_len hlen hk
  generalize page L k = pg at *
  generalize hps : pagesS L n = ps at *
  have HS := Lib.hid hs
  have HPS := Lib.hid hps
  have hms : (bsA m).size = 64 := by rw [bsA_size, h64]
  have hpgs : (bsA pg).size = 64 := by rw [bsA_size, hpg]
  have e64' : (((64 : Nat) : Int) != 64) = false := by simp
  have hn0 : 0 < n := by omega
  clear hs hps hlen hpg
  have q0 : (After == 0) = false := by rw [beq_eq_false_iff_ne]; omega
  have q1 : decide (0 < After) = true := decide_eq_true ha0
  have HA := Lib.hid ha
  have HT := Lib.hid ht
  clear ha ht
  go_enter Try.func42, Try.ntmps42
  go_wp2_with (first
    | (go_at_call 43; refine hc.mono ?_; rintro e w' ⟨x, rfl, hb⟩
       have hb' := hw2.trans (hb.mono (by rw [hsz]; omega))
       have hR' := (hb.block w.heap.size (by rw [hsz]; omega)).trans hR
       have hD' := (hb.block (w.heap.size + 1) (by rw [hsz]; omega)).trans hD
       have r0' : w'.cell? ⟨w.heap.size, 0, none⟩ = some (Y) := (by simp [World.cell?, hR'])
       have hlt' := lt_of_block hD'
       have hlr : ([] : List ByteArray).length + ps.length ≤ 1000000000 := (by rw [hpl]; simp; omega)
       have hba : w'.heap.size ≤ (w'.alloc (.cells #[] 9)).heap.size := (by simp)
       have hb1 : w.heap.size < (w'.alloc (.cells #[] 9)).heap.size := (by simp; omega)
       have hb2 : w.heap.size + 1 < (w'.alloc (.cells #[] 9)).heap.size := (by simp; omega)
       have hown0 : Ow strK (w'.alloc (.cells #[] 9)) w'.heap.size (.slice (some ⟨w'.heap.size, 0, none⟩) 0 0) [] := ow_lit strK w' [] (by simp [maxLen])
       have HSA := Lib.hid ((HS.out.below hb').below ((Below.refl w.heap.size w').alloc (by omega) (.cells #[] 9)))
       have hRA : (w'.alloc (.cells #[] 9)).heap[w.heap.size]? = _ := (Below.heap_alloc _ _ _ (by omega)).trans hR'
       have hDA : (w'.alloc (.cells #[] 9)).heap[w.heap.size + 1]? = _ := (Below.heap_alloc _ _ _ hlt').trans hD'
       have r0A : (w'.alloc (.cells #[] 9)).cell? ⟨w.heap.size, 0, none⟩ = some (Y) := (by simp [World.cell?, hRA]))
    | (at_builtin
       refine wpList_append_sl strK (o := ⟨some 28, _, _, _, _, _⟩) _ rfl (.tmp 25) (.tmp 27) 53 rfl Try.underlying53 w'.heap.size (.slice (some ⟨w'.heap.size, 0, none⟩) 0 0) [] rfl hown0 _ (Y) ps rfl HSA.out hlr (by decide) hba ?_
       intro v5 w5 hown5 hg5 _
       rw [List.nil_append] at hown5
       have hR5 := (hg5.block w.heap.size hb1 (fun e => by simp [Value.ownBlock] at e; omega)).trans hRA
       have hD5 := (hg5.block (w.heap.size + 1) hb2 (fun e => by simp [Value.ownBlock] at e; omega)).trans hDA
       obtain ⟨g5, c5, rfl, hg5b, hc5, hc5m⟩ := hown5.pos (by rw [hpl]; exact hn0)
       rw [hpl] at hown5 hc5
       have y5 : w5.cell? ⟨g5, k, none⟩ = some (.string (bsA pg)) := hown5.at_ k _ HPK.out
       have f5 := hown5.freeze k
       have r0 : w5.cell? ⟨w.heap.size, 0, none⟩ = some (Y) := (by simp [World.cell?, hR5])
       have r1 : w5.cell? ⟨w.heap.size, 1, none⟩ = some (.int .i64 After) := (by simp [World.cell?, hR5])
       have r2 : w5.cell? ⟨w.heap.size, 2, none⟩ = some (.int .i64 Torn) := (by simp [World.cell?, hR5])
       have r3 : w5.cell? ⟨w.heap.size, 3, none⟩ = some (.bool dead) := (by simp [World.cell?, hR5])
       have r4 : w5.cell? ⟨w.heap.size, 4, none⟩ = some (.int .i64 (wr : Int)) := (by simp [World.cell?, hR5])
       have d0 : w5.cell? ⟨w.heap.size + 1, 0, none⟩ = some (.slice none 0 0) := (by simp [World.cell?, hD5])
       have d1 : w5.cell? ⟨w.heap.size + 1, 1, none⟩ = some (.int .i64 0) := (by simp [World.cell?, hD5])
       have d2 : w5.cell? ⟨w.heap.size + 1, 2, none⟩ = some (.int .i64 0) := (by simp [World.cell?, hD5])
       have d3 : w5.cell? ⟨w.heap.size + 1, 3, none⟩ = some (.bool false) := (by simp [World.cell?, hD5])
       have d4 : w5.cell? ⟨w.heap.size + 1, 4, none⟩ = some (.int .i64 0) := (by simp [World.cell?, hD5])
       have f0 := free_of hR5 0
       have f1 := free_of hR5 1
       have f2 := free_of hR5 2
       have f3 := free_of hR5 3
       have f4 := free_of hR5 4
       have g0 := free_of hD5 0
       have g1 := free_of hD5 1
       have g2 := free_of hD5 2
       have g3 := free_of hD5 3
       have g4 := free_of hD5 4))
  have hn0 : g5 ≠ w.heap.size := by omega
  have hn1 : g5 ≠ w.heap.size + 1 := by omega
  have hg5w : w.heap.size ≤ g5 := by omega
  have hB5 : Below w.heap.size w w5 := (hb'.alloc hb'.size (.cells #[] 9)).grown hg5 (by simp; omega) (fun b hb => by simp [Value.ownBlock] at hb; omega)
  have hB := (((((((((hB5.setCell (p := ⟨g5, k, none⟩) hg5w (strK.enc (bsA m))).setCell (p := ⟨w.heap.size, 0, none⟩) (by simp) (.slice (some ⟨g5, 0, none⟩) n c5)).setCell (p := ⟨w.heap.size, 4, none⟩) (by simp) (.int .i64 ((wr : Int) + 1))).setCell (p := ⟨w.heap.size, 1, none⟩) (by simp) (.int .i64 (After - 1))).setCell (p := ⟨w.heap.size + 1, 0, none⟩) (by simp) (.slice (some ⟨g5, 0, none⟩) n c5)).setCell (p := ⟨w.heap.size + 1, 1, none⟩) (by simp) (.int .i64 (After - 1))).setCell (p := ⟨w.heap.size + 1, 2, none⟩) (by simp) (.int .i64 Torn)).setCell (p := ⟨w.heap.size + 1, 3, none⟩) (by simp) (.bool dead)).setCell (p := ⟨w.heap.size + 1, 4, none⟩) (by simp) (.int .i64 ((wr : Int) + 1)))
  have ho := ((((((((hown5.set0 k (bsA m)).setN (p := ⟨w.heap.size, 0, none⟩) hn0 (.slice (some ⟨g5, 0, none⟩) n c5)).setN (p := ⟨w.heap.size, 4, none⟩) hn0 (.int .i64 ((wr : Int) + 1))).setN (p := ⟨w.heap.size, 1, none⟩) hn0 (.int .i64 (After - 1))).setN (p := ⟨w.heap.size + 1, 0, none⟩) hn1 (.slice (some ⟨g5, 0, none⟩) n c5)).setN (p := ⟨w.heap.size + 1, 1, none⟩) hn1 (.int .i64 (After - 1))).setN (p := ⟨w.heap.size + 1, 2, none⟩) hn1 (.int .i64 Torn)).setN (p := ⟨w.heap.size + 1, 3, none⟩) hn1 (.bool dead)).setN (p := ⟨w.heap.size + 1, 4, none⟩) hn1 (.int .i64 ((wr : Int) + 1))
  have hsl := ho.sls
  rw [show ps.set k (bsA m) = pagesS (splice L (k * 64) (m.take 64)) n from (by rw [← HPW.out 64 (Nat.le_refl _), HFU.out])] at hsl
  refine bodyPost_ret (v := .tuple #[.agg #[.slice (some ⟨g5, 0, none⟩) n c5, .int .i64 (After - 1), .int .i64 Torn, .bool dead, .int .i64 ((wr : Int) + 1)], .int .i64 0]) (by simp [results, Try.results42, go_sem, d0, d1, d2, d3, d4]) rfl ⟨_, rfl, Rv.of hsl rfl rfl (by simp) ⟨by have := HA.out; omega, HT.out.1⟩ (by have := HT.out; omega), hB⟩
end Go.Proofs.Ytmcjefdnkcpghaa
/- THE WALK OF octroiref09.Disk.Write: a fuse that burns out; all. -/
namespace Go.Proofs.Ytmcjefdnkcpghaa
open Go.RowKit
theorem extr_bsA (l : List UInt8) (a b : Nat) : (bsA l).extract a b = bsA ((l.drop a).take (b - a)) := by
  have := bsA_list l
  apply ByteArray.ext
  apply Array.toList_inj.1
  simp [bsA, ByteArray.data_extract, List.take_drop]
theorem bsA_app (l m : List UInt8) : bsA l ++ bsA m = bsA (l ++ m) := by
  apply ByteArray.ext
  apply Array.toList_inj.1
  simp [bsA, ByteArray.data_append]
set_option maxRecDepth 100000 in
set_option maxHeartbeats 4000000 in
theorem rwrite_torn {w : World} {L m : List UInt8} {n k wr : Nat} {Y : Value} {dead : Bool} {t : Nat} (hs : Sl strK w w.heap.size (Y) (pagesS L n)) (hlen : L.length = 64 * n) (hn2 : n ≤ 4096) (hk : k < n) (h64 : m.length = 64) (_hwr : wr + 1 ≤ 1000000000) (ht : t ≤ 64)
    (hc : Calls Try.prog 43 #[.agg #[Y, .int .i64 0, .int .i64 (t : Int), .bool dead, .int .i64 (wr : Int)], .int .i64 (k : Int)] (wW w #[Y, .int .i64 0, .int .i64 (t : Int), .bool dead, .int .i64 (wr : Int)]) fun e w'' => ∃ x, e = .returned (.tuple #[.string x, .int .i64 0]) ∧ Below (wW w #[Y, .int .i64 0, .int .i64 (t : Int), .bool dead, .int .i64 (wr : Int)]).heap.size (wW w #[Y, .int .i64 0, .int .i64 (t : Int), .bool dead, .int .i64 (wr : Int)]) w'') :
    Calls Try.prog 42 #[.agg #[Y, .int .i64 0, .int .i64 (t : Int), .bool dead, .int .i64 (wr : Int)], .int .i64 (k : Int), .string (bsA m)] w (RPost w ⟨n, splice L (k * 64) (m.take t), none, true, wr⟩ 32) := by
  have hw2 := wW_below w #[Y, .int .i64 0, .int .i64 (t : Int), .bool dead, .int .i64 (wr : Int)]
  have hsz := wW_size w #[Y, .int .i64 0, .int .i64 (t : Int), .bool dead, .int .i64 (wr : Int)]
  have hR := wW_0 w #[Y, .int .i64 0, .int .i64 (t : Int), .bool dead, .int .i64 (wr : Int)]
  have hD := wW_1 w #[Y, .int .i64 0, .int .i64 (t : Int), .bool dead, .int .i64 (wr : Int)]
  have hpl : (pagesS L n).length = n := pagesS_len L n
  have HPK := Lib.hid (show (pagesS L n)[k]? = some (bsA (page L k)) from pagesS_get L n k hk)
  have HPW := Lib.hid (fun t (ht : t ≤ 64) => pagesS_write (t := t) hlen hk h64 ht)
  have HFU := Lib.hid (page_full hlen hk h64)
  have hpg := page_len hlen hk
  generalize page L k = pg at *
  generalize hps : pagesS L n = ps at *
  have HS := Lib.hid hs
  have HPS := Lib.hid hps
  have hms : (bsA m).size = 64 := by rw [bsA_size, h64]
  have hpgs : (bsA pg).size = 64 := by rw [bsA_size, hpg]
  have e64' : (((64 : Nat) : Int) != 64) = false := by simp
  have hn0 : 0 < n := by omega
  clear hs hps hlen hpg
  have ht0 : (0 : Int) ≤ (t : Int) := by omega
  have ht64 : (t : Int) ≤ 64 := by omega
  have HX := Lib.hid (show (bsA m).extract 0 t ++ (bsA pg).extract t 64 = bsA (m.take t ++ pg.drop t) from by rw [extr_bsA, extr_bsA, bsA_app, List.drop_zero, Nat.sub_zero, List.take_of_length_le (l := pg.drop t) (by rw [List.length_drop]; have := bsA_size pg; omega)])
  go_enter Try.func42, Try.ntmps42
  go_wp2_with (first
    | (go_at_call 43; refine hc.mono ?_; rintro e w' ⟨x, rfl, hb⟩
       have hb' := hw2.trans (hb.mono (by rw [hsz]; omega))
       have hR' := (hb.block w.heap.size (by rw [hsz]; omega)).trans hR
       have hD' := (hb.block (w.heap.size + 1) (by rw [hsz]; omega)).trans hD
       have r0' : w'.cell? ⟨w.heap.size, 0, none⟩ = some (Y) := (by simp [World.cell?, hR'])
       have hlt' := lt_of_block hD'
       have hlr : ([] : List ByteArray).length + ps.length ≤ 1000000000 := (by rw [hpl]; simp; omega)
       have hba : w'.heap.size ≤ (w'.alloc (.cells #[] 9)).heap.size := (by simp)
       have hb1 : w.heap.size < (w'.alloc (.cells #[] 9)).heap.size := (by simp; omega)
       have hb2 : w.heap.size + 1 < (w'.alloc (.cells #[] 9)).heap.size := (by simp; omega)
       have hown0 : Ow strK (w'.alloc (.cells #[] 9)) w'.heap.size (.slice (some ⟨w'.heap.size, 0, none⟩) 0 0) [] := ow_lit strK w' [] (by simp [maxLen])
       have HSA := Lib.hid ((HS.out.below hb').below ((Below.refl w.heap.size w').alloc (by omega) (.cells #[] 9)))
       have hRA : (w'.alloc (.cells #[] 9)).heap[w.heap.size]? = _ := (Below.heap_alloc _ _ _ (by omega)).trans hR'
       have hDA : (w'.alloc (.cells #[] 9)).heap[w.heap.size + 1]? = _ := (Below.heap_alloc _ _ _ hlt').trans hD'
       have r0A : (w'.alloc (.cells #[] 9)).cell? ⟨w.heap.size, 0, none⟩ = some (Y) := (by simp [World.cell?, hRA]))
    | (at_builtin
       refine wpList_append_sl strK (o := ⟨some 28, _, _, _, _, _⟩) _ rfl (.tmp 25) (.tmp 27) 53 rfl Try.underlying53 w'.heap.size (.slice (some ⟨w'.heap.size, 0, none⟩) 0 0) [] rfl hown0 _ (Y) ps rfl HSA.out hlr (by decide) hba ?_
       intro v5 w5 hown5 hg5 _
       rw [List.nil_append] at hown5
       have hR5 := (hg5.block w.heap.size hb1 (fun e => by simp [Value.ownBlock] at e; omega)).trans hRA
       have hD5 := (hg5.block (w.heap.size + 1) hb2 (fun e => by simp [Value.ownBlock] at e; omega)).trans hDA
       obtain ⟨g5, c5, rfl, hg5b, hc5, hc5m⟩ := hown5.pos (by rw [hpl]; exact hn0)
       rw [hpl] at hown5 hc5
       have y5 : w5.cell? ⟨g5, k, none⟩ = some (.string (bsA pg)) := hown5.at_ k _ HPK.out
       have f5 := hown5.freeze k
       have r0 : w5.cell? ⟨w.heap.size, 0, none⟩ = some (Y) := (by simp [World.cell?, hR5])
       have r1 : w5.cell? ⟨w.heap.size, 1, none⟩ = some (.int .i64 0) := (by simp [World.cell?, hR5])
       have r2 : w5.cell? ⟨w.heap.size, 2, none⟩ = some (.int .i64 (t : Int)) := (by simp [World.cell?, hR5])
       have r3 : w5.cell? ⟨w.heap.size, 3, none⟩ = some (.bool dead) := (by simp [World.cell?, hR5])
       have r4 : w5.cell? ⟨w.heap.size, 4, none⟩ = some (.int .i64 (wr : Int)) := (by simp [World.cell?, hR5])
       have d0 : w5.cell? ⟨w.heap.size + 1, 0, none⟩ = some (.slice none 0 0) := (by simp [World.cell?, hD5])
       have d1 : w5.cell? ⟨w.heap.size + 1, 1, none⟩ = some (.int .i64 0) := (by simp [World.cell?, hD5])
       have d2 : w5.cell? ⟨w.heap.size + 1, 2, none⟩ = some (.int .i64 0) := (by simp [World.cell?, hD5])
       have d3 : w5.cell? ⟨w.heap.size + 1, 3, none⟩ = some (.bool false) := (by simp [World.cell?, hD5])
       have d4 : w5.cell? ⟨w.heap.size + 1, 4, none⟩ = some (.int .i64 0) := (by simp [World.cell?, hD5])
       have f0 := free_of hR5 0
       have f1 := free_of hR5 1
       have f2 := free_of hR5 2
       have f3 := free_of hR5 3
       have f4 := free_of hR5 4
       have g0 := free_of hD5 0
       have g1 := free_of hD5 1
       have g2 := free_of hD5 2
       have g3 := free_of hD5 3
       have g4 := free_of hD5 4))
  go_still_tail 15, (by kernel_rfl)
  go_wp2
  rw [HX.out]
  have hn0 : g5 ≠ w.heap.size := by omega
  have hn1 : g5 ≠ w.heap.size + 1 := by omega
  have hg5w : w.heap.size ≤ g5 := by omega
  have hB5 : Below w.heap.size w w5 := (hb'.alloc hb'.size (.cells #[] 9)).grown hg5 (by simp; omega) (fun b hb => by simp [Value.ownBlock] at hb; omega)
  have hB := ((((((hB5.setCell (p := ⟨g5, k, none⟩) hg5w (strK.enc (bsA (m.take t ++ pg.drop t)))).setCell (p := ⟨w.heap.size + 1, 0, none⟩) (by simp) (.slice (some ⟨g5, 0, none⟩) n c5)).setCell (p := ⟨w.heap.size + 1, 1, none⟩) (by simp) (.int .i64 (-1))).setCell (p := ⟨w.heap.size + 1, 2, none⟩) (by simp) (.int .i64 0)).setCell (p := ⟨w.heap.size + 1, 3, none⟩) (by simp) (.bool true)).setCell (p := ⟨w.heap.size + 1, 4, none⟩) (by simp) (.int .i64 (wr : Int)))
  have ho := (((((hown5.set0 k (bsA (m.take t ++ pg.drop t))).setN (p := ⟨w.heap.size + 1, 0, none⟩) hn1 (.slice (some ⟨g5, 0, none⟩) n c5)).setN (p := ⟨w.heap.size + 1, 1, none⟩) hn1 (.int .i64 (-1))).setN (p := ⟨w.heap.size + 1, 2, none⟩) hn1 (.int .i64 0)).setN (p := ⟨w.heap.size + 1, 3, none⟩) hn1 (.bool true)).setN (p := ⟨w.heap.size + 1, 4, none⟩) hn1 (.int .i64 (wr : Int))
  have hsl := ho.sls
  rw [HPW.out t ht] at hsl
  refine bodyPost_ret (v := .tuple #[.agg #[.slice (some ⟨g5, 0, none⟩) n c5, .int .i64 (-1), .int .i64 0, .bool true, .int .i64 (wr : Int)], .int .i64 32]) (by simp [results, Try.results42, go_sem, d0, d1, d2, d3, d4]) rfl ⟨_, rfl, Rv.of hsl.drew.heap rfl rfl rfl rfl (by omega), hB.drew⟩
theorem rwrite_any {w : World} {v : Value} {B : Nat} {d : Dv} (h : Rv w B v d) (hok : d.ok) (hw : d.writes + 1 ≤ 1000000000) (i : Int) {m : List UInt8} :
    Calls Try.prog 42 #[v, .int .i64 i, .string (bsA m)] w (RPost w (d.write i m).1 (d.write i m).2) := by
  have h' := h.heap
  by_cases hz : d.can i = 0
  · by_cases h64 : m.length = 64
    · have hwr : d.write i m = (match d.fuse with
        | some (0, t) => ({ d with L := splice d.L (i.toNat * 64) (m.take t), fuse := none, dead := true }, 32)
        | some (a + 1, t) => ({ d with L := splice d.L (i.toNat * 64) (m.take 64), fuse := some (a, t), writes := d.writes + 1 }, 0)
        | none => ({ d with L := splice d.L (i.toNat * 64) (m.take 64), writes := d.writes + 1 }, 0)) := by
        unfold Dv.write; rw [if_neg (by simp [hz]), if_neg (by simp [h64])]; rfl
      obtain ⟨hi0, hi1, hdead⟩ := can_zero hz
      rw [hwr]
      obtain ⟨k, rfl⟩ : ∃ k : Nat, i = (k : Int) := ⟨i.toNat, by omega⟩
      rw [Int.toNat_natCast]
      have hcall : ∀ w', Below w.heap.size w w' → Calls Try.prog 43 #[v, .int .i64 (k : Int)] w' fun e w'' => ∃ x, e = .returned (.tuple #[.string x, .int .i64 0]) ∧ Below w'.heap.size w' w'' := fun w' hb => (rread_any (h'.below hb) hok (k : Int)).mono fun e w'' ⟨h1, h2⟩ => ⟨_, (by rw [← hz]; exact h1), h2⟩
      obtain ⟨n, L, fus, dead, wr⟩ := d
      obtain ⟨A, c, After, Torn, rfl, hs, hf, ht⟩ := id h'
      have hc := hcall _ (wW_below w #[.slice A n c, .int .i64 After, .int .i64 Torn, .bool dead, .int .i64 (wr : Int)])
      have hl := hok.len
      have hn2 := hok.n2
      simp only at hw hi1 hl hn2 hs
      have hkn : k < n := by omega
      cases fus with
      | none =>
        obtain rfl : After = -1 := hf
        exact rwrite_none hs.1 hl hn2 hkn h64 hw ht hc
      | some p =>
        obtain ⟨a, t⟩ := p
        obtain ⟨h1, h2⟩ := hf
        have hfu := hok.fus a t rfl
        cases a with
        | zero =>
          subst h1 h2
          exact rwrite_torn hs.1 hl hn2 hkn h64 hw hfu.2 hc
        | succ a =>
          exact rwrite_dec hs.1 hl hn2 hkn h64 hw ⟨h2, hfu.2⟩ (by rw [h1]; omega) (by omega) (by omega) hc
    · have hwr : d.write i m = (d, 2) := by unfold Dv.write; rw [if_neg (by simp [hz]), if_pos h64]
      rw [hwr]
      have := rwrite_bad h' hok (i := i) (m := m) (.inr h64)
      rwa [if_neg (by simp [hz])] at this
  · have hwr : d.write i m = (d, d.can i) := by unfold Dv.write; rw [if_pos hz]
    rw [hwr]
    have := rwrite_bad h' hok (i := i) (m := m) (.inl hz)
    rwa [if_pos hz] at this
end Go.Proofs.Ytmcjefdnkcpghaa
/- THE WALK OF octroilaw09.Fill. -/
namespace Go.Proofs.Ytmcjefdnkcpghaa
open Go.RowKit
def FillPost (w : World) (b : UInt8) (e : Ending) (w' : World) : Prop := ∃ v, e = .returned v ∧ Byt w' w'.heap.size v (List.replicate 64 b) ∧ Below w.heap.size w w'
set_option maxRecDepth 100000 in
theorem fill_any (b : UInt8) (w : World) : Calls Try.prog 36 #[.int .u8 (b.toNat : Int)] w (FillPost w b) := by
  go_enter Try.func36, Try.ntmps36
  go_wp2
  go_loopg [3, 4] 64 (fun gk v x wr => ∃ k : Nat, k ≤ 64 ∧ gk = 64 - k ∧ x = .int .i64 (k : Int) ∧ Own wr w.heap.size v (List.replicate k b) ∧ Below w.heap.size w wr)
  case atStart => exact ⟨0, Nat.zero_le _, rfl, rfl, Own.nil_ _ _, Below.refl _ _⟩
  case round =>
    obtain ⟨k, hk, hgk, rfl, hown, hbel⟩ := hrel
    have HG := Lib.hid hgk
    clear hgk
    by_cases h : k < 64
    · have hlr : (List.replicate k b).length + [b].length ≤ 140737488355328 := by simp; omega
      have hba : w.heap.size ≤ (wr.alloc (.cells #[.int .u8 (b.toNat : Int)] 5)).heap.size := by have := hbel.size; simp; omega
      go_wp2_with (first
        | (at_builtin; go_must (refine wpList_append_byt _ rfl (.tmp 6) (.tmp 8) rfl w.heap.size _ (List.replicate k b) rfl (hown.alloc _) _ _ [b] rfl (byt_one wr _ b rfl) hlr hba ?_)
           intro v' w1 hown1 hg1 hat1))
      go_roundg (64 - (k + 1))
      case measure => have := HG.out; omega
      case rel => exact ⟨k + 1, by omega, rfl, by go_num, by rw [List.replicate_succ']; exact hown1, (hbel.alloc hbel.size _).grown hg1 hba (fun g hg => (hown.lt g hg).1)⟩
    · obtain rfl : k = 64 := by omega
      obtain ⟨A, c, rfl, _, _, _⟩ := id hown.byt
      rw [List.length_replicate] at *
      have HB := Lib.hid hown.byt
      go_wp2
      go_ret
      exact ⟨_, rfl, HB.out, hbel⟩
end Go.Proofs.Ytmcjefdnkcpghaa
/- THE WALKS OF sector's All. -/
namespace Go.Proofs.Ytmcjefdnkcpghaa
open Go.RowKit Go.Shelf
attribute [local go_sem] Oper.semAt_some
def encA (x : Nat × Value) : Array Value := #[.int .i64 (x.1 : Int), x.2]
def argA (d : Dv) (pre : List (Nat × Value)) (x : Nat × Value) (A : World) : Prop := x.1 = pre.length ∧ x.1 < d.n ∧ Byt A A.heap.size x.2 (page d.L x.1)
set_option maxRecDepth 100000 in
set_option maxHeartbeats 2000000 in
theorem all1_seq {w : World} {Z : Nat → Prop} {g : Nat} {d : Dv} (h : Dk w Z g d) (n : Nat) (hn : 1 ≤ n) {Bp : Nat} {T : Nat → Prop} (hBp : w.cell? ⟨Bp, 0, none⟩ = some (.pointer (some ⟨g, 0, none⟩))) (hBn : T Bp) (hhi : ∀ b, Z b → T b) :
    SeqK Fence.wide n Try.prog 92 #[.pointer (some ⟨Bp, 0, none⟩)] encA (fun _ => True) T (argA d) (fun xs => xs.length = d.n) (fun _ => True) w := by
  intro l J Jx W hW hJ hJx hY h0
  have hd := h.below hW
  have hno := snone_any hd
  have hgn : T g := hhi g h.gz
  obtain ⟨P, fv, c, JJ, hcap, h1, h2, hP1, _⟩ := hd.st
  have hPn : T P := hhi P hP1
  have hBl := World.block_lt_of_cell? w _ hBp
  have hBs := hW.size
  have hok := h.ok
  have b0 : W.cell? ⟨Bp, 0, none⟩ = some (.pointer (some ⟨g, 0, none⟩)) := (hW.cell (p := ⟨Bp, 0, none⟩) hBl).trans hBp
  have c0 : W.cell? ⟨g, 0, none⟩ = some (.slice (some ⟨P, 0, none⟩) d.n c) := by simp [World.cell?, h1]
  have hn2 := hok.n2
  unfold argA at hY
  generalize hdn : d.n = N at *
  have HN := Lib.hid hdn
  clear h hd
  refine callsIn_of_wp Try.func92 rfl trivial ?_ rfl
  simp only [Try.ntmps92, List.size_toArray, List.length_cons, List.length_nil, Nat.reduceAdd, Nat.reduceSub, Array.replicate_succ, Array.replicate_zero, List.push_toArray, List.append_toArray, List.nil_append, List.cons_append]
  gi_wp2_with (refine ⟨trivial, ?_⟩; gi_at_call 90; refine (callsIn_wide.2 hno).mono ?_; rintro e w' ⟨rfl, rfl⟩)
  gi_loopw [11] (fun i wr => ∃ (k : Nat) (pre : List (Nat × Value)), k ≤ N ∧ i = .int .i64 (k : Int) ∧ pre.length = k ∧ J pre wr ∧ Kept T W wr) (fun i _ => N - (intOf i).toNat)
  case atStart => exact ⟨0, [], Nat.zero_le _, rfl, rfl, h0, Kept.refl _ _⟩
  case round =>
    obtain ⟨k, pre, hk, rfl, hpre, hJs, hkp⟩ := hrel
    have h1r := hkp.heap h1 hgn
    have h2r := hkp.heap h2 hPn
    have b0r : wr.cell? ⟨Bp, 0, none⟩ = some (.pointer (some ⟨g, 0, none⟩)) := (hkp.cell (p := ⟨Bp, 0, none⟩) (Nat.lt_of_lt_of_le hBl hBs) hBn).trans b0
    have c0r : wr.cell? ⟨g, 0, none⟩ = some (.slice (some ⟨P, 0, none⟩) N c) := by simp [World.cell?, h1r]
    by_cases hlt : k < N
    · have hlen := hok.len
      have hb := Dk.page_byt h2r hlen (show k < d.n by omega)
      have hpl := page_len hlen (show k < d.n by omega)
      have hcl := bclone_any hb (by omega) (by omega)
      generalize hpg : page d.L k = pg at *
      have HPG := Lib.hid hpg
      clear hb hlen h1r h2r hpg
      gi_wp2_with (refine ⟨trivial, ?_⟩; gi_at_call 91; refine (callsIn_wide.2 hcl).mono ?_; rintro e w2 ⟨r, rfl, hown, hbel⟩; obtain ⟨fn, tmps, assign, body, hy, hR⟩ := hY pre (k, r) w2 (hJ _ _ _ hJs (Kept.ofBelow hbel)) ⟨hpre.symm, hlt, by rw [HPG.out]; exact hown.byt⟩; dsimp only [encA] at hy)
      refine hR.mono ?_
      rintro e W3 (⟨rfl, hJ3, hk3⟩ | ⟨rfl, hJx3⟩)
      · gi_wp2
        go_roundw
        case rel => exact ⟨k + 1, pre ++ [(k, r)], by omega, by simp, by simp [hpre], hJ3, (hkp.trans (Kept.ofBelow (S := T) hbel) (fun _ _ h => h)).trans hk3 (fun _ _ h => h)⟩
        case measure => simp [intOf]; omega
      · gi_wp2
        refine bodyPost_ret (results_none rfl _ _ _) rfl ?_
        exact ⟨⟨_, rfl⟩, .inr ⟨_, trivial, hJx3⟩⟩
    · obtain rfl : k = N := by omega
      gi_wp2
      go_end0
      exact ⟨⟨_, rfl⟩, .inl ⟨_, hpre, hJs⟩⟩
theorem all_any (g : Nat) (w : World) : Calls Try.prog 40 #[.pointer (some ⟨g, 0, none⟩)] w fun e w' => e = .returned (.func (.func 92) #[] #[.pointer (some ⟨w.heap.size, 0, none⟩)]) ∧ w' = w.alloc (.cells #[.pointer (some ⟨g, 0, none⟩)] 41) := by
  go_enter Try.func40, Try.ntmps40
  go_wp2
  go_ret
  exact ⟨rfl, rfl⟩
end Go.Proofs.Ytmcjefdnkcpghaa
/- THE WALK OF octroilaw09.Like. -/
namespace Go.Proofs.Ytmcjefdnkcpghaa
open Go.RowKit Go.Shelf
attribute [local go_sem] Oper.semAt_some
theorem ownFrom_block {β : Type} {B b : Nat} (f : β → Array Value) (t : TypeId) : OwnFrom B (fun (s : β) W => W.heap[b]? = some (.cells (f s) t (0, 0))) := fun s A C row hs hg hr =>
  (hg.block b (lt_of_block hs) (fun e => by
    obtain ⟨_, o, ho, hc⟩ := hr b e.symm
    rw [show A.heap[b]? = _ from hs] at ho
    cases ho; cases hc)).trans hs
theorem argA_own (d : Dv) (B : Nat) (pre : List (Nat × Value)) (x : Nat × Value) : OwnFrom B (fun (_ : Unit) W => argA d pre x W) := fun s A C row hs hg hr => by
  obtain ⟨h1, h2, h3⟩ := hs
  refine ⟨h1, h2, ?_⟩
  obtain ⟨ad, c, hv, hc, hm, hx⟩ := h3
  refine ⟨ad, c, hv, hc, hm, fun h0 => ?_⟩
  obtain ⟨a, e, hb, hj⟩ := hx h0
  exact ⟨a, e, Nat.lt_of_lt_of_le hb hg.size, fun j y hy => cell_kept (hj j y hy) hg (fun r e => (hr r e).2)⟩
theorem run_eql_func_nil (w : World) (f : Fn) (a b : Array Value) : (binOp .eql 49 (.func f a b) .nilFunc).run Try.prog w = .ok (.bool false) w := by
  have hu : ∀ d : Nat, (Op.equalIn (d + 1) 49 (.func f a b) .nilFunc).run Try.prog w = .ok false w := fun d => by
    simp [Op.equalIn, run_underlying Try.underlying49]
  simp only [binOp]
  simp [Op.equal, Op.maxDepth, hu 9999]
set_option maxRecDepth 100000 in
set_option maxHeartbeats 2000000 in
theorem like_any {w : World} {Z : Nat → Prop} {g B : Nat} {v : Value} {d : Dv} (h : Dk w Z g d) (hhi : ∀ b, Z b → b < w.heap.size) (hr : Rv w B v d) : Calls Try.prog 48 #[.pointer (some ⟨g, 0, none⟩), v] w fun e w' => e = .returned (.bool true) ∧ Below w.heap.size w w' := by
  obtain ⟨A, c, After, Torn, rfl, hs, hf, ht⟩ := hr.heap
  have hq := run_eql_func_nil
  refine (callsIn_wide (n := 3)).1 ?_
  refine callsIn_of_wp_marks Try.func48 rfl trivial ?_ rfl
  simp only [Try.ntmps48, List.size_toArray, List.length_cons, List.length_nil, Nat.reduceAdd, Nat.reduceSub, Array.replicate_succ, Array.replicate_zero, List.push_toArray, List.append_toArray, List.nil_append, List.cons_append]
  gi_wp2_with (refine ⟨trivial, ?_⟩; gi_at_call 40; refine (callsIn_wide.2 (all_any g _)).mono ?_; rintro e w' ⟨rfl, rfl⟩)
  obtain ⟨W0, hW0⟩ : ∃ W0, W0 = (((w.alloc (.cells #[.slice A d.n c, .int .i64 After, .int .i64 Torn, .bool d.dead, .int .i64 (d.writes : Int)] 55)).alloc (.cells #[.bool false] 4)).alloc (.cells #[.int .i64 0] 3)).alloc (.cells #[.pointer (some ⟨g, 0, none⟩)] 41) := ⟨_, rfl⟩
  rw [← hW0]
  have hsz : W0.heap.size = w.heap.size + 4 := by rw [hW0]; simp
  have hb0 : Below w.heap.size w W0 := by rw [hW0]; exact ((((Below.refl _ w).alloc (Nat.le_refl _) _).alloc (by simp) _).alloc (by simp <;> omega) _).alloc (by simp <;> omega) _
  have hR0 : W0.heap[w.heap.size]? = some (.cells #[.slice A d.n c, .int .i64 After, .int .i64 Torn, .bool d.dead, .int .i64 (d.writes : Int)] 55 (0, 0)) := by
    rw [hW0, Below.heap_alloc _ _ _ (by simp <;> omega), Below.heap_alloc _ _ _ (by simp <;> omega), Below.heap_alloc _ _ _ (by simp)]
    exact heap_alloc_new w _
  have hE0 : W0.heap[w.heap.size + 1]? = some (.cells #[.bool false] 4 (0, 0)) := by
    rw [hW0, Below.heap_alloc _ _ _ (by simp <;> omega), Below.heap_alloc _ _ _ (by simp)]
    have := heap_alloc_new (w.alloc (.cells #[.slice A d.n c, .int .i64 After, .int .i64 Torn, .bool d.dead, .int .i64 (d.writes : Int)] 55)) (.cells #[.bool false] 4 (0, 0))
    simpa using this
  have hC0 : W0.heap[w.heap.size + 1 + 1]? = some (.cells #[.int .i64 0] 3 (0, 0)) := by
    rw [hW0, Below.heap_alloc _ _ _ (by simp)]
    have := heap_alloc_new ((w.alloc (.cells #[.slice A d.n c, .int .i64 After, .int .i64 Torn, .bool d.dead, .int .i64 (d.writes : Int)] 55)).alloc (.cells #[.bool false] 4)) (.cells #[.int .i64 0] 3 (0, 0))
    simpa using this
  have hP0 : W0.heap[w.heap.size + 1 + 1 + 1]? = some (.cells #[.pointer (some ⟨g, 0, none⟩)] 41 (0, 0)) := by
    rw [hW0]
    have := heap_alloc_new (((w.alloc (.cells #[.slice A d.n c, .int .i64 After, .int .i64 Torn, .bool d.dead, .int .i64 (d.writes : Int)] 55)).alloc (.cells #[.bool false] 4)).alloc (.cells #[.int .i64 0] 3)) (.cells #[.pointer (some ⟨g, 0, none⟩)] 41 (0, 0))
    simpa using this
  clear hW0
  have hgw := h.lt
  have hd0 := h.below hb0
  refine wpIn_range rfl (by omega) (gf := 92) (lb := #[.pointer (some ⟨w.heap.size + 1 + 1 + 1, 0, none⟩)]) rfl trivial (enters_of Try.func92 (by kernel_rfl) rfl)
    (all1_seq hd0 (3 - 1) (by omega) (T := fun b => b < w.heap.size ∨ b = w.heap.size + 1 + 1 + 1) (by simp [World.cell?, hP0]) (.inr rfl) (fun b hb => .inl (hhi b hb)))
    (fun _ _ => trivial) (by rintro b (hb | rfl) <;> omega) (Below.refl _ _) (fun _ => rfl)
    (fun pre W => (W.heap[w.heap.size]? = some (.cells #[.slice A d.n c, .int .i64 After, .int .i64 Torn, .bool d.dead, .int .i64 (d.writes : Int)] 55 (0, 0)) ∧ W.heap[w.heap.size + 1]? = some (.cells #[.bool false] 4 (0, 0)) ∧ W.heap[w.heap.size + 1 + 1]? = some (.cells #[.int .i64 (pre.length : Int)] 3 (0, 0))) ∧ Below w.heap.size w W)
    (fun _ _ _ => False) ?hI (fun _ _ _ _ _ h _ _ => h) ?hIk (fun _ _ _ _ h _ => h) (fun pre x => argA_own d _ pre x) ⟨⟨hR0, hE0, hC0⟩, hb0⟩
    (fun x => { tmps := #[.pointer (some ⟨g, 0, none⟩), .agg #[.slice A d.n c, .int .i64 After, .int .i64 Torn, .bool d.dead, .int .i64 (d.writes : Int)], undef, .pointer (some ⟨w.heap.size, 0, none⟩), .pointer (some ⟨w.heap.size + 1, 0, none⟩), .pointer (some ⟨w.heap.size + 1 + 1, 0, none⟩), .func (.func 92) #[] #[.pointer (some ⟨w.heap.size + 1 + 1 + 1, 0, none⟩)], .int .i64 (x.1 : Int), x.2, .pointer (some ⟨g, 0, none⟩), .func (.func 92) #[] #[.pointer (some ⟨w.heap.size + 1 + 1 + 1, 0, none⟩)], .func (.func 92) #[] #[.pointer (some ⟨w.heap.size + 1 + 1 + 1, 0, none⟩)], .bool false, .func (.func 92) #[] #[.pointer (some ⟨w.heap.size + 1 + 1 + 1, 0, none⟩)], .int .i64 (x.1 : Int), x.2, undef, undef, undef, undef, undef, undef, undef, undef, undef, undef, undef, undef, undef, undef, undef, undef, undef, undef, undef, undef, undef, undef, undef, undef, undef, undef, undef, undef, undef, undef, undef, undef, undef, undef, undef, undef, undef, undef, undef, undef, undef, undef, undef, undef, undef, undef, undef], defers := [] }) ?assign ?body ?done ?stop
  case hI => exact OwnFrom.and (OwnFrom.and (ownFrom_block _ _) (OwnFrom.and (ownFrom_block _ _) (ownFrom_block _ _))) (ownFrom_below (Nat.le_refl _) (by omega))
  case hIk =>
    rintro s A B ⟨⟨h1, h2, h3⟩, h4⟩ hk
    exact ⟨⟨hk.heap h1 trivial, hk.heap h2 trivial, hk.heap h3 trivial⟩, h4.trans ((hk.toBelow (B := w.heap.size) h4.size (fun _ _ => trivial)))⟩
  case assign =>
    intro l x W K hK
    simp only [encA]
    gi_wp2
    exact hK
  case body =>
    rintro l pre ⟨k, v⟩ W hl hrec ⟨⟨hR, hE, hC⟩, hB⟩ ⟨hx1, hx2, hx3⟩
    simp only at hx1 hx2 hx3
    subst hx1
    have hpl : (pagesS d.L d.n).length = d.n := pagesS_len _ _
    obtain ⟨ad, c', hv, hc1, hc2, hb, hcell⟩ := (hs.below hB).1.at_ pre.length (by rw [hpl]; exact hx2)
    rw [hpl] at hv hc1
    simp only [Value.slice.injEq, true_and] at hv
    obtain ⟨rfl, rfl⟩ := hv
    have hcell' : W.cell? (ad.add pre.length) = some (.string (bsA (page d.L pre.length))) := by rw [hcell]; simp [pagesS, strK]
    have cR : W.cell? ⟨w.heap.size, 0, none⟩ = some (.slice (some ad) d.n c) := by simp [World.cell?, hR]
    have cC : W.cell? ⟨w.heap.size + 1 + 1, 0, none⟩ = some (.int .i64 (pre.length : Int)) := by simp [World.cell?, hC]
    have fC := free_of hC 0
    have hcv : ∀ m, (convert 23 9 v).run Try.prog (W.drewN m) = .ok (.string (bsA (page d.L pre.length))) (W.drewN m) := fun m => (show Byt (W.drewN m) W.heap.size v _ from hx3).str
    have e2 : decide (d.n ≤ pre.length) = false := decide_eq_false (by omega)
    have hn2 := h.ok.n2
    have hlt := lt_of_block hC
    generalize bsA (page d.L pre.length) = pg at *
    clear hcell hx3 h hd0 hr hs hf
    gi_wp2
    refine wpIn_round_quiet (by kernel_rfl) (by kernel_rfl) (by kernel_rfl) ?_ ?_
    rotate_left
    repeat (go_big_quiet_step (fail))
    refine wpQuiet_nil ?_
    intro _ hw'
    obtain ⟨nq, hw''⟩ := hw'
    subst hw''
    · gi_wp2
      have hkf := (KeepsOthers.setCell W ⟨w.heap.size + 1 + 1, 0, none⟩ (.int .i64 ((pre.length : Int) + 1))).from W0.heap.size
      have hkq : Kept (fun b => b < w.heap.size ∨ b = w.heap.size + 1 + 1 + 1) W (W.drewN nq) := ⟨rfl, rfl, rfl, Nat.le_refl _, fun _ _ _ => rfl⟩
      have hbq : Below w.heap.size W (W.drewN nq) := ⟨rfl, rfl, rfl, Nat.le_refl _, fun _ _ => rfl⟩
      have hCq : (W.drewN nq).heap[w.heap.size + 1 + 1]? = some (.cells #[.int .i64 (pre.length : Int)] 3 (0, 0)) := hC
      refine ⟨⟨hkf.size, hkf.same⟩, hkq.setCell ⟨w.heap.size + 1 + 1, 0, none⟩ _ (fun _ hS => ?_), ⟨?_, ?_, ?_⟩, (hB.trans hbq).setCell (p := ⟨w.heap.size + 1 + 1, 0, none⟩) (by show w.heap.size ≤ w.heap.size + 1 + 1; omega) _⟩
      · have hS' : w.heap.size + 1 + 1 < w.heap.size ∨ w.heap.size + 1 + 1 = w.heap.size + 1 + 1 + 1 := hS
        omega
      · rw [Below.heap_setCell _ _ _ _ (fun e => by have e' : w.heap.size = w.heap.size + 1 + 1 := e; omega)]; exact hR
      · rw [Below.heap_setCell _ _ _ _ (fun e => by have e' : w.heap.size + 1 = w.heap.size + 1 + 1 := e; omega)]; exact hE
      · have := Lib.heap_setCell_same (i := 0) hCq (.int .i64 ((pre.length : Int) + 1))
        simpa using this
    · rintro ⟨a, w, h⟩
      exact h
  case done =>
    rintro D ys W hD hys ⟨⟨hR, hE, hC⟩, hB⟩ hK
    rw [hys] at hC
    gi_wp2
    have hBd : Below w.heap.size w W.drew := hB.drew
    have hF : ∀ W', Below W.drew.heap.size W.drew W' → W'.cell? ⟨w.heap.size + 1 + 1, 0, none⟩ = some (.int .i64 (d.n : Int)) ∧ W'.cell? ⟨w.heap.size, 0, none⟩ = some (.slice A d.n c) ∧ W'.cell? ⟨w.heap.size, 3, none⟩ = some (.bool d.dead) ∧ W'.cell? ⟨w.heap.size, 4, none⟩ = some (.int .i64 (d.writes : Int)) ∧ Dk W' Z g d := fun W' hb => by
      have k1 := (hb.block (w.heap.size + 1 + 1) (lt_of_block hC)).trans hC
      have k2 := (hb.block w.heap.size (lt_of_block hR)).trans hR
      exact ⟨by simp [World.cell?, k1], by simp [World.cell?, k2], by simp [World.cell?, k2], by simp [World.cell?, k2], (h.below hBd).below hb⟩
    have HF := Lib.hid hF
    have HBD := Lib.hid hBd
    have hlt := lt_of_block hE
    have HE := Lib.hid hE
    have HK := Lib.hid hK
    clear hF hBd hR hC hB hK
    refine wpIn_wide.2 ?_
    -- region 11
    refine wp_region_tail 25 (by kernel_rfl) [isS (.int .i64 (d.n : Int)), isS (.pointer (some ⟨w.heap.size, 0, none⟩)), isS (.slice A d.n c), isS (.int .i64 (d.n : Int)), isS (.bool true), isS (.bool true), isS (.pointer (some ⟨g, 0, none⟩)), isS (.int .i64 (d.n : Int)), isS (.int .i64 (d.n : Int)), isS (.bool true), isS (.bool true), isS (.bool true), isS (.pointer (some ⟨g, 0, none⟩)), isS (.bool d.dead), isS (.pointer (some ⟨w.heap.size, 3, none⟩)), isS (.bool d.dead), isS (.bool true), isS (.bool true), isS (.bool true), isS (.pointer (some ⟨g, 0, none⟩)), isS (.int .i64 (d.writes : Int)), isS (.pointer (some ⟨w.heap.size, 4, none⟩)), isS (.int .i64 (d.writes : Int)), isS (.bool true), isS (.bool true)] (by kernel_rfl) (by kernel_rfl) (by kernel_rfl) (by kernel_rfl) (by decide) (by kernel_rfl) (fun i hi => ?_) (fun a w5 hc hs => ?_)
    · match i, hi with
      | 0, _ =>
        intro a W hc hd
        have z5 := hc.same 5 (by kernel_rfl)
        simp only [List.getElem?_toArray, List.getElem?_cons_succ, List.getElem?_cons_zero, Option.getD_some] at z5
        obtain ⟨q1, q2, q3, q4, q5⟩ := HF.out W hc.below
        refine obl_val rfl (wanted_none rfl) ?_ rfl
        go_simp
      | 1, _ =>
        intro a W hc hd
        have z3 := hc.same 3 (by kernel_rfl)
        simp only [List.getElem?_toArray, List.getElem?_cons_succ, List.getElem?_cons_zero, Option.getD_some] at z3
        refine obl_val rfl (wanted_none rfl) ?_ rfl
        go_simp
      | 2, _ =>
        intro a W hc hd
        have s1 : a.tmps[39]?.getD undef = (.pointer (some ⟨w.heap.size, 0, none⟩)) := hd 1 (by kernel_rfl)
        obtain ⟨q1, q2, q3, q4, q5⟩ := HF.out W hc.below
        refine obl_val rfl (wanted_none rfl) ?_ rfl
        go_simp
      | 3, _ =>
        intro a W hc hd
        have s2 : a.tmps[40]?.getD undef = (.slice A d.n c) := hd 2 (by kernel_rfl)
        refine obl_val rfl (wanted_none rfl) ?_ rfl
        go_simp
      | 4, _ =>
        intro a W hc hd
        have s0 : a.tmps[38]?.getD undef = (.int .i64 (d.n : Int)) := hd 0 (by kernel_rfl)
        have s3 : a.tmps[41]?.getD undef = (.int .i64 (d.n : Int)) := hd 3 (by kernel_rfl)
        refine obl_val rfl (wanted_none rfl) ?_ rfl
        go_simp
      | 5, _ =>
        intro a W hc hd
        have s4 : a.tmps[42]?.getD undef = (.bool true) := hd 4 (by kernel_rfl)
        refine obl_val rfl (wanted_none rfl) ?_ rfl
        go_simp
      | 6, _ =>
        intro a W hc hd
        have z0 := hc.same 0 (by kernel_rfl)
        have s5 : a.tmps[43]?.getD undef = (.bool true) := hd 5 (by kernel_rfl)
        simp only [List.getElem?_toArray, List.getElem?_cons_zero, Option.getD_some] at z0
        refine obl_val rfl (wanted_some rfl rfl s5) ?_ rfl
        go_simp
      | 7, _ =>
        intro a W hc hd
        have s6 : a.tmps[44]?.getD undef = (.pointer (some ⟨g, 0, none⟩)) := hd 6 (by kernel_rfl)
        have s5 : a.tmps[43]?.getD undef = (.bool true) := hd 5 (by kernel_rfl)
        obtain ⟨q1, q2, q3, q4, q5⟩ := HF.out W hc.below
        refine obl_call rfl (wanted_some rfl rfl s5) (by go_simp) (slen_any q5) ?_
        rintro e w8 ⟨rfl, rfl⟩
        exact ⟨_, rfl, rfl, Below.refl _ _⟩
      | 8, _ =>
        intro a W hc hd
        have z5 := hc.same 5 (by kernel_rfl)
        have s5 : a.tmps[43]?.getD undef = (.bool true) := hd 5 (by kernel_rfl)
        simp only [List.getElem?_toArray, List.getElem?_cons_succ, List.getElem?_cons_zero, Option.getD_some] at z5
        obtain ⟨q1, q2, q3, q4, q5⟩ := HF.out W hc.below
        refine obl_val rfl (wanted_some rfl rfl s5) ?_ rfl
        go_simp
      | 9, _ =>
        intro a W hc hd
        have s7 : a.tmps[45]?.getD undef = (.int .i64 (d.n : Int)) := hd 7 (by kernel_rfl)
        have s8 : a.tmps[46]?.getD undef = (.int .i64 (d.n : Int)) := hd 8 (by kernel_rfl)
        have s5 : a.tmps[43]?.getD undef = (.bool true) := hd 5 (by kernel_rfl)
        refine obl_val rfl (wanted_some rfl rfl s5) ?_ rfl
        go_simp
      | 10, _ =>
        intro a W hc hd
        have s5 : a.tmps[43]?.getD undef = (.bool true) := hd 5 (by kernel_rfl)
        have s9 : a.tmps[47]?.getD undef = (.bool true) := hd 9 (by kernel_rfl)
        refine obl_val rfl (wanted_none rfl) ?_ rfl
        go_simp
      | 11, _ =>
        intro a W hc hd
        have s10 : a.tmps[48]?.getD undef = (.bool true) := hd 10 (by kernel_rfl)
        refine obl_val rfl (wanted_none rfl) ?_ rfl
        go_simp
      | 12, _ =>
        intro a W hc hd
        have z0 := hc.same 0 (by kernel_rfl)
        have s11 : a.tmps[49]?.getD undef = (.bool true) := hd 11 (by kernel_rfl)
        simp only [List.getElem?_toArray, List.getElem?_cons_zero, Option.getD_some] at z0
        refine obl_val rfl (wanted_some rfl rfl s11) ?_ rfl
        go_simp
      | 13, _ =>
        intro a W hc hd
        have s12 : a.tmps[50]?.getD undef = (.pointer (some ⟨g, 0, none⟩)) := hd 12 (by kernel_rfl)
        have s11 : a.tmps[49]?.getD undef = (.bool true) := hd 11 (by kernel_rfl)
        obtain ⟨q1, q2, q3, q4, q5⟩ := HF.out W hc.below
        refine obl_call rfl (wanted_some rfl rfl s11) (by go_simp) (sdead_any q5) ?_
        rintro e w8 ⟨rfl, rfl⟩
        exact ⟨_, rfl, rfl, Below.refl _ _⟩
      | 14, _ =>
        intro a W hc hd
        have z3 := hc.same 3 (by kernel_rfl)
        have s11 : a.tmps[49]?.getD undef = (.bool true) := hd 11 (by kernel_rfl)
        simp only [List.getElem?_toArray, List.getElem?_cons_succ, List.getElem?_cons_zero, Option.getD_some] at z3
        refine obl_val rfl (wanted_some rfl rfl s11) ?_ rfl
        go_simp
      | 15, _ =>
        intro a W hc hd
        have s14 : a.tmps[52]?.getD undef = (.pointer (some ⟨w.heap.size, 3, none⟩)) := hd 14 (by kernel_rfl)
        have s11 : a.tmps[49]?.getD undef = (.bool true) := hd 11 (by kernel_rfl)
        obtain ⟨q1, q2, q3, q4, q5⟩ := HF.out W hc.below
        refine obl_val rfl (wanted_some rfl rfl s11) ?_ rfl
        go_simp
      | 16, _ =>
        intro a W hc hd
        have s13 : a.tmps[51]?.getD undef = (.bool d.dead) := hd 13 (by kernel_rfl)
        have s15 : a.tmps[53]?.getD undef = (.bool d.dead) := hd 15 (by kernel_rfl)
        have s11 : a.tmps[49]?.getD undef = (.bool true) := hd 11 (by kernel_rfl)
        refine obl_val rfl (wanted_some rfl rfl s11) ?_ rfl
        go_simp
      | 17, _ =>
        intro a W hc hd
        have s11 : a.tmps[49]?.getD undef = (.bool true) := hd 11 (by kernel_rfl)
        have s16 : a.tmps[54]?.getD undef = (.bool true) := hd 16 (by kernel_rfl)
        refine obl_val rfl (wanted_none rfl) ?_ rfl
        go_simp
      | 18, _ =>
        intro a W hc hd
        have s17 : a.tmps[55]?.getD undef = (.bool true) := hd 17 (by kernel_rfl)
        refine obl_val rfl (wanted_none rfl) ?_ rfl
        go_simp
      | 19, _ =>
        intro a W hc hd
        have z0 := hc.same 0 (by kernel_rfl)
        have s18 : a.tmps[56]?.getD undef = (.bool true) := hd 18 (by kernel_rfl)
        simp only [List.getElem?_toArray, List.getElem?_cons_zero, Option.getD_some] at z0
        refine obl_val rfl (wanted_some rfl rfl s18) ?_ rfl
        go_simp
      | 20, _ =>
        intro a W hc hd
        have s19 : a.tmps[57]?.getD undef = (.pointer (some ⟨g, 0, none⟩)) := hd 19 (by kernel_rfl)
        have s18 : a.tmps[56]?.getD undef = (.bool true) := hd 18 (by kernel_rfl)
        obtain ⟨q1, q2, q3, q4, q5⟩ := HF.out W hc.below
        refine obl_call rfl (wanted_some rfl rfl s18) (by go_simp) (swrites_any q5) ?_
        rintro e w8 ⟨rfl, rfl⟩
        exact ⟨_, rfl, rfl, Below.refl _ _⟩
      | 21, _ =>
        intro a W hc hd
        have z3 := hc.same 3 (by kernel_rfl)
        have s18 : a.tmps[56]?.getD undef = (.bool true) := hd 18 (by kernel_rfl)
        simp only [List.getElem?_toArray, List.getElem?_cons_succ, List.getElem?_cons_zero, Option.getD_some] at z3
        refine obl_val rfl (wanted_some rfl rfl s18) ?_ rfl
        go_simp
      | 22, _ =>
        intro a W hc hd
        have s21 : a.tmps[59]?.getD undef = (.pointer (some ⟨w.heap.size, 4, none⟩)) := hd 21 (by kernel_rfl)
        have s18 : a.tmps[56]?.getD undef = (.bool true) := hd 18 (by kernel_rfl)
        obtain ⟨q1, q2, q3, q4, q5⟩ := HF.out W hc.below
        refine obl_val rfl (wanted_some rfl rfl s18) ?_ rfl
        go_simp
      | 23, _ =>
        intro a W hc hd
        have s20 : a.tmps[58]?.getD undef = (.int .i64 (d.writes : Int)) := hd 20 (by kernel_rfl)
        have s22 : a.tmps[60]?.getD undef = (.int .i64 (d.writes : Int)) := hd 22 (by kernel_rfl)
        have s18 : a.tmps[56]?.getD undef = (.bool true) := hd 18 (by kernel_rfl)
        refine obl_val rfl (wanted_some rfl rfl s18) ?_ rfl
        go_simp
      | 24, _ =>
        intro a W hc hd
        have s18 : a.tmps[56]?.getD undef = (.bool true) := hd 18 (by kernel_rfl)
        have s23 : a.tmps[61]?.getD undef = (.bool true) := hd 23 (by kernel_rfl)
        refine obl_val rfl (wanted_none rfl) ?_ rfl
        go_simp
      | n + 25, h => exact absurd h (by omega)
    · have hfr := grow_frame hc [(38, .int .i64 (d.n : Int)), (39, .pointer (some ⟨w.heap.size, 0, none⟩)), (40, .slice A d.n c), (41, .int .i64 (d.n : Int)), (42, .bool true), (43, .bool true), (44, .pointer (some ⟨g, 0, none⟩)), (45, .int .i64 (d.n : Int)), (46, .int .i64 (d.n : Int)), (47, .bool true), (48, .bool true), (49, .bool true), (50, .pointer (some ⟨g, 0, none⟩)), (51, .bool d.dead), (52, .pointer (some ⟨w.heap.size, 3, none⟩)), (53, .bool d.dead), (54, .bool true), (55, .bool true), (56, .bool true), (57, .pointer (some ⟨g, 0, none⟩)), (58, .int .i64 (d.writes : Int)), (59, .pointer (some ⟨w.heap.size, 4, none⟩)), (60, .int .i64 (d.writes : Int)), (61, .bool true), (62, .bool true)] (by kernel_rfl) (fun p hp => by
        simp only [List.mem_cons, List.not_mem_nil, or_false] at hp
        rcases hp with rfl | rfl | rfl | rfl | rfl | rfl | rfl | rfl | rfl | rfl | rfl | rfl | rfl | rfl | rfl | rfl | rfl | rfl | rfl | rfl | rfl | rfl | rfl | rfl | rfl
        · exact hs 0 38 (by decide) (by kernel_rfl)
        · exact hs 1 39 (by decide) (by kernel_rfl)
        · exact hs 2 40 (by decide) (by kernel_rfl)
        · exact hs 3 41 (by decide) (by kernel_rfl)
        · exact hs 4 42 (by decide) (by kernel_rfl)
        · exact hs 5 43 (by decide) (by kernel_rfl)
        · exact hs 6 44 (by decide) (by kernel_rfl)
        · exact hs 7 45 (by decide) (by kernel_rfl)
        · exact hs 8 46 (by decide) (by kernel_rfl)
        · exact hs 9 47 (by decide) (by kernel_rfl)
        · exact hs 10 48 (by decide) (by kernel_rfl)
        · exact hs 11 49 (by decide) (by kernel_rfl)
        · exact hs 12 50 (by decide) (by kernel_rfl)
        · exact hs 13 51 (by decide) (by kernel_rfl)
        · exact hs 14 52 (by decide) (by kernel_rfl)
        · exact hs 15 53 (by decide) (by kernel_rfl)
        · exact hs 16 54 (by decide) (by kernel_rfl)
        · exact hs 17 55 (by decide) (by kernel_rfl)
        · exact hs 18 56 (by decide) (by kernel_rfl)
        · exact hs 19 57 (by decide) (by kernel_rfl)
        · exact hs 20 58 (by decide) (by kernel_rfl)
        · exact hs 21 59 (by decide) (by kernel_rfl)
        · exact hs 22 60 (by decide) (by kernel_rfl)
        · exact hs 23 61 (by decide) (by kernel_rfl)
        · exact hs 24 62 (by decide) (by kernel_rfl)
        )
      simp only [List.range, List.range.loop, List.size_toArray, List.length_cons, List.length_nil, List.map_cons, List.map_nil, List.lookup_cons, List.lookup_nil, Nat.reduceAdd, Nat.reduceBEq, Option.getD_some, Option.getD_none, List.getElem?_toArray, List.getElem?_cons_succ, List.getElem?_cons_zero] at hfr
      subst hfr
    -- end 11
      have hE5 := (hc.below.block (w.heap.size + 1) hlt).trans HE.out
      have hK5 := (hc.below.block D (lt_of_block HK.out)).trans HK.out
      have hB5 := HBD.out.trans (hc.below.mono HBD.out.size)
      have e5 : w5.cell? ⟨w.heap.size + 1, 0, none⟩ = some (.bool false) := by simp [World.cell?, hE5]
      have f5 := free_of hE5 0
      clear hs hc
      simp only [List.drop_succ_cons, List.drop_zero]
      go_wp2
      gi_wp2
      have hK6 := (KeepsOthers.setCell w5 ⟨w.heap.size + 1, 0, none⟩ (.bool true)).same D _ hK5 rfl
      refine ⟨by simp, .inl ⟨_, _, rfl, run_takeDeferred hK6, ?_⟩⟩
      have hE6 : (w5.setCell ⟨w.heap.size + 1, 0, none⟩ (.bool true)).cell? ⟨w.heap.size + 1, 0, none⟩ = some (.bool true) := World.cell?_setCell_same' _ _ _ (by rw [e5]; rfl)
      have hc6 := cell_kept hE6 (grownBy_putObj' _ D (.deferred none)) (fun r e => by cases e; exact ⟨_, hK6, rfl⟩)
      refine ⟨.bool true, ?_, rfl, (hB5.setCell (p := ⟨w.heap.size + 1, 0, none⟩) (by show w.heap.size ≤ w.heap.size + 1; omega) _).trans (belowK_b (w := w) (Nat.le_refl _) _ D _ _ (by omega) hK6 rfl rfl)⟩
      simp [results, Try.results48, go_sem, hc6]
  case stop =>
    rintro D c pre W _ _ h _
    exact h.elim
end Go.Proofs.Ytmcjefdnkcpghaa
