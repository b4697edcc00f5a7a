/- THE WALK OF octroiref09.Disk.Write. -/
import Derived.Test.YtmcjefdnkcpghaaSeH
namespace Go.Proofs.Ytmcjefdnkcpghaa
open Go.RowKit
theorem Ow.pos {α : Type} {K : Kd α} {w : World} {base : Nat} {v : Value} {l : List α} (h : Ow K w base v l) (h0 : 0 < l.length) : ∃ g c, v = .slice (some ⟨g, 0, none⟩) l.length c ∧ base ≤ g ∧ l.length ≤ c ∧ c ≤ maxLen := by
  obtain ⟨h1, h2⟩ := h
  rcases h2 with ⟨rfl, hn⟩ | ⟨g, cap, cur, rfl, hb', hg, hc, hm, _⟩
  · omega
  · exact ⟨g, cap, rfl, hb', hc, hm⟩
theorem Ow.freeze {α : Type} {K : Kd α} {w : World} {base g n c : Nat} {l : List α} (h : Ow K w base (.slice (some ⟨g, 0, none⟩) n c) l) (i : Nat) : w.frozen? ⟨g, i, none⟩ = false := by
  obtain ⟨h1, h2⟩ := h
  rcases h2 with ⟨e, hn⟩ | ⟨g', cap, cur, e, hb', hg, _⟩
  · cases e
  · cases e; exact free_of hg i
theorem Ow.at_ {α : Type} {K : Kd α} {w : World} {base g n c : Nat} {l : List α} (h : Ow K w base (.slice (some ⟨g, 0, none⟩) n c) l) (i : Nat) (x : α) (hx : l[i]? = some x) : w.cell? ⟨g, i, none⟩ = some (K.enc x) := by
  obtain ⟨A, c', e, _, _, hr⟩ := h.sl
  have h0 : 0 < l.length := by have := (List.getElem?_eq_some_iff.1 hx).1; omega
  obtain ⟨ad, hA, _, hj⟩ := hr h0
  cases e
  cases hA
  have := hj i x hx
  simpa [addr_mk_add] using this
/-- the two blocks of the call: the disk that was handed in, the disk that is answered -/
def wW (w : World) (cs : Array Value) : World := (w.alloc (.cells cs 55)).alloc (.cells #[.slice none 0 0, .int .i64 0, .int .i64 0, .bool false, .int .i64 0] 55)
theorem wW_below (w : World) (cs : Array Value) : Below w.heap.size w (wW w cs) := ((Below.refl _ w).alloc (Nat.le_refl _) _).alloc (by simp) _
theorem wW_size (w : World) (cs : Array Value) : (wW w cs).heap.size = w.heap.size + 2 := by simp [wW]
theorem wW_0 (w : World) (cs : Array Value) : (wW w cs).heap[w.heap.size]? = some (.cells cs 55 (0, 0)) := by
  unfold wW
  rw [Below.heap_alloc _ _ _ (by simp)]
  exact heap_alloc_new w (.cells cs 55 (0, 0))
theorem wW_1 (w : World) (cs : Array Value) : (wW w cs).heap[w.heap.size + 1]? = some (.cells #[.slice none 0 0, .int .i64 0, .int .i64 0, .bool false, .int .i64 0] 55 (0, 0)) := by
  have := heap_alloc_new (w.alloc (.cells cs 55)) (.cells #[.slice none 0 0, .int .i64 0, .int .i64 0, .bool false, .int .i64 0] 55 (0, 0))
  simpa [wW] using this
theorem Rv.of {w : World} {d : Dv} {A : Option Addr} {c n : Nat} {After Torn wr : Int} {dead : Bool} (hs : SlS w w.heap.size (.slice A n c) (pagesS d.L d.n)) (hn : n = d.n) (hd : dead = d.dead) (hw : wr = (d.writes : Int)) (hf : fuseR After Torn d.fuse) (ht : -9223372036854775808 ≤ Torn ∧ Torn ≤ 9223372036854775807) : Rv w w.heap.size (.agg #[.slice A n c, .int .i64 After, .int .i64 Torn, .bool dead, .int .i64 wr]) d := by
  subst hn hd hw; exact ⟨A, c, After, Torn, rfl, hs, hf, ht⟩
-- what stands ahead of the write proper: refused, or of a wrong length
set_option maxRecDepth 100000 in
theorem rwrite_bad {w : World} {v : Value} {d : Dv} {i : Int} {m : List UInt8} (h : Rv w w.heap.size v d) (hok : d.ok) (hbad : d.can i ≠ 0 ∨ m.length ≠ 64) :
    Calls Try.prog 42 #[v, .int .i64 i, .string (bsA m)] w (RPost w d (if d.can i ≠ 0 then d.can i else 2)) := by
  have hcall : ∀ w', Below w.heap.size w w' → Calls Try.prog 43 #[v, .int .i64 i] w' fun e w'' => ∃ x, e = .returned (.tuple #[.string x, .int .i64 (d.can i)]) ∧ Below w'.heap.size w' w'' := fun w' hb => (rread_any (h.below hb) hok i).mono fun e w'' ⟨h1, h2⟩ => ⟨_, h1, h2⟩
  obtain ⟨A, c, After, Torn, rfl, hs, hf, ht⟩ := id h
  have HH := Lib.hid h
  clear hs hf hok h
  have hw2 := wW_below w #[.slice A d.n c, .int .i64 After, .int .i64 Torn, .bool d.dead, .int .i64 (d.writes : Int)]
  have hc := hcall _ hw2
  have hsz := wW_size w #[.slice A d.n c, .int .i64 After, .int .i64 Torn, .bool d.dead, .int .i64 (d.writes : Int)]
  have hR := wW_0 w #[.slice A d.n c, .int .i64 After, .int .i64 Torn, .bool d.dead, .int .i64 (d.writes : Int)]
  have hD := wW_1 w #[.slice A d.n c, .int .i64 After, .int .i64 Torn, .bool d.dead, .int .i64 (d.writes : Int)]
  have hE : ∀ w', Below w.heap.size w w' → Rv w' w'.heap.size (.agg #[.slice A d.n c, .int .i64 After, .int .i64 Torn, .bool d.dead, .int .i64 (d.writes : Int)]) d := fun w' hb => (HH.out.below hb).heap
  have HE := Lib.hid hE
  clear hcall HH hE
  have hms : (bsA m).size = m.length := bsA_size m
  generalize bsA m = ms at *
  obtain ⟨z, hz⟩ : ∃ z, z = d.can i := ⟨_, rfl⟩
  rw [← hz] at hc hbad ⊢
  generalize d.n = n at *
  generalize d.dead = dead at *
  generalize hwr : (d.writes : Int) = wr at *
  by_cases h0 : z = 0
  · subst h0
    rw [if_neg (by simp)]
    have h64 := hbad.resolve_left (by simp)
    have e64 : ((m.length : Int) == 64) = false := by rw [beq_eq_false_iff_ne]; omega
    have e64' : ((m.length : Int) != 64) = true := by simp; omega
    clear hbad hz h64
    go_enter Try.func42, Try.ntmps42
    go_wp2_with (go_at_call 43; refine hc.mono ?_; rintro e w' ⟨x, rfl, hb⟩
                 have hR' := (hb.block w.heap.size (by rw [hsz]; omega)).trans hR
                 have hD' := (hb.block (w.heap.size + 1) (by rw [hsz]; omega)).trans hD
                 have r0 : w'.cell? ⟨w.heap.size, 0, none⟩ = some (.slice A n c) := (by simp [World.cell?, hR'])
                 have r1 : w'.cell? ⟨w.heap.size, 1, none⟩ = some (.int .i64 After) := (by simp [World.cell?, hR'])
                 have r2 : w'.cell? ⟨w.heap.size, 2, none⟩ = some (.int .i64 Torn) := (by simp [World.cell?, hR'])
                 have r3 : w'.cell? ⟨w.heap.size, 3, none⟩ = some (.bool dead) := (by simp [World.cell?, hR'])
                 have r4 : w'.cell? ⟨w.heap.size, 4, none⟩ = some (.int .i64 wr) := (by simp [World.cell?, hR'])
                 have d0 : w'.cell? ⟨w.heap.size + 1, 0, none⟩ = some (.slice none 0 0) := (by simp [World.cell?, hD'])
                 have d1 : w'.cell? ⟨w.heap.size + 1, 1, none⟩ = some (.int .i64 0) := (by simp [World.cell?, hD'])
                 have d2 : w'.cell? ⟨w.heap.size + 1, 2, none⟩ = some (.int .i64 0) := (by simp [World.cell?, hD'])
                 have d3 : w'.cell? ⟨w.heap.size + 1, 3, none⟩ = some (.bool false) := (by simp [World.cell?, hD'])
                 have d4 : w'.cell? ⟨w.heap.size + 1, 4, none⟩ = some (.int .i64 0) := (by simp [World.cell?, hD'])
                 have g0 := free_of hD' 0
                 have g1 := free_of hD' 1
                 have g2 := free_of hD' 2
                 have g3 := free_of hD' 3
                 have g4 := free_of hD' 4)
    have hb' := hw2.trans (hb.mono (by rw [hsz]; omega))
    have hB := ((((hb'.setCell (p := ⟨w.heap.size + 1, 0, none⟩) (by simp) (.slice A n c)).setCell (p := ⟨w.heap.size + 1, 1, none⟩) (by simp) (.int .i64 After)).setCell (p := ⟨w.heap.size + 1, 2, none⟩) (by simp) (.int .i64 Torn)).setCell (p := ⟨w.heap.size + 1, 3, none⟩) (by simp) (.bool dead)).setCell (p := ⟨w.heap.size + 1, 4, none⟩) (by simp) (.int .i64 wr)
    refine bodyPost_ret (v := .tuple #[.agg #[.slice A n c, .int .i64 After, .int .i64 Torn, .bool dead, .int .i64 wr], .int .i64 2]) (by simp [results, Try.results42, go_sem, d0, d1, d2, d3, d4]) rfl ⟨_, rfl, HE.out _ hB, hB⟩
  · rw [if_pos h0]
    have e1 : (z == 0) = false := by rw [beq_eq_false_iff_ne]; exact h0
    have e2 : (z != 0) = true := by simp [h0]
    clear hbad hz h0
    go_enter Try.func42, Try.ntmps42
    go_wp2_with (go_at_call 43; refine hc.mono ?_; rintro e w' ⟨x, rfl, hb⟩
                 have hR' := (hb.block w.heap.size (by rw [hsz]; omega)).trans hR
                 have hD' := (hb.block (w.heap.size + 1) (by rw [hsz]; omega)).trans hD
                 have r0 : w'.cell? ⟨w.heap.size, 0, none⟩ = some (.slice A n c) := (by simp [World.cell?, hR'])
                 have r1 : w'.cell? ⟨w.heap.size, 1, none⟩ = some (.int .i64 After) := (by simp [World.cell?, hR'])
                 have r2 : w'.cell? ⟨w.heap.size, 2, none⟩ = some (.int .i64 Torn) := (by simp [World.cell?, hR'])
                 have r3 : w'.cell? ⟨w.heap.size, 3, none⟩ = some (.bool dead) := (by simp [World.cell?, hR'])
                 have r4 : w'.cell? ⟨w.heap.size, 4, none⟩ = some (.int .i64 wr) := (by simp [World.cell?, hR'])
                 have d0 : w'.cell? ⟨w.heap.size + 1, 0, none⟩ = some (.slice none 0 0) := (by simp [World.cell?, hD'])
                 have d1 : w'.cell? ⟨w.heap.size + 1, 1, none⟩ = some (.int .i64 0) := (by simp [World.cell?, hD'])
                 have d2 : w'.cell? ⟨w.heap.size + 1, 2, none⟩ = some (.int .i64 0) := (by simp [World.cell?, hD'])
                 have d3 : w'.cell? ⟨w.heap.size + 1, 3, none⟩ = some (.bool false) := (by simp [World.cell?, hD'])
                 have d4 : w'.cell? ⟨w.heap.size + 1, 4, none⟩ = some (.int .i64 0) := (by simp [World.cell?, hD'])
                 have g0 := free_of hD' 0
                 have g1 := free_of hD' 1
                 have g2 := free_of hD' 2
                 have g3 := free_of hD' 3
                 have g4 := free_of hD' 4)
    have hb' := hw2.trans (hb.mono (by rw [hsz]; omega))
    have hB := ((((hb'.setCell (p := ⟨w.heap.size + 1, 0, none⟩) (by simp) (.slice A n c)).setCell (p := ⟨w.heap.size + 1, 1, none⟩) (by simp) (.int .i64 After)).setCell (p := ⟨w.heap.size + 1, 2, none⟩) (by simp) (.int .i64 Torn)).setCell (p := ⟨w.heap.size + 1, 3, none⟩) (by simp) (.bool dead)).setCell (p := ⟨w.heap.size + 1, 4, none⟩) (by simp) (.int .i64 wr)
    refine bodyPost_ret (v := .tuple #[.agg #[.slice A n c, .int .i64 After, .int .i64 Torn, .bool dead, .int .i64 wr], .int .i64 z]) (by simp [results, Try.results42, go_sem, d0, d1, d2, d3, d4]) rfl ⟨_, rfl, HE.out _ hB, hB⟩
end Go.Proofs.Ytmcjefdnkcpghaa
