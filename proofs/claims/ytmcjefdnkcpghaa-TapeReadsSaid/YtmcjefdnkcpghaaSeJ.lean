/- THE WALK OF octroiref09.Disk.Write: no fuse. -/
import Derived.Test.YtmcjefdnkcpghaaSeI
namespace Go.Proofs.Ytmcjefdnkcpghaa
open Go.RowKit
theorem Ow.setN {α : Type} {K : Kd α} {w : World} {base g n c : Nat} {l : List α} (h : Ow K w base (.slice (some ⟨g, 0, none⟩) n c) l) {p : Addr} (hp : g ≠ p.block) (u : Value) : Ow K (w.setCell p u) base (.slice (some ⟨g, 0, none⟩) n c) l :=
  ownsRow_setCell_other h (by simpa [Value.ownBlock] using hp) u
theorem Ow.set0 {α : Type} {K : Kd α} {w : World} {base g n c : Nat} {l : List α} (h : Ow K w base (.slice (some ⟨g, 0, none⟩) n c) l) (i : Nat) (x : α) : Ow K (w.setCell ⟨g, i, none⟩ (K.enc x)) base (.slice (some ⟨g, 0, none⟩) n c) (l.set i x) := by
  have := h.set i x
  rwa [addr_mk_add, Nat.zero_add] at this
set_option maxRecDepth 100000 in
set_option maxHeartbeats 4000000 in
theorem rwrite_none {w : World} {L m : List UInt8} {n k wr : Nat} {Y : Value} {dead : Bool} {Torn : Int} (hs : Sl strK w w.heap.size (Y) (pagesS L n)) (hlen : L.length = 64 * n) (hn2 : n ≤ 4096) (hk : k < n) (h64 : m.length = 64) (hwr : wr + 1 ≤ 1000000000) (ht : -9223372036854775808 ≤ Torn ∧ Torn ≤ 9223372036854775807)
    (hc : Calls Try.prog 43 #[.agg #[Y, .int .i64 (-1), .int .i64 Torn, .bool dead, .int .i64 (wr : Int)], .int .i64 (k : Int)] (wW w #[Y, .int .i64 (-1), .int .i64 Torn, .bool dead, .int .i64 (wr : Int)]) fun e w'' => ∃ x, e = .returned (.tuple #[.string x, .int .i64 0]) ∧ Below (wW w #[Y, .int .i64 (-1), .int .i64 Torn, .bool dead, .int .i64 (wr : Int)]).heap.size (wW w #[Y, .int .i64 (-1), .int .i64 Torn, .bool dead, .int .i64 (wr : Int)]) w'') :
    Calls Try.prog 42 #[.agg #[Y, .int .i64 (-1), .int .i64 Torn, .bool dead, .int .i64 (wr : Int)], .int .i64 (k : Int), .string (bsA m)] w (RPost w ⟨n, splice L (k * 64) (m.take 64), none, dead, wr + 1⟩ 0) := by
  have hw2 := wW_below w #[Y, .int .i64 (-1), .int .i64 Torn, .bool dead, .int .i64 (wr : Int)]
  have hsz := wW_size w #[Y, .int .i64 (-1), .int .i64 Torn, .bool dead, .int .i64 (wr : Int)]
  have hR := wW_0 w #[Y, .int .i64 (-1), .int .i64 Torn, .bool dead, .int .i64 (wr : Int)]
  have hD := wW_1 w #[Y, .int .i64 (-1), .int .i64 Torn, .bool dead, .int .i64 (wr : Int)]
  have hpl : (pagesS L n).length = n := pagesS_len L n
  have HPK := Lib.hid (show (pagesS L n)[k]? = some (bsA (page L k)) from pagesS_get L n k hk)
  have HPW := Lib.hid (fun t (ht : t ≤ 64) => pagesS_write (t := t) hlen hk h64 ht)
  have HFU := Lib.hid (page_full hlen hk h64)
  have hpg := page_len hlen hk
  generalize page L k = pg at *
  generalize hps : pagesS L n = ps at *
  have HS := Lib.hid hs
  have HPS := Lib.hid hps
  have hms : (bsA m).size = 64 := by rw [bsA_size, h64]
  have hpgs : (bsA pg).size = 64 := by rw [bsA_size, hpg]
  have e64' : (((64 : Nat) : Int) != 64) = false := by simp
  have hn0 : 0 < n := by omega
  clear hs hps hlen hpg
  go_enter Try.func42, Try.ntmps42
  go_wp2_with (first
    | (go_at_call 43; refine hc.mono ?_; rintro e w' ⟨x, rfl, hb⟩
       have hb' := hw2.trans (hb.mono (by rw [hsz]; omega))
       have hR' := (hb.block w.heap.size (by rw [hsz]; omega)).trans hR
       have hD' := (hb.block (w.heap.size + 1) (by rw [hsz]; omega)).trans hD
       have r0' : w'.cell? ⟨w.heap.size, 0, none⟩ = some (Y) := (by simp [World.cell?, hR'])
       have hlt' := lt_of_block hD'
       have hlr : ([] : List ByteArray).length + ps.length ≤ 1000000000 := (by rw [hpl]; simp; omega)
       have hba : w'.heap.size ≤ (w'.alloc (.cells #[] 9)).heap.size := (by simp)
       have hb1 : w.heap.size < (w'.alloc (.cells #[] 9)).heap.size := (by simp; omega)
       have hb2 : w.heap.size + 1 < (w'.alloc (.cells #[] 9)).heap.size := (by simp; omega)
       have hown0 : Ow strK (w'.alloc (.cells #[] 9)) w'.heap.size (.slice (some ⟨w'.heap.size, 0, none⟩) 0 0) [] := ow_lit strK w' [] (by simp [maxLen])
       have HSA := Lib.hid ((HS.out.below hb').below ((Below.refl w.heap.size w').alloc (by omega) (.cells #[] 9)))
       have hRA : (w'.alloc (.cells #[] 9)).heap[w.heap.size]? = _ := (Below.heap_alloc _ _ _ (by omega)).trans hR'
       have hDA : (w'.alloc (.cells #[] 9)).heap[w.heap.size + 1]? = _ := (Below.heap_alloc _ _ _ hlt').trans hD'
       have r0A : (w'.alloc (.cells #[] 9)).cell? ⟨w.heap.size, 0, none⟩ = some (Y) := (by simp [World.cell?, hRA]))
    | (at_builtin
       refine wpList_append_sl strK (o := ⟨some 28, _, _, _, _, _⟩) _ rfl (.tmp 25) (.tmp 27) 53 rfl Try.underlying53 w'.heap.size (.slice (some ⟨w'.heap.size, 0, none⟩) 0 0) [] rfl hown0 _ (Y) ps rfl HSA.out hlr (by decide) hba ?_
       intro v5 w5 hown5 hg5 _
       rw [List.nil_append] at hown5
       have hR5 := (hg5.block w.heap.size hb1 (fun e => by simp [Value.ownBlock] at e; omega)).trans hRA
       have hD5 := (hg5.block (w.heap.size + 1) hb2 (fun e => by simp [Value.ownBlock] at e; omega)).trans hDA
       obtain ⟨g5, c5, rfl, hg5b, hc5, hc5m⟩ := hown5.pos (by rw [hpl]; exact hn0)
       rw [hpl] at hown5 hc5
       have y5 : w5.cell? ⟨g5, k, none⟩ = some (.string (bsA pg)) := hown5.at_ k _ HPK.out
       have f5 := hown5.freeze k
       have r0 : w5.cell? ⟨w.heap.size, 0, none⟩ = some (Y) := (by simp [World.cell?, hR5])
       have r1 : w5.cell? ⟨w.heap.size, 1, none⟩ = some (.int .i64 (-1)) := (by simp [World.cell?, hR5])
       have r2 : w5.cell? ⟨w.heap.size, 2, none⟩ = some (.int .i64 Torn) := (by simp [World.cell?, hR5])
       have r3 : w5.cell? ⟨w.heap.size, 3, none⟩ = some (.bool dead) := (by simp [World.cell?, hR5])
       have r4 : w5.cell? ⟨w.heap.size, 4, none⟩ = some (.int .i64 (wr : Int)) := (by simp [World.cell?, hR5])
       have d0 : w5.cell? ⟨w.heap.size + 1, 0, none⟩ = some (.slice none 0 0) := (by simp [World.cell?, hD5])
       have d1 : w5.cell? ⟨w.heap.size + 1, 1, none⟩ = some (.int .i64 0) := (by simp [World.cell?, hD5])
       have d2 : w5.cell? ⟨w.heap.size + 1, 2, none⟩ = some (.int .i64 0) := (by simp [World.cell?, hD5])
       have d3 : w5.cell? ⟨w.heap.size + 1, 3, none⟩ = some (.bool false) := (by simp [World.cell?, hD5])
       have d4 : w5.cell? ⟨w.heap.size + 1, 4, none⟩ = some (.int .i64 0) := (by simp [World.cell?, hD5])
       have f0 := free_of hR5 0
       have f1 := free_of hR5 1
       have f2 := free_of hR5 2
       have f3 := free_of hR5 3
       have f4 := free_of hR5 4
       have g0 := free_of hD5 0
       have g1 := free_of hD5 1
       have g2 := free_of hD5 2
       have g3 := free_of hD5 3
       have g4 := free_of hD5 4))
  have hn0 : g5 ≠ w.heap.size := by omega
  have hn1 : g5 ≠ w.heap.size + 1 := by omega
  have hg5w : w.heap.size ≤ g5 := by omega
  have hB5 : Below w.heap.size w w5 := (hb'.alloc hb'.size (.cells #[] 9)).grown hg5 (by simp; omega) (fun b hb => by simp [Value.ownBlock] at hb; omega)
  have hB := ((((((((hB5.setCell (p := ⟨g5, k, none⟩) hg5w (strK.enc (bsA m))).setCell (p := ⟨w.heap.size, 0, none⟩) (by simp) (.slice (some ⟨g5, 0, none⟩) n c5)).setCell (p := ⟨w.heap.size, 4, none⟩) (by simp) (.int .i64 ((wr : Int) + 1))).setCell (p := ⟨w.heap.size + 1, 0, none⟩) (by simp) (.slice (some ⟨g5, 0, none⟩) n c5)).setCell (p := ⟨w.heap.size + 1, 1, none⟩) (by simp) (.int .i64 (-1))).setCell (p := ⟨w.heap.size + 1, 2, none⟩) (by simp) (.int .i64 Torn)).setCell (p := ⟨w.heap.size + 1, 3, none⟩) (by simp) (.bool dead)).setCell (p := ⟨w.heap.size + 1, 4, none⟩) (by simp) (.int .i64 ((wr : Int) + 1)))
  have ho := (((((((hown5.set0 k (bsA m)).setN (p := ⟨w.heap.size, 0, none⟩) hn0 (.slice (some ⟨g5, 0, none⟩) n c5)).setN (p := ⟨w.heap.size, 4, none⟩) hn0 (.int .i64 ((wr : Int) + 1))).setN (p := ⟨w.heap.size + 1, 0, none⟩) hn1 (.slice (some ⟨g5, 0, none⟩) n c5)).setN (p := ⟨w.heap.size + 1, 1, none⟩) hn1 (.int .i64 (-1))).setN (p := ⟨w.heap.size + 1, 2, none⟩) hn1 (.int .i64 Torn)).setN (p := ⟨w.heap.size + 1, 3, none⟩) hn1 (.bool dead)).setN (p := ⟨w.heap.size + 1, 4, none⟩) hn1 (.int .i64 ((wr : Int) + 1))
  have hsl := ho.sls
  rw [show ps.set k (bsA m) = pagesS (splice L (k * 64) (m.take 64)) n from (by rw [← HPW.out 64 (Nat.le_refl _), HFU.out])] at hsl
  refine bodyPost_ret (v := .tuple #[.agg #[.slice (some ⟨g5, 0, none⟩) n c5, .int .i64 (-1), .int .i64 Torn, .bool dead, .int .i64 ((wr : Int) + 1)], .int .i64 0]) (by simp [results, Try.results42, go_sem, d0, d1, d2, d3, d4]) rfl ⟨_, rfl, Rv.of hsl rfl rfl (by simp) rfl ht, hB⟩
end Go.Proofs.Ytmcjefdnkcpghaa
