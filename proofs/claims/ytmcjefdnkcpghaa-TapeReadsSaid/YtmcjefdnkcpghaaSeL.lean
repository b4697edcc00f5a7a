/- THE WALK OF octroiref09.Disk.Write: a fuse that burns out; all. -/
import Derived.Test.YtmcjefdnkcpghaaSeK
namespace Go.Proofs.Ytmcjefdnkcpghaa
open Go.RowKit
theorem extr_bsA (l : List UInt8) (a b : Nat) : (bsA l).extract a b = bsA ((l.drop a).take (b - a)) := by
  have := bsA_list l
  apply ByteArray.ext
  apply Array.toList_inj.1
  simp [bsA, ByteArray.data_extract, List.take_drop]
theorem bsA_app (l m : List UInt8) : bsA l ++ bsA m = bsA (l ++ m) := by
  apply ByteArray.ext
  apply Array.toList_inj.1
  simp [bsA, ByteArray.data_append]
set_option maxRecDepth 100000 in
set_option maxHeartbeats 4000000 in
theorem rwrite_torn {w : World} {L m : List UInt8} {n k wr : Nat} {Y : Value} {dead : Bool} {t : Nat} (hs : Sl strK w w.heap.size (Y) (pagesS L n)) (hlen : L.length = 64 * n) (hn2 : n ≤ 4096) (hk : k < n) (h64 : m.length = 64) (_hwr : wr + 1 ≤ 1000000000) (ht : t ≤ 64)
    (hc : Calls Try.prog 43 #[.agg #[Y, .int .i64 0, .int .i64 (t : Int), .bool dead, .int .i64 (wr : Int)], .int .i64 (k : Int)] (wW w #[Y, .int .i64 0, .int .i64 (t : Int), .bool dead, .int .i64 (wr : Int)]) fun e w'' => ∃ x, e = .returned (.tuple #[.string x, .int .i64 0]) ∧ Below (wW w #[Y, .int .i64 0, .int .i64 (t : Int), .bool dead, .int .i64 (wr : Int)]).heap.size (wW w #[Y, .int .i64 0, .int .i64 (t : Int), .bool dead, .int .i64 (wr : Int)]) w'') :
    Calls Try.prog 42 #[.agg #[Y, .int .i64 0, .int .i64 (t : Int), .bool dead, .int .i64 (wr : Int)], .int .i64 (k : Int), .string (bsA m)] w (RPost w ⟨n, splice L (k * 64) (m.take t), none, true, wr⟩ 32) := by
  have hw2 := wW_below w #[Y, .int .i64 0, .int .i64 (t : Int), .bool dead, .int .i64 (wr : Int)]
  have hsz := wW_size w #[Y, .int .i64 0, .int .i64 (t : Int), .bool dead, .int .i64 (wr : Int)]
  have hR := wW_0 w #[Y, .int .i64 0, .int .i64 (t : Int), .bool dead, .int .i64 (wr : Int)]
  have hD := wW_1 w #[Y, .int .i64 0, .int .i64 (t : Int), .bool dead, .int .i64 (wr : Int)]
  have hpl : (pagesS L n).length = n := pagesS_len L n
  have HPK := Lib.hid (show (pagesS L n)[k]? = some (bsA (page L k)) from pagesS_get L n k hk)
  have HPW := Lib.hid (fun t (ht : t ≤ 64) => pagesS_write (t := t) hlen hk h64 ht)
  have HFU := Lib.hid (page_full hlen hk h64)
  have hpg := page_len hlen hk
  generalize page L k = pg at *
  generalize hps : pagesS L n = ps at *
  have HS := Lib.hid hs
  have HPS := Lib.hid hps
  have hms : (bsA m).size = 64 := by rw [bsA_size, h64]
  have hpgs : (bsA pg).size = 64 := by rw [bsA_size, hpg]
  have e64' : (((64 : Nat) : Int) != 64) = false := by simp
  have hn0 : 0 < n := by omega
  clear hs hps hlen hpg
  have ht0 : (0 : Int) ≤ (t : Int) := by omega
  have ht64 : (t : Int) ≤ 64 := by omega
  have HX := Lib.hid (show (bsA m).extract 0 t ++ (bsA pg).extract t 64 = bsA (m.take t ++ pg.drop t) from by rw [extr_bsA, extr_bsA, bsA_app, List.drop_zero, Nat.sub_zero, List.take_of_length_le (l := pg.drop t) (by rw [List.length_drop]; have := bsA_size pg; omega)])
  go_enter Try.func42, Try.ntmps42
  go_wp2_with (first
    | (go_at_call 43; refine hc.mono ?_; rintro e w' ⟨x, rfl, hb⟩
       have hb' := hw2.trans (hb.mono (by rw [hsz]; omega))
       have hR' := (hb.block w.heap.size (by rw [hsz]; omega)).trans hR
       have hD' := (hb.block (w.heap.size + 1) (by rw [hsz]; omega)).trans hD
       have r0' : w'.cell? ⟨w.heap.size, 0, none⟩ = some (Y) := (by simp [World.cell?, hR'])
       have hlt' := lt_of_block hD'
       have hlr : ([] : List ByteArray).length + ps.length ≤ 1000000000 := (by rw [hpl]; simp; omega)
       have hba : w'.heap.size ≤ (w'.alloc (.cells #[] 9)).heap.size := (by simp)
       have hb1 : w.heap.size < (w'.alloc (.cells #[] 9)).heap.size := (by simp; omega)
       have hb2 : w.heap.size + 1 < (w'.alloc (.cells #[] 9)).heap.size := (by simp; omega)
       have hown0 : Ow strK (w'.alloc (.cells #[] 9)) w'.heap.size (.slice (some ⟨w'.heap.size, 0, none⟩) 0 0) [] := ow_lit strK w' [] (by simp [maxLen])
       have HSA := Lib.hid ((HS.out.below hb').below ((Below.refl w.heap.size w').alloc (by omega) (.cells #[] 9)))
       have hRA : (w'.alloc (.cells #[] 9)).heap[w.heap.size]? = _ := (Below.heap_alloc _ _ _ (by omega)).trans hR'
       have hDA : (w'.alloc (.cells #[] 9)).heap[w.heap.size + 1]? = _ := (Below.heap_alloc _ _ _ hlt').trans hD'
       have r0A : (w'.alloc (.cells #[] 9)).cell? ⟨w.heap.size, 0, none⟩ = some (Y) := (by simp [World.cell?, hRA]))
    | (at_builtin
       refine wpList_append_sl strK (o := ⟨some 28, _, _, _, _, _⟩) _ rfl (.tmp 25) (.tmp 27) 53 rfl Try.underlying53 w'.heap.size (.slice (some ⟨w'.heap.size, 0, none⟩) 0 0) [] rfl hown0 _ (Y) ps rfl HSA.out hlr (by decide) hba ?_
       intro v5 w5 hown5 hg5 _
       rw [List.nil_append] at hown5
       have hR5 := (hg5.block w.heap.size hb1 (fun e => by simp [Value.ownBlock] at e; omega)).trans hRA
       have hD5 := (hg5.block (w.heap.size + 1) hb2 (fun e => by simp [Value.ownBlock] at e; omega)).trans hDA
       obtain ⟨g5, c5, rfl, hg5b, hc5, hc5m⟩ := hown5.pos (by rw [hpl]; exact hn0)
       rw [hpl] at hown5 hc5
       have y5 : w5.cell? ⟨g5, k, none⟩ = some (.string (bsA pg)) := hown5.at_ k _ HPK.out
       have f5 := hown5.freeze k
       have r0 : w5.cell? ⟨w.heap.size, 0, none⟩ = some (Y) := (by simp [World.cell?, hR5])
       have r1 : w5.cell? ⟨w.heap.size, 1, none⟩ = some (.int .i64 0) := (by simp [World.cell?, hR5])
       have r2 : w5.cell? ⟨w.heap.size, 2, none⟩ = some (.int .i64 (t : Int)) := (by simp [World.cell?, hR5])
       have r3 : w5.cell? ⟨w.heap.size, 3, none⟩ = some (.bool dead) := (by simp [World.cell?, hR5])
       have r4 : w5.cell? ⟨w.heap.size, 4, none⟩ = some (.int .i64 (wr : Int)) := (by simp [World.cell?, hR5])
       have d0 : w5.cell? ⟨w.heap.size + 1, 0, none⟩ = some (.slice none 0 0) := (by simp [World.cell?, hD5])
       have d1 : w5.cell? ⟨w.heap.size + 1, 1, none⟩ = some (.int .i64 0) := (by simp [World.cell?, hD5])
       have d2 : w5.cell? ⟨w.heap.size + 1, 2, none⟩ = some (.int .i64 0) := (by simp [World.cell?, hD5])
       have d3 : w5.cell? ⟨w.heap.size + 1, 3, none⟩ = some (.bool false) := (by simp [World.cell?, hD5])
       have d4 : w5.cell? ⟨w.heap.size + 1, 4, none⟩ = some (.int .i64 0) := (by simp [World.cell?, hD5])
       have f0 := free_of hR5 0
       have f1 := free_of hR5 1
       have f2 := free_of hR5 2
       have f3 := free_of hR5 3
       have f4 := free_of hR5 4
       have g0 := free_of hD5 0
       have g1 := free_of hD5 1
       have g2 := free_of hD5 2
       have g3 := free_of hD5 3
       have g4 := free_of hD5 4))
  go_still_tail 15, (by kernel_rfl)
  go_wp2
  rw [HX.out]
  have hn0 : g5 ≠ w.heap.size := by omega
  have hn1 : g5 ≠ w.heap.size + 1 := by omega
  have hg5w : w.heap.size ≤ g5 := by omega
  have hB5 : Below w.heap.size w w5 := (hb'.alloc hb'.size (.cells #[] 9)).grown hg5 (by simp; omega) (fun b hb => by simp [Value.ownBlock] at hb; omega)
  have hB := ((((((hB5.setCell (p := ⟨g5, k, none⟩) hg5w (strK.enc (bsA (m.take t ++ pg.drop t)))).setCell (p := ⟨w.heap.size + 1, 0, none⟩) (by simp) (.slice (some ⟨g5, 0, none⟩) n c5)).setCell (p := ⟨w.heap.size + 1, 1, none⟩) (by simp) (.int .i64 (-1))).setCell (p := ⟨w.heap.size + 1, 2, none⟩) (by simp) (.int .i64 0)).setCell (p := ⟨w.heap.size + 1, 3, none⟩) (by simp) (.bool true)).setCell (p := ⟨w.heap.size + 1, 4, none⟩) (by simp) (.int .i64 (wr : Int)))
  have ho := (((((hown5.set0 k (bsA (m.take t ++ pg.drop t))).setN (p := ⟨w.heap.size + 1, 0, none⟩) hn1 (.slice (some ⟨g5, 0, none⟩) n c5)).setN (p := ⟨w.heap.size + 1, 1, none⟩) hn1 (.int .i64 (-1))).setN (p := ⟨w.heap.size + 1, 2, none⟩) hn1 (.int .i64 0)).setN (p := ⟨w.heap.size + 1, 3, none⟩) hn1 (.bool true)).setN (p := ⟨w.heap.size + 1, 4, none⟩) hn1 (.int .i64 (wr : Int))
  have hsl := ho.sls
  rw [HPW.out t ht] at hsl
  refine bodyPost_ret (v := .tuple #[.agg #[.slice (some ⟨g5, 0, none⟩) n c5, .int .i64 (-1), .int .i64 0, .bool true, .int .i64 (wr : Int)], .int .i64 32]) (by simp [results, Try.results42, go_sem, d0, d1, d2, d3, d4]) rfl ⟨_, rfl, Rv.of hsl.drew.heap rfl rfl rfl rfl (by omega), hB.drew⟩
theorem rwrite_any {w : World} {v : Value} {B : Nat} {d : Dv} (h : Rv w B v d) (hok : d.ok) (hw : d.writes + 1 ≤ 1000000000) (i : Int) {m : List UInt8} :
    Calls Try.prog 42 #[v, .int .i64 i, .string (bsA m)] w (RPost w (d.write i m).1 (d.write i m).2) := by
  have h' := h.heap
  by_cases hz : d.can i = 0
  · by_cases h64 : m.length = 64
    · have hwr : d.write i m = (match d.fuse with
        | some (0, t) => ({ d with L := splice d.L (i.toNat * 64) (m.take t), fuse := none, dead := true }, 32)
        | some (a + 1, t) => ({ d with L := splice d.L (i.toNat * 64) (m.take 64), fuse := some (a, t), writes := d.writes + 1 }, 0)
        | none => ({ d with L := splice d.L (i.toNat * 64) (m.take 64), writes := d.writes + 1 }, 0)) := by
        unfold Dv.write; rw [if_neg (by simp [hz]), if_neg (by simp [h64])]; rfl
      obtain ⟨hi0, hi1, hdead⟩ := can_zero hz
      rw [hwr]
      obtain ⟨k, rfl⟩ : ∃ k : Nat, i = (k : Int) := ⟨i.toNat, by omega⟩
      rw [Int.toNat_natCast]
      have hcall : ∀ w', Below w.heap.size w w' → Calls Try.prog 43 #[v, .int .i64 (k : Int)] w' fun e w'' => ∃ x, e = .returned (.tuple #[.string x, .int .i64 0]) ∧ Below w'.heap.size w' w'' := fun w' hb => (rread_any (h'.below hb) hok (k : Int)).mono fun e w'' ⟨h1, h2⟩ => ⟨_, (by rw [← hz]; exact h1), h2⟩
      obtain ⟨n, L, fus, dead, wr⟩ := d
      obtain ⟨A, c, After, Torn, rfl, hs, hf, ht⟩ := id h'
      have hc := hcall _ (wW_below w #[.slice A n c, .int .i64 After, .int .i64 Torn, .bool dead, .int .i64 (wr : Int)])
      have hl := hok.len
      have hn2 := hok.n2
      simp only at hw hi1 hl hn2 hs
      have hkn : k < n := by omega
      cases fus with
      | none =>
        obtain rfl : After = -1 := hf
        exact rwrite_none hs.1 hl hn2 hkn h64 hw ht hc
      | some p =>
        obtain ⟨a, t⟩ := p
        obtain ⟨h1, h2⟩ := hf
        have hfu := hok.fus a t rfl
        cases a with
        | zero =>
          subst h1 h2
          exact rwrite_torn hs.1 hl hn2 hkn h64 hw hfu.2 hc
        | succ a =>
          exact rwrite_dec hs.1 hl hn2 hkn h64 hw ⟨h2, hfu.2⟩ (by rw [h1]; omega) (by omega) (by omega) hc
    · have hwr : d.write i m = (d, 2) := by unfold Dv.write; rw [if_neg (by simp [hz]), if_pos h64]
      rw [hwr]
      have := rwrite_bad h' hok (i := i) (m := m) (.inr h64)
      rwa [if_neg (by simp [hz])] at this
  · have hwr : d.write i m = (d, d.can i) := by unfold Dv.write; rw [if_pos hz]
    rw [hwr]
    have := rwrite_bad h' hok (i := i) (m := m) (.inl hz)
    rwa [if_pos hz] at this
end Go.Proofs.Ytmcjefdnkcpghaa
