/- WHAT STANDS BETWEEN TWO CALLS OF SectorTorn. -/
import Derived.Test.YtmcjefdnkcpghaaSeR
namespace Go.Proofs.Ytmcjefdnkcpghaa
open Go.RowKit
/-- the disk g, all of whose blocks are newer than the world w5; what was in w5 is as it was -/
structure Tp (w5 : World) (g : Nat) (d : Dv) (w : World) : Prop where
  dk : ∃ Z, Dk w Z g d ∧ ∀ b, Z b → w5.heap.size ≤ b ∧ b < w.heap.size
  below : Below w5.heap.size w5 w
theorem Tp.grow {w5 w w' : World} {g : Nat} {d : Dv} (h : Tp w5 g d w) (hb : Below w.heap.size w w') : Tp w5 g d w' := by
  obtain ⟨Z, h1, h2⟩ := h.dk
  exact ⟨⟨Z, h1.below hb, fun b hz => ⟨(h2 b hz).1, Nat.lt_of_lt_of_le (h2 b hz).2 hb.size⟩⟩, h.below.trans (hb.mono h.below.size)⟩
def TpPost (w5 : World) (g : Nat) (d : Dv) (r : Int) (e : Ending) (w' : World) : Prop := e = .returned (.int .i64 r) ∧ Tp w5 g d w'
theorem tp_write {w5 w : World} {g : Nat} {d : Dv} (h : Tp w5 g d w) (i : Int) {B : Nat} {v : Value} {m : List UInt8} (hv : Byt w B v m) (hw : d.writes + 1 ≤ 1000000000) {d' : Dv} {r : Int} (he : d.write i m = (d', r)) :
    Calls Try.prog 35 #[.pointer (some ⟨g, 0, none⟩), .int .i64 i, v] w (TpPost w5 g d' r) := by
  obtain ⟨Z, h1, h2⟩ := h.dk
  have hh := write_any h1 i hv hw
  rw [he] at hh
  refine hh.mono fun e w' ⟨h3, h4, h5⟩ => ⟨h3, ⟨Z, h4, fun b hz => ⟨(h2 b hz).1, Nat.lt_of_lt_of_le (h2 b hz).2 h5.size⟩⟩, ?_⟩
  exact h.below.trans (h5.lo (fun b hz => (h2 b hz).1) h.below.size)
theorem tp_fuse {w5 w : World} {g : Nat} {d : Dv} (h : Tp w5 g d w) (a t : Int) (ha : a ≤ 9223372036854775807) {d' : Dv} {r : Int} (he : d.fuses a t = (d', r)) :
    Calls Try.prog 37 #[.pointer (some ⟨g, 0, none⟩), .int .i64 a, .int .i64 t] w (TpPost w5 g d' r) := by
  obtain ⟨Z, h1, h2⟩ := h.dk
  have hh := fuse_any h1 a t ha
  rw [he] at hh
  refine hh.mono fun e w' ⟨h3, h4, h5⟩ => ⟨h3, ⟨_, h4, fun b hz => ?_⟩, ?_⟩
  · rcases hz with hz | hz
    · exact ⟨(h2 b hz).1, Nat.lt_of_lt_of_le (h2 b hz).2 h5.size⟩
    · exact ⟨Nat.le_trans h.below.size hz.1, hz.2⟩
  · exact h.below.trans (h5.lo (fun b hz => (h2 b hz).1) h.below.size)
theorem tp_writes {w5 w : World} {g : Nat} {d : Dv} (h : Tp w5 g d w) : Calls Try.prog 38 #[.pointer (some ⟨g, 0, none⟩)] w fun e w' => e = .returned (.int .i64 (d.writes : Int)) ∧ w = w' := by
  obtain ⟨Z, h1, h2⟩ := h.dk
  exact swrites_any h1
theorem tp_new {w : World} (n : Nat) (h1 : 1 ≤ n) (h2 : n ≤ 4096) : Calls Try.prog 34 #[.int .i64 (n : Int)] w fun e w' => ∃ g, e = .returned (.pointer (some ⟨g, 0, none⟩)) ∧ Tp w g (Dv.new n) w' :=
  (new_any n h1 h2 w).mono fun _ _ ⟨g, he, hd, hb⟩ => ⟨g, he, ⟨_, hd, fun _ hz => hz⟩, hb⟩
theorem tp_read_dead {w5 w : World} {g : Nat} {d : Dv} (h : Tp w5 g d w) (hd : d.dead = true) (i : Int) : Calls Try.prog 39 #[.pointer (some ⟨g, 0, none⟩), .int .i64 i] w fun e w' => ∃ r, e = .returned (.tuple #[r, .int .i64 32]) ∧ Below w.heap.size w w' := by
  obtain ⟨Z, h1, h2⟩ := h.dk
  refine (read_any h1 i).mono fun e w' ⟨r, he, _, hb⟩ => ⟨r, ?_, hb⟩
  rw [he, show d.can i = 32 from by unfold Dv.can; rw [if_pos hd]]
def fl (b : UInt8) : List UInt8 := List.replicate 64 b
/-- k sectors have been written -/
structure Laid (N : Nat) (a : UInt8) (k : Nat) (d : Dv) : Prop where
  n : d.n = N
  len : d.L.length = 64 * N
  fuse : d.fuse = none
  dead : d.dead = false
  writes : d.writes = k
  pages : ∀ j, j < k → page d.L j = fl (a + UInt8.ofNat j)
theorem Laid.start (N : Nat) (a : UInt8) : Laid N a 0 (Dv.new N) := ⟨rfl, by simp [Dv.new], rfl, rfl, rfl, fun j hj => absurd hj (by omega)⟩
theorem fl_len (b : UInt8) : (fl b).length = 64 := by simp [fl]
theorem Laid.next {N k : Nat} {a : UInt8} {d : Dv} (h : Laid N a k d) (hk : k < N) : ∃ d', d.write (k : Int) (fl (a + UInt8.ofNat k)) = (d', 0) ∧ Laid N a (k + 1) d' := by
  have hcan : d.can (k : Int) = 0 := by
    unfold Dv.can
    rw [if_neg (by simp [h.dead]), if_neg (by rw [h.n]; omega)]
  refine ⟨_, by unfold Dv.write; rw [if_neg (by simp [hcan]), if_neg (by simp [fl_len]), h.fuse], ?_⟩
  have hl : d.L.length = 64 * N := h.len
  refine ⟨h.n, ?_, rfl, h.dead, by show d.writes + 1 = k + 1; rw [h.writes], fun j hj => ?_⟩
  · show (splice d.L (Int.toNat k * 64) _).length = _
    rw [length_splice _ _ _ (by rw [List.length_take, fl_len, Int.toNat_natCast]; omega)]; exact hl
  · show page (splice d.L (Int.toNat k * 64) _) j = _
    rw [Int.toNat_natCast]
    by_cases hjk : j = k
    · subst hjk
      rw [page_splice_same hl hk (fl_len _) (Nat.le_refl _), page_full hl hk (fl_len _)]
    · rw [page_splice_other hl hk (fl_len _) (Nat.le_refl _) hjk]
      exact h.pages j (by omega)
/-- behind the fuse was set: k more writes have been done -/
structure Lit (N after torn : Nat) (a : UInt8) (k : Nat) (d : Dv) : Prop where
  n : d.n = N
  len : d.L.length = 64 * N
  fuse : d.fuse = some (after - k, torn)
  dead : d.dead = false
  writes : d.writes = N + k
  pages : ∀ j, j < N → page d.L j = fl (a + UInt8.ofNat j)
theorem Laid.lit {N after torn : Nat} {a : UInt8} {d : Dv} (h : Laid N a N d) (ht : torn ≤ 64) : ∃ d', d.fuses (after : Int) (torn : Int) = (d', 0) ∧ Lit N after torn a 0 d' := by
  refine ⟨_, by unfold Dv.fuses; rw [if_neg (by omega)], ?_⟩
  exact ⟨h.n, h.len, by simp, h.dead, h.writes, h.pages⟩
theorem Lit.next {N after torn k i : Nat} {a : UInt8} {d : Dv} (h : Lit N after torn a k d) (hi : i < N) (hk : k < after) : ∃ d', d.write (i : Int) (fl (a + UInt8.ofNat i)) = (d', 0) ∧ Lit N after torn a (k + 1) d' := by
  have hcan : d.can (i : Int) = 0 := by
    unfold Dv.can
    rw [if_neg (by simp [h.dead]), if_neg (by rw [h.n]; omega)]
  have hl : d.L.length = 64 * N := h.len
  obtain ⟨f, hf⟩ : ∃ f, after - k = f + 1 := ⟨after - k - 1, by omega⟩
  refine ⟨_, by unfold Dv.write; rw [if_neg (by simp [hcan]), if_neg (by simp [fl_len]), h.fuse, hf], ?_⟩
  refine ⟨h.n, ?_, by show some (f, torn) = some (after - (k + 1), torn); rw [show after - (k + 1) = f by omega], h.dead, by show d.writes + 1 = N + (k + 1); rw [h.writes]; omega, fun j hj => ?_⟩
  · show (splice d.L (Int.toNat i * 64) _).length = _
    rw [length_splice _ _ _ (by rw [List.length_take, fl_len, Int.toNat_natCast]; omega)]; exact hl
  · show page (splice d.L (Int.toNat i * 64) _) j = _
    rw [Int.toNat_natCast]
    by_cases hjk : j = i
    · subst hjk
      rw [page_splice_same hl hi (fl_len _) (Nat.le_refl _), page_full hl hi (fl_len _)]
    · rw [page_splice_other hl hi (fl_len _) (Nat.le_refl _) hjk]
      exact h.pages j hj
/-- what stands behind the torn write -/
structure Torn (N after torn i : Nat) (a b : UInt8) (d : Dv) : Prop where
  n : d.n = N
  dead : d.dead = true
  writes : d.writes = N + after
  pages : ∀ j, j < N → page d.L j = if j = i then (fl b).take torn ++ (fl (a + UInt8.ofNat j)).drop torn else fl (a + UInt8.ofNat j)
theorem Lit.torn {N after torn i : Nat} {a b : UInt8} {d : Dv} (h : Lit N after torn a after d) (hi : i < N) (ht : torn ≤ 64) : ∃ d', d.write (i : Int) (fl b) = (d', 32) ∧ Torn N after torn i a b d' := by
  have hcan : d.can (i : Int) = 0 := by
    unfold Dv.can
    rw [if_neg (by simp [h.dead]), if_neg (by rw [h.n]; omega)]
  have hl : d.L.length = 64 * N := h.len
  refine ⟨_, by unfold Dv.write; rw [if_neg (by simp [hcan]), if_neg (by simp [fl_len]), h.fuse, Nat.sub_self], ?_⟩
  refine ⟨h.n, rfl, h.writes, fun j hj => ?_⟩
  show page (splice d.L (Int.toNat i * 64) _) j = _
  rw [Int.toNat_natCast]
  by_cases hjk : j = i
  · subst hjk
    rw [page_splice_same hl hi (fl_len _) ht, h.pages j hj, if_pos rfl]
  · rw [page_splice_other hl hi (fl_len _) ht hjk, if_neg hjk]
    exact h.pages j hj
theorem Torn.again {N after torn i : Nat} {a b : UInt8} {d : Dv} (h : Torn N after torn i a b d) (m : List UInt8) (k : Int) : d.write k m = (d, 32) := by
  have hcan : d.can k = 32 := by unfold Dv.can; rw [if_pos h.dead]
  unfold Dv.write
  rw [if_pos (by simp [hcan]), hcan]
end Go.Proofs.Ytmcjefdnkcpghaa
