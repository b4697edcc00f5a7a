/- THE WALK OF BlobNobody. -/
import Derived.Test.YtnmiodjkomgfcaaNob
import Derived.Test.YtnmiodjkomgfcaaLiv5
namespace Go.Proofs.Ytnmiodjkomgfcaa
open Go.RowKit
def LawPostN (w : World) (e : Ending) (w' : World) : Prop := e = .returned (.bool true) ∧ Below w.heap.size w w'
theorem heap3 (w : World) (a b c : Obj) : (((w.alloc a).alloc b).alloc c).heap[w.heap.size]? = some a ∧ (((w.alloc a).alloc b).alloc c).heap[w.heap.size + 1]? = some b ∧ (((w.alloc a).alloc b).alloc c).heap[w.heap.size + 1 + 1]? = some c := by
  refine ⟨?_, ?_, ?_⟩
  · rw [Below.heap_alloc _ _ _ (by simp; omega), Below.heap_alloc _ _ _ (by simp)]; exact heap_alloc_new w a
  · rw [Below.heap_alloc _ _ _ (by simp)]
    have := heap_alloc_new (w.alloc a) b
    simpa using this
  · have := heap_alloc_new ((w.alloc a).alloc b) c
    simpa using this
theorem heap2 (w : World) (b c : Obj) : ((w.alloc b).alloc c).heap[w.heap.size]? = some b ∧ ((w.alloc b).alloc c).heap[w.heap.size + 1]? = some c := by
  refine ⟨?_, ?_⟩
  · rw [Below.heap_alloc _ _ _ (by simp)]; exact heap_alloc_new w b
  · have := heap_alloc_new (w.alloc b) c
    simpa using this
theorem cellOf {w : World} {b : Nat} {cs : Array Value} {t : TypeId} {fr : Nat × Nat} (h : w.heap[b]? = some (.cells cs t fr)) (i : Nat) (v : Value) (hi : cs[i]? = some v) : w.cell? ⟨b, i, none⟩ = some v := by
  simp [World.cell?, h, hi]
set_option maxRecDepth 100000 in
set_option maxHeartbeats 8000000 in
theorem blobNobody_walk (o : Opv) (hok : o.ok) {w : World} : Calls Try.prog 6 #[o.val] w (LawPostN w) := by
  obtain ⟨kind, n, t, b⟩ := o
  have hsl := hok.sl
  simp only at hsl
  clear hok
  unfold Opv.val
  unfold maxLen at hsl
  by_cases hbig : 5000 < t.size
  · go_enter Try.func6, Try.ntmps6
    go_wp2_with (go_at_call 9; refine (lives_any _).mono ?_; rintro e w9 ⟨rfl, hb9⟩)
    go_ret
    exact ⟨rfl, ((Below.refl _ _).alloc (Nat.le_refl _) _).trans (hb9.mono (by simp))⟩
  · go_enter Try.func6, Try.ntmps6
    go_wp2
    obtain ⟨W, hW⟩ : ∃ W, W = ((w.alloc (.cells #[.int .i64 kind, .int .i64 n, .string t, .bool b] 29)).alloc (.cells #[.slice none 0 0, .bool false, .bool false] 49)).alloc (.cells #[.pointer none, .pointer (some ⟨w.heap.size + 1, 0, none⟩)] 25) := ⟨_, rfl⟩
    have b1 : Below w.heap.size w W := by rw [hW]; exact (((Below.refl _ _).alloc (Nat.le_refl _) _).alloc (by simp) _).alloc (by simp; omega) _
    have hh := heap3 w (.cells #[.int .i64 kind, .int .i64 n, .string t, .bool b] 29) (.cells #[.slice none 0 0, .bool false, .bool false] 49) (.cells #[.pointer none, .pointer (some ⟨w.heap.size + 1, 0, none⟩)] 25)
    rw [← hW] at hh ⊢
    obtain ⟨hh0, hh1, hh2⟩ := hh
    clear hW
    have o1 : W.cell? ⟨w.heap.size, 1, none⟩ = some (.int .i64 n) := cellOf hh0 1 _ rfl
    have o2 : W.cell? ⟨w.heap.size, 2, none⟩ = some (.string t) := cellOf hh0 2 _ rfl
    have o3 : W.cell? ⟨w.heap.size, 3, none⟩ = some (.bool b) := cellOf hh0 3 _ rfl
    have p0 : W.cell? ⟨w.heap.size + 1 + 1, 0, none⟩ = some (.pointer none) := cellOf hh2 0 _ rfl
    have p1 : W.cell? ⟨w.heap.size + 1 + 1, 1, none⟩ = some (.pointer (some ⟨w.heap.size + 1, 0, none⟩)) := cellOf hh2 1 _ rfl
    have nb0 : Nob W (.pointer none) := .inl rfl
    have nb1 : Nob W (.pointer (some ⟨w.heap.size + 1, 0, none⟩)) := .inr ⟨_, rfl, cellOf hh1 1 _ rfl⟩
    clear hh0 hh1 hh2
    go_loopg [21] 2 (fun gk x wr => W = wr ∧ ∃ k : Nat, k ≤ 2 ∧ gk = 2 - k ∧ x = .int .i64 (k : Int))
    case atStart => exact ⟨rfl, 0, by omega, rfl, rfl⟩
    case round =>
      obtain ⟨rfl, k, hk, hgk, rfl⟩ := hrel
      have HG := Lib.hid hgk
      clear hgk
      rcases (show k = 0 ∨ k = 1 ∨ k = 2 by omega) with rfl | rfl | rfl
      · go_wp2_with (first
          | (go_at_call 13; refine (bytes_nob nb0).mono ?_; rintro e w' ⟨rfl, rfl⟩)
          | (go_at_call 25; refine (num_nob n nb0).mono ?_; rintro e w' ⟨rfl, rfl⟩)
          | (go_at_call 26; refine (text_nob t nb0).mono ?_; rintro e w' ⟨rfl, rfl⟩)
          | (go_at_call 27; refine (flag_nob b nb0).mono ?_; rintro e w' ⟨rfl, rfl⟩))
        go_roundg 1
        case measure => have := HG.out; omega
        case rel => exact ⟨rfl, 1, by omega, rfl, rfl⟩
      · go_wp2_with (first
          | (go_at_call 13; refine (bytes_nob nb1).mono ?_; rintro e w' ⟨rfl, rfl⟩)
          | (go_at_call 25; refine (num_nob n nb1).mono ?_; rintro e w' ⟨rfl, rfl⟩)
          | (go_at_call 26; refine (text_nob t nb1).mono ?_; rintro e w' ⟨rfl, rfl⟩)
          | (go_at_call 27; refine (flag_nob b nb1).mono ?_; rintro e w' ⟨rfl, rfl⟩))
        go_roundg 0
        case measure => have := HG.out; omega
        case rel => exact ⟨rfl, 2, by omega, rfl, rfl⟩
      · go_wp2
        obtain ⟨V, hV⟩ : ∃ V, V = (W.alloc (.cells #[.slice none 0 0, .bool false, .bool false] 55)).alloc (.cells #[.pointer none, .pointer (some ⟨W.heap.size, 0, none⟩)] 36) := ⟨_, rfl⟩
        have b2 : Below w.heap.size w V := by rw [hV]; exact (b1.alloc b1.size _).alloc (by have := b1.size; simp; omega) _
        have hh := heap2 W (.cells #[.slice none 0 0, .bool false, .bool false] 55) (.cells #[.pointer none, .pointer (some ⟨W.heap.size, 0, none⟩)] 36)
        rw [← hV] at hh ⊢
        obtain ⟨hh1, hh2⟩ := hh
        clear hV nb0 nb1 o1 o2 o3 p0 p1
        have p0 : V.cell? ⟨W.heap.size + 1, 0, none⟩ = some (.pointer none) := cellOf hh2 0 _ rfl
        have p1 : V.cell? ⟨W.heap.size + 1, 1, none⟩ = some (.pointer (some ⟨W.heap.size, 0, none⟩)) := cellOf hh2 1 _ rfl
        have nb0 : Nob V (.pointer none) := .inl rfl
        have nb1 : Nob V (.pointer (some ⟨W.heap.size, 0, none⟩)) := .inr ⟨_, rfl, cellOf hh1 1 _ rfl⟩
        clear hh1 hh2
        go_loopg [64] 2 (fun gk x wr => V = wr ∧ ∃ k : Nat, k ≤ 2 ∧ gk = 2 - k ∧ x = .int .i64 (k : Int))
        case atStart => exact ⟨rfl, 0, by omega, rfl, rfl⟩
        case round =>
          obtain ⟨rfl, k, hk2, hgk, rfl⟩ := hrel
          have HG2 := Lib.hid hgk
          clear hgk
          rcases (show k = 0 ∨ k = 1 ∨ k = 2 by omega) with rfl | rfl | rfl
          · go_wp2_with (first
            | (go_at_call 15; refine (mNum_nob nb0).mono ?_; rintro e w' ⟨rfl, rfl⟩)
            | (go_at_call 17; refine (mText_nob nb0).mono ?_; rintro e w' ⟨rfl, rfl⟩)
            | (go_at_call 19; refine (mFlag_nob nb0).mono ?_; rintro e w' ⟨rfl, rfl⟩)
            | (go_at_call 21; refine (mleft_nob nb0).mono ?_; rintro e w' ⟨rfl, rfl⟩)
            | (go_at_call 23; refine (mdone_nob nb0).mono ?_; rintro e w' ⟨rfl, rfl⟩))
            go_roundg 1
            case measure => have := HG2.out; omega
            case rel => exact ⟨rfl, 1, by omega, rfl, rfl⟩
          · go_wp2_with (first
            | (go_at_call 15; refine (mNum_nob nb1).mono ?_; rintro e w' ⟨rfl, rfl⟩)
            | (go_at_call 17; refine (mText_nob nb1).mono ?_; rintro e w' ⟨rfl, rfl⟩)
            | (go_at_call 19; refine (mFlag_nob nb1).mono ?_; rintro e w' ⟨rfl, rfl⟩)
            | (go_at_call 21; refine (mleft_nob nb1).mono ?_; rintro e w' ⟨rfl, rfl⟩)
            | (go_at_call 23; refine (mdone_nob nb1).mono ?_; rintro e w' ⟨rfl, rfl⟩))
            go_roundg 0
            case measure => have := HG2.out; omega
            case rel => exact ⟨rfl, 2, by omega, rfl, rfl⟩
          · go_wp2_with (go_at_call 9; refine (lives_any _).mono ?_; rintro e w9 ⟨rfl, hb9⟩)
            go_ret
            exact ⟨rfl, b2.trans (hb9.mono b2.size)⟩
end Go.Proofs.Ytnmiodjkomgfcaa
