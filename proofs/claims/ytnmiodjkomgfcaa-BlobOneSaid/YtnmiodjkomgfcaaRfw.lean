/- THE WALKS OF THE REFERENCE'S WRITER (octroiref05). -/
import Derived.Test.YtnmiodjkomgfcaaWrk
namespace Go.Proofs.Ytnmiodjkomgfcaa
open Go.RowKit
section
variable {w : World}
theorem rnum_least : Calls Try.prog 28 #[.int .i64 (-9223372036854775808)] w fun e w' => e = .returned (.tuple #[.slice none 0 0, .bool false]) ∧ w = w' := by
  go_enter Try.func28, Try.ntmps28
  go_wp2
  go_ret2
  exact ⟨rfl, rfl⟩
theorem digs_split (n m : Nat) (low : List UInt8) (h : digs n = digs m ++ low.reverse) (hm : 0 < m) : digs n = digs (m / 256) ++ (low ++ [UInt8.ofNat m]).reverse := by
  rw [h, digs_pos hm]; simp
set_option maxRecDepth 100000 in
set_option maxHeartbeats 2000000 in
theorem rnum_any (n : Int) (h1 : -9223372036854775808 < n) (h2 : n ≤ 9223372036854775807) :
    Calls Try.prog 28 #[.int .i64 n] w fun e w' => ∃ r, e = .returned (.tuple #[r, .bool true]) ∧ Own w' w.heap.size r (numL n) ∧ Below w.heap.size w w' := by
  obtain ⟨k, hd, hk, hnum, hcase⟩ : ∃ k hd : Nat, k < 9223372036854775808 ∧ numL n = UInt8.ofNat (hd + (digs k).length) :: digs k ∧ ((n = (k : Int) ∧ hd = 0) ∨ (n = -(k : Int) ∧ 0 < k ∧ hd = 128)) := by
    by_cases hn : n < 0
    · exact ⟨n.natAbs, 128, by omega, by unfold numL; rw [if_pos hn], .inr ⟨by omega, by omega, rfl⟩⟩
    · exact ⟨n.natAbs, 0, by omega, by unfold numL; rw [if_neg (by omega)], .inl ⟨by omega, rfl⟩⟩
  rw [hnum]
  clear hnum
  have hd8 : (digs k).length ≤ 8 := digs_lt 8 k (by omega)
  have HD8 := Lib.hid hd8
  clear hd8
  have hq1 : ((k : Int) == (-9223372036854775808 : Int)) = false := by rw [beq_eq_false_iff_ne]; omega
  have hq2 : ((-(k : Int)) == (-9223372036854775808 : Int)) = false := by rw [beq_eq_false_iff_ne]; omega
  rcases hcase with ⟨rfl, rfl⟩ | ⟨rfl, hk0, rfl⟩
  · go_enter Try.func28, Try.ntmps28
    go_wp2
    go_loopg [4, 6] k (fun gk x v wr => ∃ (m : Nat) (low : List UInt8), m < 9223372036854775808 ∧ gk = m ∧ x = .int .i64 (m : Int) ∧ Own wr w.heap.size v low ∧ Below w.heap.size w wr ∧ digs k = digs m ++ low.reverse)
    case atStart => exact ⟨k, [], hk, rfl, rfl, Own.nil_ _ _, Below.refl _ _, by simp⟩
    case round =>
      obtain ⟨m, low, hm, hgk, rfl, hown, hbel, hdig⟩ := hrel
      have HG := Lib.hid hgk
      have hll : low.length ≤ 8 := by have := HD8.out; rw [hdig, List.length_append, List.length_reverse] at this; omega
      by_cases h0 : 0 < m
      · have hsp := Lib.hid (digs_split k m low hdig h0)
        clear hgk hdig
        go_wp2_with (first
          | (at_builtin; go_must (refine wpList_append_byt _ rfl (.tmp 18) (.tmp 22) rfl w.heap.size _ low rfl (hown.alloc _) _ _ [UInt8.ofNat m] rfl (byt_one wr _ _ (by simp <;> omega)) (by simp <;> omega) (by have := hbel.size; simp; omega) ?_)
             intro v' w1 hown1 hg1 hat1))
        go_roundg (m / 256)
        case measure => have := HG.out; omega
        case rel => exact ⟨m / 256, _, by omega, rfl, by go_num, hown1, (hbel.alloc hbel.size _).grown hg1 (by have := hbel.size; simp; omega) (fun g hg => (hown.lt g hg).1), hsp.out⟩
      · obtain rfl : m = 0 := by omega
        rw [digs_zero, List.nil_append] at hdig
        have HDG := Lib.hid hdig
        have hlen : (digs k).length = low.length := by rw [hdig, List.length_reverse]
        have HL := Lib.hid hlen
        obtain ⟨A, c, rfl, hc, hmx, hr⟩ := id hown.byt
        unfold maxLen at hmx
        have hby := hown.byt
        have hsz := hbel.size
        clear hr hdig hlen hgk
        go_wp2
        obtain ⟨wl, rfl⟩ : ∃ wl, wl = wr := ⟨_, rfl⟩
        go_loopg [7, 8] low.length (fun gk v x wr => ∃ j : Nat, j ≤ low.length ∧ gk = j ∧ x = .int .i64 ((j : Int) - 1) ∧ Own wr wl.heap.size v (UInt8.ofNat (0 + low.length) :: (low.drop j).reverse) ∧ Below wl.heap.size wl wr)
        case atStart =>
          refine ⟨low.length, Nat.le_refl _, rfl, by go_num, ?_, (Below.refl _ _).alloc (Nat.le_refl _) _⟩
          have := own_lit wl [UInt8.ofNat (0 + low.length)] (by simp [maxLen])
          simp only [List.drop_length, List.reverse_nil]
          have e : bV (UInt8.ofNat (0 + low.length)) = .int .u8 (low.length : Int) := by simp [bV]; omega
          simp only [List.map_cons, List.map_nil, e] at this
          simpa using this
        case round =>
          obtain ⟨j, hj, hgk, rfl, hown2, hbel2⟩ := hrel
          have HG2 := Lib.hid hgk
          clear hgk
          cases j with
          | zero =>
            go_wp2
            go_ret2
            exact ⟨_, rfl, by rw [HL.out, HDG.out]; simpa using hown2.more hsz, hbel.trans (hbel2.mono hsz)⟩
          | succ j =>
            obtain ⟨A', c', hAA, hc', hm', hr'⟩ := hby.below hbel2
            obtain ⟨ad, rfl, hadb, hcell⟩ := hr' (by omega)
            obtain ⟨rfl, rfl⟩ : A = some ad ∧ c = c' := by simpa using hAA
            have hcx := hcell j low[j] (List.getElem?_eq_getElem (by omega))
            have hdr : low.drop j = low[j] :: low.drop (j + 1) := List.drop_eq_getElem_cons (by omega)
            have HDR := Lib.hid hdr
            have hsz2 := hbel2.size
            have hb := low[j].toNat_lt
            clear hcell hdr hAA hr'
            unfold bV at hcx
            go_wp2_with (first
              | (at_builtin; go_must (refine wpList_append_byt _ rfl (.tmp 39) (.tmp 44) rfl wl.heap.size _ _ rfl (hown2.alloc _) _ _ [low[j]] rfl (byt_one wr _ _ rfl) (by simp <;> omega) (by simp <;> omega) ?_)
                 intro v' w1 hown1 hg1 hat1))
            go_roundg j
            case measure => have := HG2.out; omega
            case rel => exact ⟨j, by omega, rfl, by go_num, by rw [HDR.out, List.reverse_cons, ← List.cons_append]; exact hown1, (hbel2.alloc hsz2 _).grown hg1 (by simp <;> omega) (fun g hg => (hown2.lt g hg).1)⟩
  · go_enter Try.func28, Try.ntmps28
    go_wp2
    go_loopg [4, 6] k (fun gk x v wr => ∃ (m : Nat) (low : List UInt8), m < 9223372036854775808 ∧ gk = m ∧ x = .int .i64 (m : Int) ∧ Own wr w.heap.size v low ∧ Below w.heap.size w wr ∧ digs k = digs m ++ low.reverse)
    case atStart => exact ⟨k, [], hk, rfl, rfl, Own.nil_ _ _, Below.refl _ _, by simp⟩
    case round =>
      obtain ⟨m, low, hm, hgk, rfl, hown, hbel, hdig⟩ := hrel
      have HG := Lib.hid hgk
      have hll : low.length ≤ 8 := by have := HD8.out; rw [hdig, List.length_append, List.length_reverse] at this; omega
      by_cases h0 : 0 < m
      · have hsp := Lib.hid (digs_split k m low hdig h0)
        clear hgk hdig
        go_wp2_with (first
          | (at_builtin; go_must (refine wpList_append_byt _ rfl (.tmp 18) (.tmp 22) rfl w.heap.size _ low rfl (hown.alloc _) _ _ [UInt8.ofNat m] rfl (byt_one wr _ _ (by simp <;> omega)) (by simp <;> omega) (by have := hbel.size; simp; omega) ?_)
             intro v' w1 hown1 hg1 hat1))
        go_roundg (m / 256)
        case measure => have := HG.out; omega
        case rel => exact ⟨m / 256, _, by omega, rfl, by go_num, hown1, (hbel.alloc hbel.size _).grown hg1 (by have := hbel.size; simp; omega) (fun g hg => (hown.lt g hg).1), hsp.out⟩
      · obtain rfl : m = 0 := by omega
        rw [digs_zero, List.nil_append] at hdig
        have HDG := Lib.hid hdig
        have hlen : (digs k).length = low.length := by rw [hdig, List.length_reverse]
        have HL := Lib.hid hlen
        obtain ⟨A, c, rfl, hc, hmx, hr⟩ := id hown.byt
        unfold maxLen at hmx
        have hby := hown.byt
        have hsz := hbel.size
        clear hr hdig hlen hgk
        go_wp2
        obtain ⟨wl, rfl⟩ : ∃ wl, wl = wr := ⟨_, rfl⟩
        go_loopg [7, 8] low.length (fun gk v x wr => ∃ j : Nat, j ≤ low.length ∧ gk = j ∧ x = .int .i64 ((j : Int) - 1) ∧ Own wr wl.heap.size v (UInt8.ofNat (128 + low.length) :: (low.drop j).reverse) ∧ Below wl.heap.size wl wr)
        case atStart =>
          refine ⟨low.length, Nat.le_refl _, rfl, by go_num, ?_, (Below.refl _ _).alloc (Nat.le_refl _) _⟩
          have := own_lit wl [UInt8.ofNat (128 + low.length)] (by simp [maxLen])
          simp only [List.drop_length, List.reverse_nil]
          have e : bV (UInt8.ofNat (128 + low.length)) = .int .u8 (128 + (low.length : Int)) := by simp [bV]; omega
          simp only [List.map_cons, List.map_nil, e] at this
          simpa using this
        case round =>
          obtain ⟨j, hj, hgk, rfl, hown2, hbel2⟩ := hrel
          have HG2 := Lib.hid hgk
          clear hgk
          cases j with
          | zero =>
            go_wp2
            go_ret2
            exact ⟨_, rfl, by rw [HL.out, HDG.out]; simpa using hown2.more hsz, hbel.trans (hbel2.mono hsz)⟩
          | succ j =>
            obtain ⟨A', c', hAA, hc', hm', hr'⟩ := hby.below hbel2
            obtain ⟨ad, rfl, hadb, hcell⟩ := hr' (by omega)
            obtain ⟨rfl, rfl⟩ : A = some ad ∧ c = c' := by simpa using hAA
            have hcx := hcell j low[j] (List.getElem?_eq_getElem (by omega))
            have hdr : low.drop j = low[j] :: low.drop (j + 1) := List.drop_eq_getElem_cons (by omega)
            have HDR := Lib.hid hdr
            have hsz2 := hbel2.size
            have hb := low[j].toNat_lt
            clear hcell hdr hAA hr'
            unfold bV at hcx
            go_wp2_with (first
              | (at_builtin; go_must (refine wpList_append_byt _ rfl (.tmp 39) (.tmp 44) rfl wl.heap.size _ _ rfl (hown2.alloc _) _ _ [low[j]] rfl (byt_one wr _ _ rfl) (by simp <;> omega) (by simp <;> omega) ?_)
                 intro v' w1 hown1 hg1 hat1))
            go_roundg j
            case measure => have := HG2.out; omega
            case rel => exact ⟨j, by omega, rfl, by go_num, by rw [HDR.out, List.reverse_cons, ← List.cons_append]; exact hown1, (hbel2.alloc hsz2 _).grown hg1 (by simp <;> omega) (fun g hg => (hown2.lt g hg).1)⟩
set_option maxHeartbeats 1000000 in
theorem rtext_long (t : ByteArray) (ht : 65536 < t.size) (hm : t.size ≤ maxLen) : Calls Try.prog 29 #[.string t] w fun e w' => e = .returned (.tuple #[.slice none 0 0, .bool false]) ∧ w = w' := by
  unfold maxLen at hm
  go_enter Try.func29, Try.ntmps29
  go_wp2
  go_ret2
  exact ⟨rfl, rfl⟩
set_option maxHeartbeats 1000000 in
theorem rtext_any (t : ByteArray) (ht : t.size ≤ 65536) : Calls Try.prog 29 #[.string t] w fun e w' =>
    ∃ r, e = .returned (.tuple #[r, .bool true]) ∧ Own w' w.heap.size r (textL t) ∧ Below w.heap.size w w' := by
  have hnum := rnum_any (w := w) (t.size : Int) (by omega) (by omega)
  have hnl := numL_len (t.size : Int) (by omega) (by omega)
  go_enter Try.func29, Try.ntmps29
  go_wp2_with (first
    | (go_at_call 28; refine hnum.mono ?_; rintro e w1 ⟨r, rfl, hown, hb⟩)
    | (at_builtin; go_must (refine wpList_append_str _ rfl (.tmp 15) (.tmp 16) rfl w.heap.size _ _ rfl hown t rfl (by omega) hb.size ?_)
       intro v' w1' hown' hg hat))
  go_ret2
  exact ⟨_, rfl, hown', hb.grown hg hb.size (fun g hg => (hown.lt g hg).1)⟩
theorem rflag_any (b : Bool) : Calls Try.prog 30 #[.bool b] w fun e w' => ∃ r, e = .returned r ∧ Own w' w.heap.size r (flagL b) ∧ Below w.heap.size w w' := by
  cases b
  · go_enter Try.func30, Try.ntmps30
    go_wp2
    go_ret
    exact ⟨_, rfl, own_lit w [0] (by simp [maxLen]), (Below.refl _ _).alloc (Nat.le_refl _) _⟩
  · go_enter Try.func30, Try.ntmps30
    go_wp2
    go_ret
    exact ⟨_, rfl, own_lit w [1] (by simp [maxLen]), (Below.refl _ _).alloc (Nat.le_refl _) _⟩
end
end Go.Proofs.Ytnmiodjkomgfcaa
