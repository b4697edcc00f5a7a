/- THE WALKS OF THE REFERENCE'S WRITER (octroiref05). -/
import Derived.Test.YtnfpmobmfcgfnaaPb
import Derived.Test.YtnfpmobmfcgfnaaPc
namespace Go.Proofs.Ytnfpmobmfcgfnaa
open Go.RowKit
section
variable {w : World}
theorem digs_split (n m : Nat) (low : List UInt8) (h : digs n = digs m ++ low.reverse) (hm : 0 < m) : digs n = digs (m / 256) ++ (low ++ [UInt8.ofNat m]).reverse := by
 rw [h, digs_pos hm]; simp
set_option maxRecDepth 100000 in
set_option maxHeartbeats 2000000 in
theorem rnum_any (n : Int) (h1 : -9223372036854775808 < n) (h2 : n ≤ 9223372036854775807) :
    Calls Try.prog 97 #[.int .i64 n] w fun e w' => ∃ r, e = .returned (.tuple #[r, .bool true]) ∧ Own w' w.heap.size r (numL n) ∧ Below w.heap.size w w' := by
  obtain ⟨k, hd, hk, hnum, hcase⟩ : ∃ k hd : Nat, k < 9223372036854775808 ∧ numL n = UInt8.ofNat (hd + (digs k).length) :: digs k ∧ ((n = (k : Int) ∧ hd = 0) ∨ (n = -(k : Int) ∧ 0 < k ∧ hd = 128)) := by
    by_cases hn : n < 0
    · exact ⟨n.natAbs, 128, by omega, by unfold numL; rw [if_pos hn], .inr ⟨by omega, by omega, rfl⟩⟩
    · exact ⟨n.natAbs, 0, by omega, by unfold numL; rw [if_neg (by omega)], .inl ⟨by omega, rfl⟩⟩
  rw [hnum]
  clear hnum
  have hd8 : (digs k).length ≤ 8 := digs_lt 8 k (by omega)
  have HD8 := Lib.hid hd8
  clear hd8
  have hq1 : ((k : Int) == (-9223372036854775808 : Int)) = false := by rw [beq_eq_false_iff_ne]; omega
  have hq2 : ((-(k : Int)) == (-9223372036854775808 : Int)) = false := by rw [beq_eq_false_iff_ne]; omega
  rcases hcase with ⟨rfl, rfl⟩ | ⟨rfl, hk0, rfl⟩
  · go_enter Try.func97, Try.ntmps97
    go_wp2
    go_loopg [4, 6] k (fun gk x v wr => ∃ (m : Nat) (low : List UInt8), m < 9223372036854775808 ∧ gk = m ∧ x = .int .i64 (m : Int) ∧ Own wr w.heap.size v low ∧ Below w.heap.size w wr ∧ digs k = digs m ++ low.reverse)
    case atStart => exact ⟨k, [], hk, rfl, rfl, Own.nil_ _ _, Below.refl _ _, by simp⟩
    case round =>
      obtain ⟨m, low, hm, hgk, rfl, hown, hbel, hdig⟩ := hrel
      have HG := Lib.hid hgk
      have hll : low.length ≤ 8 := by have := HD8.out; rw [hdig, List.length_append, List.length_reverse] at this; omega
      by_cases h0 : 0 < m
      · have hsp := Lib.hid (digs_split k m low hdig h0)
        clear hgk hdig
        go_wp2_with (first
          | (at_builtin; go_must (refine wpList_append_byt _ rfl (.tmp 18) (.tmp 22) rfl w.heap.size _ low rfl (hown.alloc _) _ _ [UInt8.ofNat m] rfl (byt_one wr _ _ (by simp <;> omega)) (by simp <;> omega) (by have := hbel.size; simp; omega) ?_)
             intro v' w1 hown1 hg1 hat1))
        go_roundg (m / 256)
        case measure => have := HG.out; omega
        case rel => exact ⟨m / 256, _, by omega, rfl, by go_num, hown1, (hbel.alloc hbel.size _).grown hg1 (by have := hbel.size; simp; omega) (fun g hg => (hown.lt g hg).1), hsp.out⟩
      · obtain rfl : m = 0 := by omega
        rw [digs_zero, List.nil_append] at hdig
        have HDG := Lib.hid hdig
        have hlen : (digs k).length = low.length := by rw [hdig, List.length_reverse]
        have HL := Lib.hid hlen
        obtain ⟨A, c, rfl, hc, hmx, hr⟩ := id hown.byt
        unfold maxLen at hmx
        have hby := hown.byt
        have hsz := hbel.size
        clear hr hdig hlen hgk
        go_wp2
        obtain ⟨wl, rfl⟩ : ∃ wl, wl = wr := ⟨_, rfl⟩
        go_loopg [7, 8] low.length (fun gk v x wr => ∃ j : Nat, j ≤ low.length ∧ gk = j ∧ x = .int .i64 ((j : Int) - 1) ∧ Own wr wl.heap.size v (UInt8.ofNat (0 + low.length) :: (low.drop j).reverse) ∧ Below wl.heap.size wl wr)
        case atStart =>
          refine ⟨low.length, Nat.le_refl _, rfl, by go_num, ?_, (Below.refl _ _).alloc (Nat.le_refl _) _⟩
          have := own_lit wl [UInt8.ofNat (0 + low.length)] (by simp [maxLen])
          simp only [List.drop_length, List.reverse_nil]
          have e : bV (UInt8.ofNat (0 + low.length)) = .int .u8 (low.length : Int) := by simp [bV]; omega
          simp only [List.map_cons, List.map_nil, e] at this
          simpa using this
        case round =>
          obtain ⟨j, hj, hgk, rfl, hown2, hbel2⟩ := hrel
          have HG2 := Lib.hid hgk
          clear hgk
          cases j with
          | zero =>
            go_wp2
            go_ret2
            exact ⟨_, rfl, by rw [HL.out, HDG.out]; simpa using hown2.more hsz, hbel.trans (hbel2.mono hsz)⟩
          | succ j =>
            obtain ⟨A', c', hAA, hc', hm', hr'⟩ := hby.below hbel2
            obtain ⟨ad, rfl, hadb, hcell⟩ := hr' (by omega)
            obtain ⟨rfl, rfl⟩ : A = some ad ∧ c = c' := by simpa using hAA
            have hcx := hcell j low[j] (List.getElem?_eq_getElem (by omega))
            have hdr : low.drop j = low[j] :: low.drop (j + 1) := List.drop_eq_getElem_cons (by omega)
            have HDR := Lib.hid hdr
            have hsz2 := hbel2.size
            have hb := low[j].toNat_lt
            clear hcell hdr hAA hr'
            unfold bV at hcx
            go_wp2_with (first
              | (at_builtin; go_must (refine wpList_append_byt _ rfl (.tmp 39) (.tmp 44) rfl wl.heap.size _ _ rfl (hown2.alloc _) _ _ [low[j]] rfl (byt_one wr _ _ rfl) (by simp <;> omega) (by simp <;> omega) ?_)
                 intro v' w1 hown1 hg1 hat1))
            go_roundg j
            case measure => have := HG2.out; omega
            case rel => exact ⟨j, by omega, rfl, by go_num, by rw [HDR.out, List.reverse_cons, ← List.cons_append]; exact hown1, (hbel2.alloc hsz2 _).grown hg1 (by simp <;> omega) (fun g hg => (hown2.lt g hg).1)⟩
  · go_enter Try.func97, Try.ntmps97
    go_wp2
    go_loopg [4, 6] k (fun gk x v wr => ∃ (m : Nat) (low : List UInt8), m < 9223372036854775808 ∧ gk = m ∧ x = .int .i64 (m : Int) ∧ Own wr w.heap.size v low ∧ Below w.heap.size w wr ∧ digs k = digs m ++ low.reverse)
    case atStart => exact ⟨k, [], hk, rfl, rfl, Own.nil_ _ _, Below.refl _ _, by simp⟩
    case round =>
      obtain ⟨m, low, hm, hgk, rfl, hown, hbel, hdig⟩ := hrel
      have HG := Lib.hid hgk
      have hll : low.length ≤ 8 := by have := HD8.out; rw [hdig, List.length_append, List.length_reverse] at this; omega
      by_cases h0 : 0 < m
      · have hsp := Lib.hid (digs_split k m low hdig h0)
        clear hgk hdig
        go_wp2_with (first
          | (at_builtin; go_must (refine wpList_append_byt _ rfl (.tmp 18) (.tmp 22) rfl w.heap.size _ low rfl (hown.alloc _) _ _ [UInt8.ofNat m] rfl (byt_one wr _ _ (by simp <;> omega)) (by simp <;> omega) (by have := hbel.size; simp; omega) ?_)
             intro v' w1 hown1 hg1 hat1))
        go_roundg (m / 256)
        case measure => have := HG.out; omega
        case rel => exact ⟨m / 256, _, by omega, rfl, by go_num, hown1, (hbel.alloc hbel.size _).grown hg1 (by have := hbel.size; simp; omega) (fun g hg => (hown.lt g hg).1), hsp.out⟩
      · obtain rfl : m = 0 := by omega
        rw [digs_zero, List.nil_append] at hdig
        have HDG := Lib.hid hdig
        have hlen : (digs k).length = low.length := by rw [hdig, List.length_reverse]
        have HL := Lib.hid hlen
        obtain ⟨A, c, rfl, hc, hmx, hr⟩ := id hown.byt
        unfold maxLen at hmx
        have hby := hown.byt
        have hsz := hbel.size
        clear hr hdig hlen hgk
        go_wp2
        obtain ⟨wl, rfl⟩ : ∃ wl, wl = wr := ⟨_, rfl⟩
        go_loopg [7, 8] low.length (fun gk v x wr => ∃ j : Nat, j ≤ low.length ∧ gk = j ∧ x = .int .i64 ((j : Int) - 1) ∧ Own wr wl.heap.size v (UInt8.ofNat (128 + low.length) :: (low.drop j).reverse) ∧ Below wl.heap.size wl wr)
        case atStart =>
          refine ⟨low.length, Nat.le_refl _, rfl, by go_num, ?_, (Below.refl _ _).alloc (Nat.le_refl _) _⟩
          have := own_lit wl [UInt8.ofNat (128 + low.length)] (by simp [maxLen])
          simp only [List.drop_length, List.reverse_nil]
          have e : bV (UInt8.ofNat (128 + low.length)) = .int .u8 (128 + (low.length : Int)) := by simp [bV]; omega
          simp only [List.map_cons, List.map_nil, e] at this
          simpa using this
        case round =>
          obtain ⟨j, hj, hgk, rfl, hown2, hbel2⟩ := hrel
          have HG2 := Lib.hid hgk
          clear hgk
          cases j with
          | zero =>
            go_wp2
            go_ret2
            exact ⟨_, rfl, by rw [HL.out, HDG.out]; simpa using hown2.more hsz, hbel.trans (hbel2.mono hsz)⟩
          | succ j =>
            obtain ⟨A', c', hAA, hc', hm', hr'⟩ := hby.below hbel2
            obtain ⟨ad, rfl, hadb, hcell⟩ := hr' (by omega)
            obtain ⟨rfl, rfl⟩ : A = some ad ∧ c = c' := by simpa using hAA
            have hcx := hcell j low[j] (List.getElem?_eq_getElem (by omega))
            have hdr : low.drop j = low[j] :: low.drop (j + 1) := List.drop_eq_getElem_cons (by omega)
            have HDR := Lib.hid hdr
            have hsz2 := hbel2.size
            have hb := low[j].toNat_lt
            clear hcell hdr hAA hr'
            unfold bV at hcx
            go_wp2_with (first
              | (at_builtin; go_must (refine wpList_append_byt _ rfl (.tmp 39) (.tmp 44) rfl wl.heap.size _ _ rfl (hown2.alloc _) _ _ [low[j]] rfl (byt_one wr _ _ rfl) (by simp <;> omega) (by simp <;> omega) ?_)
                 intro v' w1 hown1 hg1 hat1))
            go_roundg j
            case measure => have := HG2.out; omega
            case rel => exact ⟨j, by omega, rfl, by go_num, by rw [HDR.out, List.reverse_cons, ← List.cons_append]; exact hown1, (hbel2.alloc hsz2 _).grown hg1 (by simp <;> omega) (fun g hg => (hown2.lt g hg).1)⟩
set_option maxHeartbeats 1000000 in
theorem rtext_any (t : ByteArray) (ht : t.size ≤ 65536) : Calls Try.prog 98 #[.string t] w fun e w' =>
    ∃ r, e = .returned (.tuple #[r, .bool true]) ∧ Own w' w.heap.size r (textL t) ∧ Below w.heap.size w w' := by
  have hnum := rnum_any (w := w) (t.size : Int) (by omega) (by omega)
  have hnl := numL_len (t.size : Int) (by omega) (by omega)
  go_enter Try.func98, Try.ntmps98
  go_wp2_with (first
    | (go_at_call 97; refine hnum.mono ?_; rintro e w1 ⟨r, rfl, hown, hb⟩)
    | (at_builtin; go_must (refine wpList_append_str _ rfl (.tmp 15) (.tmp 16) rfl w.heap.size _ _ rfl hown t rfl (by omega) hb.size ?_)
       intro v' w1' hown' hg hat))
  go_ret2
  exact ⟨_, rfl, hown', hb.grown hg hb.size (fun g hg => (hown.lt g hg).1)⟩
theorem rflag_any (b : Bool) : Calls Try.prog 113 #[.bool b] w fun e w' => ∃ r, e = .returned r ∧ Own w' w.heap.size r (flagL b) ∧ Below w.heap.size w w' := by
 cases b
 ·go_enter Try.func113, Try.ntmps113
  go_wp2
  go_ret
  exact ⟨_, rfl, own_lit w [0] (by simp [maxLen]), (Below.refl _ _).alloc (Nat.le_refl _) _⟩
 ·go_enter Try.func113, Try.ntmps113
  go_wp2
  go_ret
  exact ⟨_, rfl, own_lit w [1] (by simp [maxLen]), (Below.refl _ _).alloc (Nat.le_refl _) _⟩
end
end Go.Proofs.Ytnfpmobmfcgfnaa

/- WHAT IS WRITTEN IS READ; WHAT IS READ IS WRITTEN: plain laws on bytes. -/
namespace Go.Proofs.Ytnfpmobmfcgfnaa
theorem valL_app (l : List UInt8) (b : UInt8) : valL (l ++ [b]) = valL l * 256 + b.toNat := by simp [valL, List.foldl_append]
theorem valL_digs (n : Nat) : valL (digs n) = n := by
 induction n using Nat.strongRecOn with
 | _ n ih =>
  rcases Nat.eq_zero_or_pos n with rfl | hp
  ·rw [digs_zero]; rfl
  ·rw [digs_pos hp, valL_app, ih (n / 256) (by omega), UInt8.toNat_ofNat']
   omega
theorem digs_app (v : Nat) (b : UInt8) (h : 0 < v * 256 + b.toNat) : digs (v * 256 + b.toNat) = digs v ++ [b] := by
 have hb := b.toNat_lt
 rw [digs_pos h, show (v * 256 + b.toNat) / 256 = v by omega]
 congr 2
 rw [← UInt8.toNat_inj, UInt8.toNat_ofNat']
 omega
theorem valL_pos_of (l : List UInt8) (h0 : 0 < (l.headD 0).toNat) : 0 < valL l := by
 cases l with
 | nil => simp at h0
 | cons a t =>
  have key : ∀ (t : List UInt8) (x : Nat), 0 < x → 0 < t.foldl (fun a b => a * 256 + b.toNat) x := by
   intro t
   induction t with
   | nil => intro x hx; exact hx
   | cons b t ih => intro x hx; exact ih _ (Nat.lt_of_lt_of_le (Nat.mul_pos hx (by decide)) (Nat.le_add_right _ _))
  exact key t _ (by simpa using h0)
theorem digs_valL (l : List UInt8) (h : l = [] ∨ 0 < (l.headD 0).toNat) : digs (valL l) = l := by
 have key : ∀ (m : Nat) (l : List UInt8), l.length = m → (l = [] ∨ 0 < (l.headD 0).toNat) → digs (valL l) = l := by
  intro m
  induction m with
  | zero => intro l hl _; rw [List.eq_nil_of_length_eq_zero hl]; exact digs_zero
  | succ m ih =>
   intro l hl hh
   have hne : l ≠ [] := fun e => by rw [e] at hl; simp at hl
   obtain ⟨l0, b, rfl⟩ : ∃ l0 b, l = l0 ++ [b] := ⟨l.dropLast, l.getLast hne, (List.dropLast_concat_getLast hne).symm⟩
   have hh' : 0 < ((l0 ++ [b]).headD 0).toNat := by
    rcases hh with e | e
    ·exact absurd e hne
    ·exact e
   have hpos := valL_pos_of _ hh'
   rw [valL_app] at hpos ⊢
   rw [digs_app _ _ hpos, ih l0 (by simpa using hl) ?_]
   cases l0 with
   | nil => exact .inl rfl
   | cons a t => exact .inr (by simpa using hh')
 exact key _ l rfl h
theorem fold_ge (t : List UInt8) : ∀ x : Nat, x * 256 ^ t.length ≤ t.foldl (fun a b => a * 256 + b.toNat) x := by
 induction t with
 | nil => intro x; simp
 | cons b t ih =>
  intro x
  refine Nat.le_trans ?_ (ih _)
  rw [List.length_cons, Nat.pow_succ, Nat.mul_comm (256 ^ t.length), ← Nat.mul_assoc]
  exact Nat.mul_le_mul_right _ (Nat.le_add_right _ _)
theorem digs_head (n : Nat) (h : 0 < n) : 0 < ((digs n).headD 0).toNat := by
 induction n using Nat.strongRecOn with
 | _ n ih =>
  rw [digs_pos h]
  rcases Nat.eq_zero_or_pos (n / 256) with h0 | hp
  ·rw [h0, digs_zero]
   show 0 < (UInt8.ofNat n).toNat
   rw [UInt8.toNat_ofNat']
   omega
  ·have := ih (n / 256) (by omega) hp
   cases hd : digs (n / 256) with
   | nil => rw [hd] at this; simp at this
   | cons a t => rw [hd] at this; simpa using this
theorem digs_head8 (n : Nat) (h : n < 9223372036854775808) (h8 : (digs n).length = 8) : ((digs n).headD 0).toNat < 128 := by
 have hv := valL_digs n
 cases hd : digs n with
 | nil => simp
 | cons a t =>
  rw [hd] at h8 hv
  have hg := fold_ge t (0 * 256 + a.toNat)
  have ht : t.length = 7 := by simpa using h8
  rw [ht] at hg
  have : valL (a :: t) = t.foldl (fun a b => a * 256 + b.toNat) (0 * 256 + a.toNat) := rfl
  rw [← this, hv] at hg
  show a.toNat < 128
  have e : (256 : Nat) ^ 7 = 72057594037927936 := by decide
  rw [e] at hg
  omega
theorem headD_app (l t : List UInt8) (h : 0 < l.length) : (l ++ t).headD 0 = l.headD 0 := by cases l with | nil => simp at h | cons a b => rfl
theorem rd_num (n : Int) (h1 : -9223372036854775808 < n) (h2 : n ≤ 9223372036854775807) (t : List UInt8) : rdNum (numL n ++ t) = some (n, t) := by
 have hl := digs_abs_le n (by omega) h2
 have hk : n.natAbs < 9223372036854775808 := by omega
 have hh : (UInt8.ofNat ((if n < 0 then 128 else 0) + (digs n.natAbs).length)).toNat = (if n < 0 then 128 else 0) + (digs n.natAbs).length := by
  rw [UInt8.toNat_ofNat']; split <;> omega
 have hm : (UInt8.ofNat ((if n < 0 then 128 else 0) + (digs n.natAbs).length)).toNat % 128 = (digs n.natAbs).length := by
  rw [hh]; split <;> omega
 have hz : n.natAbs = 0 ∨ 0 < (digs n.natAbs).length := by
  rcases Nat.eq_zero_or_pos n.natAbs with h | h
  ·exact .inl h
  ·exact .inr (by rw [digs_len_pos h]; omega)
 show rdNum (UInt8.ofNat ((if n < 0 then 128 else 0) + (digs n.natAbs).length) :: (digs n.natAbs ++ t)) = _
 have ho : numOk (UInt8.ofNat ((if n < 0 then 128 else 0) + (digs n.natAbs).length)) (digs n.natAbs ++ t) = true := by
  simp only [numOk, Bool.and_eq_true, Bool.or_eq_true, decide_eq_true_eq, hm]
  refine ⟨⟨⟨hl, ?_⟩, by rw [List.length_append]; omega⟩, ?_⟩
  ·rw [hh]
   by_cases hn : n < 0
   ·right; omega
   ·left; rw [if_neg hn]; omega
  ·by_cases h0 : (digs n.natAbs).length = 0
   ·exact .inl h0
   ·right
    rw [headD_app _ _ (by omega)]
    have hp : 0 < n.natAbs := by
     rcases Nat.eq_zero_or_pos n.natAbs with h | h
     ·rw [h, digs_zero] at h0; simp at h0
     ·exact h
    refine ⟨digs_head _ hp, ?_⟩
    by_cases h8 : (digs n.natAbs).length = 8
    ·exact .inr (digs_head8 _ hk h8)
    ·left; omega
 rw [rdNum_yes ho, hm, List.take_left, List.drop_left, valL_digs, hh]
 by_cases hn : n < 0
 ·rw [if_pos hn, if_neg (by omega)]
  simp only [Option.some.injEq, Prod.mk.injEq, and_true]; omega
 ·rw [if_neg hn, if_pos (by omega)]
  simp only [Option.some.injEq, Prod.mk.injEq, and_true]; omega
theorem rd_flag (b : Bool) (t : List UInt8) : rdFlag (flagL b ++ t) = some (b, t) := by cases b <;> rfl
theorem rd_text (s : ByteArray) (h : s.size ≤ 65536) (t : List UInt8) : rdText (textL s ++ t) = some (s, t) := by
 unfold rdText textL
 rw [List.append_assoc, rd_num _ (by omega) (by omega)]
 have hl : s.data.toList.length = s.size := Array.length_toList
 show (if 0 ≤ (s.size : Int) ∧ (s.size : Int) ≤ 65536 ∧ (s.size : Int) ≤ ((s.data.toList ++ t).length : Int) then some ((⟨((s.data.toList ++ t).take (s.size : Int).toNat).toArray⟩ : ByteArray), (s.data.toList ++ t).drop (s.size : Int).toNat) else none) = _
 rw [if_pos ⟨by omega, by omega, by rw [List.length_append]; omega⟩, Int.toNat_natCast, ← hl, List.take_left, List.drop_left]
/-- what is read is what would be written -/
theorem rd_num_back {l : List UInt8} {n : Int} {t : List UInt8} (h : rdNum l = some (n, t)) : l = numL n ++ t := by
 cases l with
 | nil => cases h
 | cons c l' =>
  by_cases ho : numOk c l' = true
  ·rw [rdNum_yes ho] at h
   have hc := c.toNat_lt
   simp only [numOk, Bool.and_eq_true, Bool.or_eq_true, decide_eq_true_eq] at ho
   obtain ⟨⟨⟨h8, h9⟩, hlen⟩, h4⟩ := ho
   simp only [Option.some.injEq, Prod.mk.injEq] at h
   obtain ⟨hn, rfl⟩ := h
   generalize hm : c.toNat % 128 = m at *
   have htl : (l'.take m).length = m := by rw [List.length_take]; omega
   have hd : digs (valL (l'.take m)) = l'.take m := by
    apply digs_valL
    rcases Nat.eq_zero_or_pos m with h0 | hp
    ·left; rw [h0]; rfl
    ·right
     rcases h4 with h4 | ⟨h4, _⟩
     ·omega
     ·cases l' with
      | nil => simp at hlen; omega
      | cons a b => cases m with | zero => omega | succ j => simpa using h4
   have hpos : 0 < m → 0 < valL (l'.take m) := by
    intro hp
    apply valL_pos_of
    rcases h4 with h4 | ⟨h4, _⟩
    ·omega
    ·cases l' with
     | nil => simp at hlen; omega
     | cons a b => cases m with | zero => omega | succ j => simpa using h4
   have hab : n.natAbs = valL (l'.take m) := by rw [← hn]; split <;> omega
   unfold numL
   rw [hab, hd, htl, List.cons_append, List.take_append_drop]
   congr 1
   rw [← UInt8.toNat_inj, UInt8.toNat_ofNat']
   by_cases hc1 : c.toNat < 128
   ·rw [if_pos hc1] at hn
    rw [if_neg (by omega)]; omega
   ·rw [if_neg hc1] at hn
    have := hpos (by rcases h9 with h9 | h9 <;> omega)
    rw [if_pos (by omega)]; omega
  ·rw [rdNum_no ho] at h; cases h
theorem rd_flag_back {l : List UInt8} {b : Bool} {t : List UInt8} (h : rdFlag l = some (b, t)) : l = flagL b ++ t := by
 cases l with
 | nil => cases h
 | cons c l' =>
  by_cases h1 : c.toNat ≤ 1
  ·have e : rdFlag (c :: l') = some (c.toNat == 1, l') := if_pos h1
   rw [e] at h
   simp only [Option.some.injEq, Prod.mk.injEq] at h
   obtain ⟨rfl, rfl⟩ := h
   rcases (show c.toNat = 0 ∨ c.toNat = 1 by omega) with h0 | h0
   ·have : c = 0 := UInt8.toNat_inj.1 h0
    subst this; rfl
   ·have : c = 1 := UInt8.toNat_inj.1 h0
    subst this; rfl
  ·have e : rdFlag (c :: l') = none := if_neg h1
   rw [e] at h; cases h
theorem rd_text_back {l : List UInt8} {s : ByteArray} {t : List UInt8} (h : rdText l = some (s, t)) : l = textL s ++ t ∧ s.size ≤ 65536 := by
 unfold rdText at h
 cases hr : rdNum l with
 | none => rw [hr] at h; cases h
 | some p =>
  obtain ⟨n, u⟩ := p
  rw [hr] at h
  by_cases hc : 0 ≤ n ∧ n ≤ 65536 ∧ n ≤ (u.length : Int)
  ·have e : (if 0 ≤ n ∧ n ≤ 65536 ∧ n ≤ (u.length : Int) then some ((⟨(u.take n.toNat).toArray⟩ : ByteArray), u.drop n.toNat) else none) = some (s, t) := h
   rw [if_pos hc] at e
   simp only [Option.some.injEq, Prod.mk.injEq] at e
   obtain ⟨rfl, rfl⟩ := e
   have hs : (⟨(u.take n.toNat).toArray⟩ : ByteArray).size = n.toNat := by
    show (u.take n.toNat).toArray.size = _
    rw [List.size_toArray, List.length_take]; omega
   refine ⟨?_, by omega⟩
   unfold textL
   rw [hs, Int.toNat_of_nonneg hc.1, List.append_assoc]
   show l = numL n ++ (u.take n.toNat ++ u.drop n.toNat)
   rw [List.take_append_drop]
   exact rd_num_back hr
  ·have e : (if 0 ≤ n ∧ n ≤ 65536 ∧ n ≤ (u.length : Int) then some ((⟨(u.take n.toNat).toArray⟩ : ByteArray), u.drop n.toNat) else none) = some (s, t) := h
   rw [if_neg hc] at e; cases e
end Go.Proofs.Ytnfpmobmfcgfnaa

