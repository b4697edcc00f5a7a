/- THE WALKS OF tape.put, tape.fill, octroiref10.big, octroiref10.fill. -/
import Derived.Test.YtmcjefdnkcpghaaTaA
import Derived.Test.YtmcjefdnkcpghaaSeC
import Derived.Deep.LoopGhost
namespace Go.Proofs.Ytmcjefdnkcpghaa
open Go.RowKit
theorem shr_byte (n k : Nat) : (n : Int) / 2 ^ (8 * k) % 256 = ((UInt8.ofNat (n / 256 ^ k)).toNat : Int) := by
  rw [show (2 : Int) ^ (8 * k) = ((256 ^ k : Nat) : Int) by rw [Int.pow_mul]; simp]
  rw [UInt8.toNat_ofNat']
  omega
theorem beB_pos (n m : Nat) (h : 0 < m) : beB n m = UInt8.ofNat (n / 256 ^ (m - 1)) :: beB n (m - 1) := by
  obtain ⟨k, rfl⟩ : ∃ k, m = k + 1 := ⟨m - 1, by omega⟩
  rfl
set_option maxRecDepth 100000 in
theorem put_any (n many : Nat) (hn : n < 18446744073709551616) (hm : many ≤ 8) (base : Nat) (v : Value) (l : List UInt8) (hl : l.length ≤ 1000000) (w : World) (ho : Own w base v l) (hb : base ≤ w.heap.size) :
    Calls Try.prog 117 #[v, .int .u64 (n : Int), .int .i64 (many : Int)] w fun e w' => ∃ v', e = .returned v' ∧ Own w' base v' (l ++ beB n many) ∧ Below base w w' := by
  have HN := Lib.hid hn
  clear hn
  go_enter Try.func117, Try.ntmps117
  go_wp2
  go_loopg [0, 2] many (fun gk x0 x2 wr => ∃ (m : Nat) (b : List UInt8), gk = m ∧ m ≤ many ∧ x2 = .int .i64 (m : Int) ∧ b ++ beB n m = l ++ beB n many ∧ Own wr base x0 b ∧ Below base w wr)
  case atStart => exact ⟨many, l, rfl, Nat.le_refl _, rfl, rfl, ho, Below.refl _ _⟩
  case round =>
    obtain ⟨m, b, hgk, hmm, rfl, hbe, hown, hbel⟩ := hrel
    have HG := Lib.hid hgk
    have hsz := hbel.size
    have hbl : b.length ≤ 1000008 := by
      have := congrArg List.length hbe
      rw [List.length_append, List.length_append, beB_len, beB_len] at this
      omega
    have HBE := Lib.hid hbe
    clear hgk hbe
    by_cases h : 0 < m
    · have hba : base ≤ (wr.alloc (.cells #[.int .u8 ((n : Int) / 2 ^ (8 * (m - 1)) % 256)] 5)).heap.size := by simp; omega
      have hlr : b.length + [UInt8.ofNat (n / 256 ^ (m - 1))].length ≤ 140737488355328 := by simp; omega
      go_wp2_with (first
        | (at_builtin; go_must (refine wpList_append_byt _ rfl (.tmp 11) (.tmp 17) rfl base _ b rfl (hown.alloc _) _ _ [UInt8.ofNat (n / 256 ^ (m - 1))] rfl (byt_one wr _ _ (shr_byte n (m - 1))) hlr hba ?_)
           intro v' w1 hown1 hg1 hat1))
      go_roundg (m - 1)
      case measure => have := HG.out; omega
      case rel =>
        refine ⟨m - 1, _, rfl, by omega, by rw [Int.natCast_sub h]; rfl, ?_, hown1, (hbel.alloc (by omega) _).grown hg1 hba (fun g hg => (hown.lt g hg).1)⟩
        rw [List.append_assoc, List.singleton_append, ← beB_pos n m h]
        exact HBE.out
    · obtain rfl : m = 0 := by omega
      have hbe := HBE.out
      simp only [beB, List.append_nil] at hbe
      subst hbe
      go_wp2
      go_ret
      exact ⟨_, rfl, hown, hbel⟩
set_option maxRecDepth 100000 in
theorem big_any (n many : Nat) (hn : n ≤ 9223372036854775807) (hm : many ≤ 8) (w : World) :
    Calls Try.prog 119 #[.int .i64 (n : Int), .int .i64 (many : Int)] w fun e w' => ∃ v', e = .returned v' ∧ Own w' w.heap.size v' (beB n many) ∧ Below w.heap.size w w' := by
  have HN := Lib.hid hn
  clear hn
  go_enter Try.func119, Try.ntmps119
  go_wp2
  go_loopg [5, 6] many (fun gk x5 x6 wr => ∃ (m : Nat) (b : List UInt8), gk = m ∧ m ≤ many ∧ x6 = .int .i64 ((m : Int) - 1) ∧ b ++ beB n m = beB n many ∧ Own wr w.heap.size x5 b ∧ Below w.heap.size w wr)
  case atStart => exact ⟨many, [], rfl, Nat.le_refl _, rfl, rfl, Own.nil_ _ _, Below.refl _ _⟩
  case round =>
    obtain ⟨m, b, hgk, hmm, rfl, hbe, hown, hbel⟩ := hrel
    have HG := Lib.hid hgk
    have hsz := hbel.size
    have hbl : b.length ≤ 8 := by
      have := congrArg List.length hbe
      rw [List.length_append, beB_len, beB_len] at this
      omega
    have HBE := Lib.hid hbe
    clear hgk hbe
    by_cases h : 0 < m
    · obtain ⟨k, rfl⟩ : ∃ k, m = k + 1 := ⟨m - 1, by omega⟩
      have hba : w.heap.size ≤ (wr.alloc (.cells #[.int .u8 ((n : Int) / 2 ^ (8 * k) % 256)] 5)).heap.size := by simp; omega
      have hlr : b.length + [UInt8.ofNat (n / 256 ^ k)].length ≤ 140737488355328 := by simp; omega
      have hk1 : (((k + 1 : Nat) : Int) - 1) = (k : Int) := by omega
      rw [hk1]
      clear hk1
      go_wp2_with (first
        | (at_builtin; go_must (refine wpList_append_byt _ rfl (.tmp 13) (.tmp 19) rfl w.heap.size _ b rfl (hown.alloc _) _ _ [UInt8.ofNat (n / 256 ^ k)] rfl (byt_one wr _ _ (shr_byte n k)) hlr hba ?_)
           intro v' w1 hown1 hg1 hat1))
      go_roundg k
      case measure => have := HG.out; omega
      case rel =>
        refine ⟨k, _, rfl, by omega, rfl, ?_, hown1, (hbel.alloc (by omega) _).grown hg1 hba (fun g hg => (hown.lt g hg).1)⟩
        rw [List.append_assoc, List.singleton_append]
        exact HBE.out
    · obtain rfl : m = 0 := by omega
      have hbe := HBE.out
      simp only [beB, List.append_nil] at hbe
      subst hbe
      go_wp2
      go_ret
      exact ⟨_, rfl, hown, hbel⟩
set_option maxRecDepth 100000 in
theorem rfill_any (B : Nat) (v : Value) (l : List UInt8) (hl : l.length ≤ 64) (w : World) (hv : Byt w B v l) :
    Calls Try.prog 101 #[v] w fun e w' => ∃ v', e = .returned v' ∧ Own w' w.heap.size v' (fillL l) ∧ Below w.heap.size w w' := by
  obtain ⟨A, c, rfl, hc, hm, _⟩ := id hv
  have hown0 := own_lit w [] (by simp [maxLen])
  have HV := Lib.hid (hv.heap.below ((Below.refl w.heap.size w).alloc (Nat.le_refl _) (.cells (([] : List UInt8).map bV).toArray 5)))
  have HO := Lib.hid hown0
  clear hown0 hv
  go_enter Try.func101, Try.ntmps101
  go_wp2_with (first
    | (at_builtin; go_must (refine wpList_append_byt _ rfl (.tmp 4) (.tmp 5) rfl w.heap.size _ [] rfl HO.out _ _ l rfl HV.out (by simp; omega) (by simp) ?_)
       intro v1 w1 hown1 hg1 hat1))
  have hb1 := ((Below.refl w.heap.size w).alloc (Nat.le_refl _) (.cells #[] 5)).grown hg1 (by simp) (fun b hb => by cases hb; exact Nat.le_refl _)
  go_loopg [3] (64 - l.length) (fun gk x3 wr => ∃ (k : Nat), gk = 64 - l.length - k ∧ k ≤ 64 - l.length ∧ Own wr w.heap.size x3 (l ++ List.replicate k 0) ∧ Below w.heap.size w wr)
  case atStart => exact ⟨0, rfl, Nat.zero_le _, by simpa using hown1, hb1⟩
  case round =>
    obtain ⟨k, hgk, hk, hown, hbel⟩ := hrel
    have HG := Lib.hid hgk
    have hsz := hbel.size
    clear hgk hb1 hg1 hat1 hown1
    obtain ⟨A3, c3, rfl, hc3, hm3, _⟩ := hown.byt
    have hlen : (l ++ List.replicate k (0 : UInt8)).length = l.length + k := by simp
    unfold maxLen at hm3
    rw [hlen] at hown hc3 ⊢
    by_cases h : k < 64 - l.length
    · have hba : w.heap.size ≤ (wr.alloc (.cells #[.int .u8 0] 5)).heap.size := by simp; omega
      have hlr : (l ++ List.replicate k (0 : UInt8)).length + [(0 : UInt8)].length ≤ 140737488355328 := by simp; omega
      clear hlen
      go_wp2_with (first
        | (at_builtin; go_must (refine wpList_append_byt _ rfl (.tmp 10) (.tmp 11) rfl w.heap.size _ (l ++ List.replicate k 0) rfl (hown.alloc _) _ _ [0] rfl (byt_one wr _ 0 rfl) hlr hba ?_)
           intro v' w1 hown1 hg1 hat1))
      go_roundg (64 - l.length - (k + 1))
      case measure => have := HG.out; omega
      case rel =>
        refine ⟨k + 1, rfl, by omega, ?_, (hbel.alloc (by omega) _).grown hg1 hba (fun g hg => (hown.lt g hg).1)⟩
        rw [List.replicate_succ', ← List.append_assoc]
        exact hown1
    · obtain rfl : k = 64 - l.length := by omega
      clear hlen
      go_wp2
      go_ret
      exact ⟨_, rfl, hown, hbel⟩
/-- a sector: 64 bytes in a block of its own, which the call has made -/
def SecAt (w : World) (base : Nat) (v : Value) (l : List UInt8) : Prop := ∃ g, v = .slice (some ⟨g, 0, none⟩) 64 64 ∧ base ≤ g ∧ l.length = 64 ∧ w.heap[g]? = some (.cells (l.map bV).toArray 140 (0, 0))
theorem SecAt.byt {w : World} {base : Nat} {v : Value} {l : List UInt8} (h : SecAt w base v l) : Byt w w.heap.size v l := by
  obtain ⟨g, rfl, hb, hl, hg⟩ := h
  refine ⟨some ⟨g, 0, none⟩, 64, by rw [hl], by omega, by simp [maxLen], fun _ => ⟨_, rfl, lt_of_block hg, fun j x hj => ?_⟩⟩
  rw [addr_mk_add]
  simp only [World.cell?, hg, Nat.zero_add]
  simp [hj]
def zs64 : List UInt8 := List.replicate 64 0
theorem splice_fill (l : List UInt8) : splice zs64 0 (l.take l.length) = fillL l := by
  unfold splice fillL zs64
  rw [List.take_length, List.take_zero, List.nil_append, List.drop_replicate, Nat.zero_add]
set_option maxRecDepth 100000 in
theorem tfill_any (B : Nat) (v : Value) (l : List UInt8) (hl : l.length ≤ 64) (w : World) (hv : Byt w B v l) :
    Calls Try.prog 106 #[v] w fun e w' => ∃ v', e = .returned v' ∧ SecAt w' w.heap.size v' (fillL l) ∧ Below w.heap.size w w' := by
  by_cases h0 : 0 < l.length
  · have HV := Lib.hid hv
    clear hv
    go_enter Try.func106, Try.ntmps106
    go_wp2_with ((with_reducible show wpList _ _ _ (⟨some 6, _, _, _, _, _⟩ :: _) _ _); go_loud (refine wpList_copy_page _ rfl (.tmp 4) (.tmp 5) rfl w.heap.size 140 zs64 [] (heap_alloc_new w _) 0 64 64 rfl w.heap.size _ l rfl (HV.out.heap.alloc (Nat.le_refl _) _) h0 l.length (Nat.min_eq_left hl).symm (by simp [zs64]; exact hl) ?_); intro w2 hP2 hk2)
    rw [splice_fill, List.append_nil] at hP2
    go_ret
    refine ⟨_, rfl, ⟨w.heap.size, rfl, Nat.le_refl _, fillL_len l hl, hP2⟩, ?_⟩
    exact ((Below.refl w.heap.size w).alloc (Nat.le_refl _) _).trans (hk2.toBelow (by simp) (fun b hb e => by omega))
  · obtain ⟨A, c, rfl, hc, hm, _⟩ := hv
    obtain rfl : l = [] := List.eq_nil_of_length_eq_zero (by omega)
    go_enter Try.func106, Try.ntmps106
    go_wp2_with ((with_reducible show wpList _ _ _ (⟨some 6, _, _, _, _, _⟩ :: _) _ _); go_must (refine wpList_copy_nothing rfl (.tmp 4) (.tmp 5) 23 23 rfl 5 Try.underlying23 (by kernel_rfl) _ _ 64 64 _ _ rfl rfl rfl ?_))
    go_ret
    refine ⟨_, rfl, ⟨w.heap.size, rfl, Nat.le_refl _, fillL_len [] hl, heap_alloc_new w _⟩, (Below.refl w.heap.size w).alloc (Nat.le_refl _) _⟩
end Go.Proofs.Ytmcjefdnkcpghaa
