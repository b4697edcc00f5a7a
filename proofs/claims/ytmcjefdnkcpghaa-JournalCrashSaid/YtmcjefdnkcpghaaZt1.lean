/- THE TAPE, PLAINLY: numbers as bytes, sectors, heads and ends. -/
import Derived.Test.YtmcjefdnkcpghaaCd
import Derived.Test.YtmcjefdnkcpghaaZg
import Derived.Test.YtmcjefdnkcpghaaZs1
import Derived.Deep.LoopGhost
import Derived.Test.YtmcjefdnkcpghaaMem2
import Derived.RangeFuncBound
import Derived.RangeFuncLeaves
import Derived.Shelf.Abstract
import Derived.WalkKit
import Derived.OwnWalkIn
import Derived.TacticsInMore
import Derived.LoopNIn
import Derived.LoopIn
import Derived.Sort.LoopGhostIn
import Derived.Test.YtmcjefdnkcpghaaZs2
import Derived.Deep.RegionHeld3
import Derived.Deep.RegionHeldLaw
namespace Go.Proofs.Ytmcjefdnkcpghaa
open Go.RowKit
/-- a number in so many bytes, the highest first -/
def beB (n : Nat) : Nat → List UInt8
  | 0 => []
  | m + 1 => UInt8.ofNat (n / 256 ^ m) :: beB n m
theorem beB_len (n m : Nat) : (beB n m).length = m := by
  induction m with
  | zero => rfl
  | succ m ih => simp [beB, ih]
/-- filled with 0, up to a sector -/
def fillL (l : List UInt8) : List UInt8 := l ++ List.replicate (64 - l.length) 0
theorem fillL_len (l : List UInt8) (h : l.length ≤ 64) : (fillL l).length = 64 := by
  unfold fillL; rw [List.length_append, List.length_replicate]; omega
def firstL (seq len sum : Nat) : List UInt8 := fillL (wrapL (72 :: beB seq 8 ++ beB len 4 ++ beB sum 4))
def lastL (seq sum : Nat) : List UInt8 := fillL (wrapL (69 :: beB seq 8 ++ beB sum 4))
theorem wrapL_len (l : List UInt8) : (wrapL l).length = l.length + 4 := by simp [wrapL, be4]
theorem firstL_len (a b c : Nat) : (firstL a b c).length = 64 := fillL_len _ (by rw [wrapL_len]; simp [beB_len])
theorem lastL_len (a b : Nat) : (lastL a b).length = 64 := fillL_len _ (by rw [wrapL_len]; simp [beB_len])
/-- bytes, a sector's at a time -/
def cutsL (l : List UInt8) : List (List UInt8) := if _h : l = [] then [] else fillL (l.take 64) :: cutsL (l.drop 64)
termination_by l.length
decreasing_by
  rw [List.length_drop]
  have : 0 < l.length := List.length_pos_iff.2 (by assumption)
  omega
def sumL (l : List UInt8) : Nat := Crc.on 0 (nats l)
def pagesL (seq : Nat) (l : List UInt8) : List (List UInt8) := firstL seq l.length (sumL l) :: cutsL l ++ [lastL seq (sumL l)]
end Go.Proofs.Ytmcjefdnkcpghaa
/- THE WALKS OF tape.put, tape.fill, octroiref10.big, octroiref10.fill. -/
namespace Go.Proofs.Ytmcjefdnkcpghaa
open Go.RowKit
theorem shr_byte (n k : Nat) : (n : Int) / 2 ^ (8 * k) % 256 = ((UInt8.ofNat (n / 256 ^ k)).toNat : Int) := by
  rw [show (2 : Int) ^ (8 * k) = ((256 ^ k : Nat) : Int) by rw [Int.pow_mul]; simp]
  rw [UInt8.toNat_ofNat']
  omega
theorem beB_pos (n m : Nat) (h : 0 < m) : beB n m = UInt8.ofNat (n / 256 ^ (m - 1)) :: beB n (m - 1) := by
  obtain ⟨k, rfl⟩ : ∃ k, m = k + 1 := ⟨m - 1, by omega⟩
  rfl
set_option maxRecDepth 100000 in
theorem put_any (n many : Nat) (hn : n < 18446744073709551616) (hm : many ≤ 8) (base : Nat) (v : Value) (l : List UInt8) (hl : l.length ≤ 1000000) (w : World) (ho : Own w base v l) (hb : base ≤ w.heap.size) :
    Calls Try.prog 117 #[v, .int .u64 (n : Int), .int .i64 (many : Int)] w fun e w' => ∃ v', e = .returned v' ∧ Own w' base v' (l ++ beB n many) ∧ Below base w w' := by
  have HN := Lib.hid hn
  clear hn
  go_enter Try.func117, Try.ntmps117
  go_wp2
  go_loopg [0, 2] many (fun gk x0 x2 wr => ∃ (m : Nat) (b : List UInt8), gk = m ∧ m ≤ many ∧ x2 = .int .i64 (m : Int) ∧ b ++ beB n m = l ++ beB n many ∧ Own wr base x0 b ∧ Below base w wr)
  case atStart => exact ⟨many, l, rfl, Nat.le_refl _, rfl, rfl, ho, Below.refl _ _⟩
  case round =>
    obtain ⟨m, b, hgk, hmm, rfl, hbe, hown, hbel⟩ := hrel
    have HG := Lib.hid hgk
    have hsz := hbel.size
    have hbl : b.length ≤ 1000008 := by
      have := congrArg List.length hbe
      rw [List.length_append, List.length_append, beB_len, beB_len] at this
      omega
    have HBE := Lib.hid hbe
    clear hgk hbe
    by_cases h : 0 < m
    · have hba : base ≤ (wr.alloc (.cells #[.int .u8 ((n : Int) / 2 ^ (8 * (m - 1)) % 256)] 5)).heap.size := by simp; omega
      have hlr : b.length + [UInt8.ofNat (n / 256 ^ (m - 1))].length ≤ 140737488355328 := by simp; omega
      go_wp2_with (first
        | (at_builtin; go_must (refine wpList_append_byt _ rfl (.tmp 11) (.tmp 17) rfl base _ b rfl (hown.alloc _) _ _ [UInt8.ofNat (n / 256 ^ (m - 1))] rfl (byt_one wr _ _ (shr_byte n (m - 1))) hlr hba ?_)
           intro v' w1 hown1 hg1 hat1))
      go_roundg (m - 1)
      case measure => have := HG.out; omega
      case rel =>
        refine ⟨m - 1, _, rfl, by omega, by rw [Int.natCast_sub h]; rfl, ?_, hown1, (hbel.alloc (by omega) _).grown hg1 hba (fun g hg => (hown.lt g hg).1)⟩
        rw [List.append_assoc, List.singleton_append, ← beB_pos n m h]
        exact HBE.out
    · obtain rfl : m = 0 := by omega
      have hbe := HBE.out
      simp only [beB, List.append_nil] at hbe
      subst hbe
      go_wp2
      go_ret
      exact ⟨_, rfl, hown, hbel⟩
set_option maxRecDepth 100000 in
theorem big_any (n many : Nat) (hn : n ≤ 9223372036854775807) (hm : many ≤ 8) (w : World) :
    Calls Try.prog 119 #[.int .i64 (n : Int), .int .i64 (many : Int)] w fun e w' => ∃ v', e = .returned v' ∧ Own w' w.heap.size v' (beB n many) ∧ Below w.heap.size w w' := by
  have HN := Lib.hid hn
  clear hn
  go_enter Try.func119, Try.ntmps119
  go_wp2
  go_loopg [5, 6] many (fun gk x5 x6 wr => ∃ (m : Nat) (b : List UInt8), gk = m ∧ m ≤ many ∧ x6 = .int .i64 ((m : Int) - 1) ∧ b ++ beB n m = beB n many ∧ Own wr w.heap.size x5 b ∧ Below w.heap.size w wr)
  case atStart => exact ⟨many, [], rfl, Nat.le_refl _, rfl, rfl, Own.nil_ _ _, Below.refl _ _⟩
  case round =>
    obtain ⟨m, b, hgk, hmm, rfl, hbe, hown, hbel⟩ := hrel
    have HG := Lib.hid hgk
    have hsz := hbel.size
    have hbl : b.length ≤ 8 := by
      have := congrArg List.length hbe
      rw [List.length_append, beB_len, beB_len] at this
      omega
    have HBE := Lib.hid hbe
    clear hgk hbe
    by_cases h : 0 < m
    · obtain ⟨k, rfl⟩ : ∃ k, m = k + 1 := ⟨m - 1, by omega⟩
      have hba : w.heap.size ≤ (wr.alloc (.cells #[.int .u8 ((n : Int) / 2 ^ (8 * k) % 256)] 5)).heap.size := by simp; omega
      have hlr : b.length + [UInt8.ofNat (n / 256 ^ k)].length ≤ 140737488355328 := by simp; omega
      have hk1 : (((k + 1 : Nat) : Int) - 1) = (k : Int) := by omega
      rw [hk1]
      clear hk1
      go_wp2_with (first
        | (at_builtin; go_must (refine wpList_append_byt _ rfl (.tmp 13) (.tmp 19) rfl w.heap.size _ b rfl (hown.alloc _) _ _ [UInt8.ofNat (n / 256 ^ k)] rfl (byt_one wr _ _ (shr_byte n k)) hlr hba ?_)
           intro v' w1 hown1 hg1 hat1))
      go_roundg k
      case measure => have := HG.out; omega
      case rel =>
        refine ⟨k, _, rfl, by omega, rfl, ?_, hown1, (hbel.alloc (by omega) _).grown hg1 hba (fun g hg => (hown.lt g hg).1)⟩
        rw [List.append_assoc, List.singleton_append]
        exact HBE.out
    · obtain rfl : m = 0 := by omega
      have hbe := HBE.out
      simp only [beB, List.append_nil] at hbe
      subst hbe
      go_wp2
      go_ret
      exact ⟨_, rfl, hown, hbel⟩
set_option maxRecDepth 100000 in
theorem rfill_any (B : Nat) (v : Value) (l : List UInt8) (hl : l.length ≤ 64) (w : World) (hv : Byt w B v l) :
    Calls Try.prog 101 #[v] w fun e w' => ∃ v', e = .returned v' ∧ Own w' w.heap.size v' (fillL l) ∧ Below w.heap.size w w' := by
  obtain ⟨A, c, rfl, hc, hm, _⟩ := id hv
  have hown0 := own_lit w [] (by simp [maxLen])
  have HV := Lib.hid (hv.heap.below ((Below.refl w.heap.size w).alloc (Nat.le_refl _) (.cells (([] : List UInt8).map bV).toArray 5)))
  have HO := Lib.hid hown0
  clear hown0 hv
  go_enter Try.func101, Try.ntmps101
  go_wp2_with (first
    | (at_builtin; go_must (refine wpList_append_byt _ rfl (.tmp 4) (.tmp 5) rfl w.heap.size _ [] rfl HO.out _ _ l rfl HV.out (by simp; omega) (by simp) ?_)
       intro v1 w1 hown1 hg1 hat1))
  have hb1 := ((Below.refl w.heap.size w).alloc (Nat.le_refl _) (.cells #[] 5)).grown hg1 (by simp) (fun b hb => by cases hb; exact Nat.le_refl _)
  go_loopg [3] (64 - l.length) (fun gk x3 wr => ∃ (k : Nat), gk = 64 - l.length - k ∧ k ≤ 64 - l.length ∧ Own wr w.heap.size x3 (l ++ List.replicate k 0) ∧ Below w.heap.size w wr)
  case atStart => exact ⟨0, rfl, Nat.zero_le _, by simpa using hown1, hb1⟩
  case round =>
    obtain ⟨k, hgk, hk, hown, hbel⟩ := hrel
    have HG := Lib.hid hgk
    have hsz := hbel.size
    clear hgk hb1 hg1 hat1 hown1
    obtain ⟨A3, c3, rfl, hc3, hm3, _⟩ := hown.byt
    have hlen : (l ++ List.replicate k (0 : UInt8)).length = l.length + k := by simp
    unfold maxLen at hm3
    rw [hlen] at hown hc3 ⊢
    by_cases h : k < 64 - l.length
    · have hba : w.heap.size ≤ (wr.alloc (.cells #[.int .u8 0] 5)).heap.size := by simp; omega
      have hlr : (l ++ List.replicate k (0 : UInt8)).length + [(0 : UInt8)].length ≤ 140737488355328 := by simp; omega
      clear hlen
      go_wp2_with (first
        | (at_builtin; go_must (refine wpList_append_byt _ rfl (.tmp 10) (.tmp 11) rfl w.heap.size _ (l ++ List.replicate k 0) rfl (hown.alloc _) _ _ [0] rfl (byt_one wr _ 0 rfl) hlr hba ?_)
           intro v' w1 hown1 hg1 hat1))
      go_roundg (64 - l.length - (k + 1))
      case measure => have := HG.out; omega
      case rel =>
        refine ⟨k + 1, rfl, by omega, ?_, (hbel.alloc (by omega) _).grown hg1 hba (fun g hg => (hown.lt g hg).1)⟩
        rw [List.replicate_succ', ← List.append_assoc]
        exact hown1
    · obtain rfl : k = 64 - l.length := by omega
      clear hlen
      go_wp2
      go_ret
      exact ⟨_, rfl, hown, hbel⟩
/-- a sector: 64 bytes in a block of its own, which the call has made -/
def SecAt (w : World) (base : Nat) (v : Value) (l : List UInt8) : Prop := ∃ g, v = .slice (some ⟨g, 0, none⟩) 64 64 ∧ base ≤ g ∧ l.length = 64 ∧ w.heap[g]? = some (.cells (l.map bV).toArray 140 (0, 0))
theorem SecAt.byt {w : World} {base : Nat} {v : Value} {l : List UInt8} (h : SecAt w base v l) : Byt w w.heap.size v l := by
  obtain ⟨g, rfl, hb, hl, hg⟩ := h
  refine ⟨some ⟨g, 0, none⟩, 64, by rw [hl], by omega, by simp [maxLen], fun _ => ⟨_, rfl, lt_of_block hg, fun j x hj => ?_⟩⟩
  rw [addr_mk_add]
  simp only [World.cell?, hg, Nat.zero_add]
  simp [hj]
def zs64 : List UInt8 := List.replicate 64 0
theorem splice_fill (l : List UInt8) : splice zs64 0 (l.take l.length) = fillL l := by
  unfold splice fillL zs64
  rw [List.take_length, List.take_zero, List.nil_append, List.drop_replicate, Nat.zero_add]
set_option maxRecDepth 100000 in
theorem tfill_any (B : Nat) (v : Value) (l : List UInt8) (hl : l.length ≤ 64) (w : World) (hv : Byt w B v l) :
    Calls Try.prog 106 #[v] w fun e w' => ∃ v', e = .returned v' ∧ SecAt w' w.heap.size v' (fillL l) ∧ Below w.heap.size w w' := by
  by_cases h0 : 0 < l.length
  · have HV := Lib.hid hv
    clear hv
    go_enter Try.func106, Try.ntmps106
    go_wp2_with ((with_reducible show wpList _ _ _ (⟨some 6, _, _, _, _, _⟩ :: _) _ _); go_loud (refine wpList_copy_page _ rfl (.tmp 4) (.tmp 5) rfl w.heap.size 140 zs64 [] (heap_alloc_new w _) 0 64 64 rfl w.heap.size _ l rfl (HV.out.heap.alloc (Nat.le_refl _) _) h0 l.length (Nat.min_eq_left hl).symm (by simp [zs64]; exact hl) ?_); intro w2 hP2 hk2)
    rw [splice_fill, List.append_nil] at hP2
    go_ret
    refine ⟨_, rfl, ⟨w.heap.size, rfl, Nat.le_refl _, fillL_len l hl, hP2⟩, ?_⟩
    exact ((Below.refl w.heap.size w).alloc (Nat.le_refl _) _).trans (hk2.toBelow (by simp) (fun b hb e => by omega))
  · obtain ⟨A, c, rfl, hc, hm, _⟩ := hv
    obtain rfl : l = [] := List.eq_nil_of_length_eq_zero (by omega)
    go_enter Try.func106, Try.ntmps106
    go_wp2_with ((with_reducible show wpList _ _ _ (⟨some 6, _, _, _, _, _⟩ :: _) _ _); go_must (refine wpList_copy_nothing rfl (.tmp 4) (.tmp 5) 23 23 rfl 5 Try.underlying23 (by kernel_rfl) _ _ 64 64 _ _ rfl rfl rfl ?_))
    go_ret
    refine ⟨_, rfl, ⟨w.heap.size, rfl, Nat.le_refl _, fillL_len [] hl, heap_alloc_new w _⟩, (Below.refl w.heap.size w).alloc (Nat.le_refl _) _⟩
end Go.Proofs.Ytmcjefdnkcpghaa
/- THE WALKS OF tape.Head.right, first, last, Need, AND THE DOCUMENT'S. -/
namespace Go.Proofs.Ytmcjefdnkcpghaa
open Go.RowKit
/-- may a head say so? -/
def rightB (seq len : Int) : Bool := decide (1 ≤ seq ∧ seq ≤ 4611686018427387904 ∧ 1 ≤ len ∧ len ≤ 131072)
theorem rightB_yes {seq len : Int} (h : rightB seq len = true) : 1 ≤ seq ∧ seq ≤ 4611686018427387904 ∧ 1 ≤ len ∧ len ≤ 131072 := by simpa [rightB] using h
theorem rightB_no {seq len : Int} (h : rightB seq len = false) : seq < 1 ∨ 4611686018427387904 < seq ∨ len < 1 ∨ 131072 < len := by
  have : ¬ (1 ≤ seq ∧ seq ≤ 4611686018427387904 ∧ 1 ≤ len ∧ len ≤ 131072) := by simpa [rightB] using h
  omega
def headV (seq len sum : Int) : Value := .agg #[.int .i64 seq, .int .i64 len, .int .u32 sum]
set_option maxRecDepth 100000 in
theorem right_any (seq len sum : Int) (w : World) : Calls Try.prog 95 #[headV seq len sum] w fun e w' => e = .returned (.bool (rightB seq len)) ∧ Below w.heap.size w w' := by
  have hbel : ∀ o, Below w.heap.size w (w.alloc o) := fun o => (Below.refl _ _).alloc (Nat.le_refl _) o
  have HB := Lib.hid hbel
  clear hbel
  unfold headV
  cases hb : rightB seq len with
  | true =>
    obtain ⟨h1, h2, h3, h4⟩ := rightB_yes hb
    clear hb
    go_enter Try.func95, Try.ntmps95
    go_wp2
    go_ret
    exact ⟨rfl, HB.out _⟩
  | false =>
    have h := rightB_no hb
    clear hb
    by_cases h1 : seq < 1
    · go_enter Try.func95, Try.ntmps95
      go_wp2
      go_ret
      exact ⟨rfl, HB.out _⟩
    by_cases h2 : 4611686018427387904 < seq
    · have e1 : decide (1 ≤ seq) = true := decide_eq_true (by omega)
      go_enter Try.func95, Try.ntmps95
      go_wp2
      go_ret
      exact ⟨rfl, HB.out _⟩
    have e1 : decide (1 ≤ seq) = true := decide_eq_true (by omega)
    have e2 : decide (seq ≤ 4611686018427387904) = true := decide_eq_true (by omega)
    by_cases h3 : len < 1
    · clear h
      go_enter Try.func95, Try.ntmps95
      go_wp2
      go_ret
      exact ⟨rfl, HB.out _⟩
    have e3 : decide (1 ≤ len) = true := decide_eq_true (by omega)
    have h4 : 131072 < len := by omega
    have e4 : decide (len ≤ 131072) = false := decide_eq_false (by omega)
    clear h
    go_enter Try.func95, Try.ntmps95
    go_wp2
    go_ret
    exact ⟨rfl, HB.out _⟩
def needI (n : Int) : Int := if n < 1 ∨ 131072 < n then 0 else 2 + (n + 63) / 64
set_option maxRecDepth 100000 in
theorem need_any (n : Int) (w : World) : Calls Try.prog 53 #[.int .i64 n] w fun e w' => e = .returned (.int .i64 (needI n)) ∧ w = w' := by
  by_cases h1 : n < 1
  · rw [needI, if_pos (.inl h1)]
    go_enter Try.func53, Try.ntmps53
    go_wp2
    go_ret
    exact ⟨rfl, rfl⟩
  by_cases h2 : 131072 < n
  · have e1 : decide (n < 1) = false := decide_eq_false h1
    rw [needI, if_pos (.inr h2)]
    go_enter Try.func53, Try.ntmps53
    go_wp2
    go_ret
    exact ⟨rfl, rfl⟩
  · have e1 : decide (n < 1) = false := decide_eq_false h1
    have e2 : decide (131072 < n) = false := decide_eq_false h2
    rw [needI, if_neg (by omega)]
    go_enter Try.func53, Try.ntmps53
    go_wp2
    go_ret
    exact ⟨ret_int (by omega), rfl⟩
theorem own_one (w : World) (b : UInt8) : Own (w.alloc (.cells #[.int .u8 (b.toNat : Int)] 5)) w.heap.size (.slice (some ⟨w.heap.size, 0, none⟩) 1 1) [b] := by
  have := own_lit w [b] (by simp [maxLen])
  simpa [bV] using this
set_option maxRecDepth 100000 in
theorem first_any (seq len sum : Nat) (h1 : seq ≤ 4611686018427387904) (h2 : len ≤ 131072) (h3 : sum < 4294967296) (w : World) :
    Calls Try.prog 96 #[headV seq len sum] w fun e w' => ∃ v', e = .returned v' ∧ SecAt w' w.heap.size v' (firstL seq len sum) ∧ Below w.heap.size w w' := by
  have hbox := heap_alloc_new w (.cells #[.int .i64 (seq : Int), .int .i64 (len : Int), .int .u32 (sum : Int)] 77 (0, 0))
  have hb0 := (Below.refl w.heap.size w).alloc (Nat.le_refl _) (.cells #[.int .i64 (seq : Int), .int .i64 (len : Int), .int .u32 (sum : Int)] 77)
  have hp1 := put_any seq 8 (by omega) (by omega) _ _ [72] (by simp) _ (own_one (w.alloc (.cells #[.int .i64 (seq : Int), .int .i64 (len : Int), .int .u32 (sum : Int)] 77)) 72) (by simp)
  simp only [World.size_alloc] at hp1
  have HBOX := Lib.hid hbox
  have HB0 := Lib.hid hb0
  clear hbox hb0
  unfold headV
  go_enter Try.func96, Try.ntmps96
  go_wp2_with fail
  refine hp1.mono ?_
  rintro e w1 ⟨v1, rfl, ho1, hb1⟩
  have hx1 := (hb1.block w.heap.size (Nat.lt_succ_self _)).trans ((Below.heap_alloc _ _ _ (by simp)).trans HBOX.out)
  have c1 := cells_of hx1 1 _ rfl
  have c2 := cells_of hx1 2 _ rfl
  have hs1 := hb1.size
  simp only [World.size_alloc] at hs1
  have hp2 := put_any len 4 (by omega) (by omega) _ _ _ (by simp [beB_len]) _ ho1 (by omega)
  go_wp2_with fail
  refine hp2.mono ?_
  rintro e w2 ⟨v2, rfl, ho2, hb2⟩
  have hx2 := (hb2.block w.heap.size (Nat.lt_succ_self _)).trans hx1
  have d2 := cells_of hx2 2 _ rfl
  have hs2 := hb2.size
  have hp3 := put_any sum 4 (by omega) (by omega) _ _ _ (by simp [beB_len]) _ ho2 (by omega)
  go_wp2_with fail
  refine hp3.mono ?_
  rintro e w3 ⟨v3, rfl, ho3, hb3⟩
  have hs3 := hb3.size
  have hp4 := wrap_any _ _ _ _ ho3.byt (by simp [beB_len])
  go_wp2_with fail
  refine hp4.mono ?_
  rintro e w4 ⟨v4, rfl, ho4, hb4⟩
  have hp5 := tfill_any _ _ _ (by rw [wrapL_len]; simp [beB_len]) _ ho4.byt
  go_wp2_with fail
  refine hp5.mono ?_
  rintro e w5 ⟨v5, rfl, ho5, hb5⟩
  have hs4 := hb4.size
  obtain ⟨g, rfl, hg, hl, hh⟩ := ho5
  go_wp2
  go_ret
  refine ⟨_, rfl, ⟨g, rfl, by omega, firstL_len _ _ _, ?_⟩, ?_⟩
  · simpa [firstL] using hh
  · have hb01 := HB0.out.trans (((Below.refl (w.heap.size + 1) (w.alloc (.cells #[.int .i64 (seq : Int), .int .i64 (len : Int), .int .u32 (sum : Int)] 77))).alloc (by simp) (.cells #[.int .u8 72] 5)).trans hb1 |>.mono (Nat.le_succ _))
    have hbb := ((hb01.trans (hb2.mono (Nat.le_succ _))).trans (hb3.mono (Nat.le_succ _))).trans (hb4.mono (by omega))
    exact hbb.trans (hb5.mono (by omega))
-- made
set_option maxRecDepth 100000 in
theorem rright_any (seq len sum : Int) (w : World) : Calls Try.prog 99 #[headV seq len sum] w fun e w' => e = .returned (.bool (rightB seq len)) ∧ Below w.heap.size w w' := by
  have hbel : ∀ o, Below w.heap.size w (w.alloc o) := fun o => (Below.refl _ _).alloc (Nat.le_refl _) o
  have HB := Lib.hid hbel
  clear hbel
  unfold headV
  cases hb : rightB seq len with
  | true =>
    obtain ⟨h1, h2, h3, h4⟩ := rightB_yes hb
    clear hb
    go_enter Try.func99, Try.ntmps99
    go_wp2
    go_ret
    exact ⟨rfl, HB.out _⟩
  | false =>
    have h := rightB_no hb
    clear hb
    by_cases h1 : seq < 1
    · go_enter Try.func99, Try.ntmps99
      go_wp2
      go_ret
      exact ⟨rfl, HB.out _⟩
    by_cases h2 : 4611686018427387904 < seq
    · have e1 : decide (1 ≤ seq) = true := decide_eq_true (by omega)
      go_enter Try.func99, Try.ntmps99
      go_wp2
      go_ret
      exact ⟨rfl, HB.out _⟩
    have e1 : decide (1 ≤ seq) = true := decide_eq_true (by omega)
    have e2 : decide (seq ≤ 4611686018427387904) = true := decide_eq_true (by omega)
    by_cases h3 : len < 1
    · clear h
      go_enter Try.func99, Try.ntmps99
      go_wp2
      go_ret
      exact ⟨rfl, HB.out _⟩
    have e3 : decide (1 ≤ len) = true := decide_eq_true (by omega)
    have h4 : 131072 < len := by omega
    have e4 : decide (len ≤ 131072) = false := decide_eq_false (by omega)
    clear h
    go_enter Try.func99, Try.ntmps99
    go_wp2
    go_ret
    exact ⟨rfl, HB.out _⟩
set_option maxRecDepth 100000 in
theorem rneed_any (n : Int) (w : World) : Calls Try.prog 54 #[.int .i64 n] w fun e w' => e = .returned (.int .i64 (needI n)) ∧ w = w' := by
  by_cases h1 : n < 1
  · rw [needI, if_pos (.inl h1)]
    go_enter Try.func54, Try.ntmps54
    go_wp2
    go_ret
    exact ⟨rfl, rfl⟩
  by_cases h2 : 131072 < n
  · have e1 : decide (n < 1) = false := decide_eq_false h1
    rw [needI, if_pos (.inr h2)]
    go_enter Try.func54, Try.ntmps54
    go_wp2
    go_ret
    exact ⟨rfl, rfl⟩
  · have e1 : decide (n < 1) = false := decide_eq_false h1
    have e2 : decide (131072 < n) = false := decide_eq_false h2
    rw [needI, if_neg (by omega)]
    go_enter Try.func54, Try.ntmps54
    go_wp2
    go_ret
    exact ⟨ret_int (by omega), rfl⟩
set_option maxRecDepth 100000 in
theorem last_any (seq sum : Nat) (h1 : seq ≤ 4611686018427387904) (h3 : sum < 4294967296) (len : Int) (w : World) :
    Calls Try.prog 98 #[headV seq len sum] w fun e w' => ∃ v', e = .returned v' ∧ SecAt w' w.heap.size v' (lastL seq sum) ∧ Below w.heap.size w w' := by
  have hbox := heap_alloc_new w (.cells #[.int .i64 (seq : Int), .int .i64 len, .int .u32 (sum : Int)] 77 (0, 0))
  have hb0 := (Below.refl w.heap.size w).alloc (Nat.le_refl _) (.cells #[.int .i64 (seq : Int), .int .i64 len, .int .u32 (sum : Int)] 77)
  have hp1 := put_any seq 8 (by omega) (by omega) _ _ [69] (by simp) _ (own_one (w.alloc (.cells #[.int .i64 (seq : Int), .int .i64 len, .int .u32 (sum : Int)] 77)) 69) (by simp)
  simp only [World.size_alloc] at hp1
  have HBOX := Lib.hid hbox
  have HB0 := Lib.hid hb0
  clear hbox hb0
  unfold headV
  go_enter Try.func98, Try.ntmps98
  go_wp2_with fail
  refine hp1.mono ?_
  rintro e w1 ⟨v1, rfl, ho1, hb1⟩
  have hx1 := (hb1.block w.heap.size (Nat.lt_succ_self _)).trans ((Below.heap_alloc _ _ _ (by simp)).trans HBOX.out)
  have c1_2 := cells_of hx1 2 _ rfl
  have hs1 := hb1.size
  simp only [World.size_alloc] at hs1
  have hp2 := put_any sum 4 (by omega) (by omega) _ _ _ (by simp [beB_len]) _ ho1 (by omega)
  go_wp2_with fail
  refine hp2.mono ?_
  rintro e w2 ⟨v2, rfl, ho2, hb2⟩
  have hx2 := (hb2.block w.heap.size (Nat.lt_succ_self _)).trans hx1
  have hs2 := hb2.size
  have hpw := wrap_any _ _ _ _ ho2.byt (by simp [beB_len])
  go_wp2_with fail
  refine hpw.mono ?_
  rintro e w8 ⟨v8, rfl, ho8, hb8⟩
  have hpf := tfill_any _ _ _ (by rw [wrapL_len]; simp [beB_len]) _ ho8.byt
  go_wp2_with fail
  refine hpf.mono ?_
  rintro e w9 ⟨v9, rfl, ho9, hb9⟩
  have hs8 := hb8.size
  obtain ⟨g, rfl, hg, hl, hh⟩ := ho9
  go_wp2
  go_ret
  refine ⟨_, rfl, ⟨g, rfl, by omega, lastL_len _ _, ?_⟩, ?_⟩
  · simpa [lastL] using hh
  · have hb01 := HB0.out.trans (((Below.refl (w.heap.size + 1) (w.alloc (.cells #[.int .i64 (seq : Int), .int .i64 len, .int .u32 (sum : Int)] 77))).alloc (by simp) (.cells #[.int .u8 69] 5)).trans hb1 |>.mono (Nat.le_succ _))
    exact ((hb01.trans (hb2.mono (Nat.le_succ _))).trans (hb8.mono (by omega))).trans (hb9.mono (by omega))
set_option maxRecDepth 100000 in
theorem rfirst_any (seq len sum : Nat) (h1 : seq ≤ 4611686018427387904) (h2 : len ≤ 131072) (h3 : sum < 4294967296) (w : World) :
    Calls Try.prog 100 #[headV seq len sum] w fun e w' => ∃ v', e = .returned v' ∧ Own w' w.heap.size v' (firstL seq len sum) ∧ Below w.heap.size w w' := by
  have hbox := heap_alloc_new w (.cells #[.int .i64 (seq : Int), .int .i64 (len : Int), .int .u32 (sum : Int)] 81 (0, 0))
  have hb0 := (Below.refl w.heap.size w).alloc (Nat.le_refl _) (.cells #[.int .i64 (seq : Int), .int .i64 (len : Int), .int .u32 (sum : Int)] 81)
  have ho0 := own_one (w.alloc (.cells #[.int .i64 (seq : Int), .int .i64 (len : Int), .int .u32 (sum : Int)] 81)) 72
  have hb0' := (Below.refl (w.heap.size + 1) (w.alloc (.cells #[.int .i64 (seq : Int), .int .i64 (len : Int), .int .u32 (sum : Int)] 81))).alloc (by simp) (.cells #[.int .u8 72] 5)
  simp only [World.size_alloc] at ho0
  have HBOX := Lib.hid hbox
  have HB0 := Lib.hid hb0
  have HB1 := Lib.hid hb0'
  have HO0 := Lib.hid ho0
  clear hbox hb0 ho0 hb0'
  unfold headV
  go_enter Try.func100, Try.ntmps100
  go_wp2_with fail
  refine (big_any seq 8 (by omega) (by omega) _).mono ?_
  rintro e w1 ⟨v1, rfl, ho1, hb1⟩
  have hx1 := (hb1.block w.heap.size (by simp <;> omega)).trans ((Below.heap_alloc _ _ _ (by simp)).trans HBOX.out)
  have hbb1 := HB1.out.trans (hb1.mono (by simp))
  have hr1 := HO0.out.below hb1
  have hs1 := hbb1.size
  simp only [World.size_alloc] at hs1
  go_wp2_with ((at_builtin; go_must (refine wpList_append_byt _ rfl (.tmp 4) (.tmp 7) rfl (w.heap.size + 1) _ _ rfl hr1 _ _ (beB seq 8) rfl ho1.byt (by simp [beB_len]) (by omega) ?_); intro y1 x1 hro1 hg1 _; have hy1 := (hg1.block w.heap.size (lt_of_block hx1) (fun e => (by have := (hr1.lt _ e.symm).1; omega))).trans hx1; have hbc1 := hbb1.grown hg1 (by omega) (fun b hb => (hr1.lt b hb).1); have c1_1 := cells_of hy1 1 _ rfl; have c1_2 := cells_of hy1 2 _ rfl; have hq1 := hbc1.size; simp only [World.size_alloc] at hq1))
  go_wp2_with fail
  refine (big_any len 4 (by omega) (by omega) _).mono ?_
  rintro e w2 ⟨v2, rfl, ho2, hb2⟩
  have hx2 := (hb2.block w.heap.size (by omega)).trans hy1
  have hbb2 := hbc1.trans (hb2.mono (by omega))
  have hr2 := hro1.below hb2
  have hs2 := hbb2.size
  simp only [World.size_alloc] at hs2
  go_wp2_with ((at_builtin; go_must (refine wpList_append_byt _ rfl (.tmp 9) (.tmp 12) rfl (w.heap.size + 1) _ _ rfl hr2 _ _ (beB len 4) rfl ho2.byt (by simp [beB_len]) (by omega) ?_); intro y2 x2 hro2 hg2 _; have hy2 := (hg2.block w.heap.size (lt_of_block hx2) (fun e => (by have := (hr2.lt _ e.symm).1; omega))).trans hx2; have hbc2 := hbb2.grown hg2 (by omega) (fun b hb => (hr2.lt b hb).1); have c2_2 := cells_of hy2 2 _ rfl; have hq2 := hbc2.size; simp only [World.size_alloc] at hq2))
  go_wp2_with fail
  refine (big_any sum 4 (by omega) (by omega) _).mono ?_
  rintro e w3 ⟨v3, rfl, ho3, hb3⟩
  have hx3 := (hb3.block w.heap.size (by omega)).trans hy2
  have hbb3 := hbc2.trans (hb3.mono (by omega))
  have hr3 := hro2.below hb3
  have hs3 := hbb3.size
  simp only [World.size_alloc] at hs3
  go_wp2_with ((at_builtin; go_must (refine wpList_append_byt _ rfl (.tmp 14) (.tmp 18) rfl (w.heap.size + 1) _ _ rfl hr3 _ _ (beB sum 4) rfl ho3.byt (by simp [beB_len]) (by omega) ?_); intro y3 x3 hro3 hg3 _; have hy3 := (hg3.block w.heap.size (lt_of_block hx3) (fun e => (by have := (hr3.lt _ e.symm).1; omega))).trans hx3; have hbc3 := hbb3.grown hg3 (by omega) (fun b hb => (hr3.lt b hb).1); have hq3 := hbc3.size; simp only [World.size_alloc] at hq3))
  refine (rwrap_any _ _ _ _ hro3.byt (by simp [beB_len])).mono ?_
  rintro e w8 ⟨v8, rfl, ho8, hb8⟩
  have hpf := rfill_any _ _ _ (by rw [wrapL_len]; simp [beB_len]) _ ho8.byt
  go_wp2_with fail
  refine hpf.mono ?_
  rintro e w9 ⟨v9, rfl, ho9, hb9⟩
  have hs8 := hb8.size
  go_wp2
  go_ret
  refine ⟨_, rfl, ?_, ?_⟩
  · have := ho9.more (base' := w.heap.size) (by omega)
    simpa [firstL] using this
  · exact (HB0.out.trans ((hbc3.mono (Nat.le_succ _)).trans ((hb8.mono (by omega)).trans (hb9.mono (by omega)))))
set_option maxRecDepth 100000 in
theorem rlast_any (seq sum : Nat) (h1 : seq ≤ 4611686018427387904) (h3 : sum < 4294967296) (len : Int) (w : World) :
    Calls Try.prog 102 #[headV seq len sum] w fun e w' => ∃ v', e = .returned v' ∧ Own w' w.heap.size v' (lastL seq sum) ∧ Below w.heap.size w w' := by
  have hbox := heap_alloc_new w (.cells #[.int .i64 (seq : Int), .int .i64 len, .int .u32 (sum : Int)] 81 (0, 0))
  have hb0 := (Below.refl w.heap.size w).alloc (Nat.le_refl _) (.cells #[.int .i64 (seq : Int), .int .i64 len, .int .u32 (sum : Int)] 81)
  have ho0 := own_one (w.alloc (.cells #[.int .i64 (seq : Int), .int .i64 len, .int .u32 (sum : Int)] 81)) 69
  have hb0' := (Below.refl (w.heap.size + 1) (w.alloc (.cells #[.int .i64 (seq : Int), .int .i64 len, .int .u32 (sum : Int)] 81))).alloc (by simp) (.cells #[.int .u8 69] 5)
  simp only [World.size_alloc] at ho0
  have HBOX := Lib.hid hbox
  have HB0 := Lib.hid hb0
  have HB1 := Lib.hid hb0'
  have HO0 := Lib.hid ho0
  clear hbox hb0 ho0 hb0'
  unfold headV
  go_enter Try.func102, Try.ntmps102
  go_wp2_with fail
  refine (big_any seq 8 (by omega) (by omega) _).mono ?_
  rintro e w1 ⟨v1, rfl, ho1, hb1⟩
  have hx1 := (hb1.block w.heap.size (by simp <;> omega)).trans ((Below.heap_alloc _ _ _ (by simp)).trans HBOX.out)
  have hbb1 := HB1.out.trans (hb1.mono (by simp))
  have hr1 := HO0.out.below hb1
  have hs1 := hbb1.size
  simp only [World.size_alloc] at hs1
  go_wp2_with ((at_builtin; go_must (refine wpList_append_byt _ rfl (.tmp 4) (.tmp 7) rfl (w.heap.size + 1) _ _ rfl hr1 _ _ (beB seq 8) rfl ho1.byt (by simp [beB_len]) (by omega) ?_); intro y1 x1 hro1 hg1 _; have hy1 := (hg1.block w.heap.size (lt_of_block hx1) (fun e => (by have := (hr1.lt _ e.symm).1; omega))).trans hx1; have hbc1 := hbb1.grown hg1 (by omega) (fun b hb => (hr1.lt b hb).1); have c1_2 := cells_of hy1 2 _ rfl; have hq1 := hbc1.size; simp only [World.size_alloc] at hq1))
  go_wp2_with fail
  refine (big_any sum 4 (by omega) (by omega) _).mono ?_
  rintro e w2 ⟨v2, rfl, ho2, hb2⟩
  have hx2 := (hb2.block w.heap.size (by omega)).trans hy1
  have hbb2 := hbc1.trans (hb2.mono (by omega))
  have hr2 := hro1.below hb2
  have hs2 := hbb2.size
  simp only [World.size_alloc] at hs2
  go_wp2_with ((at_builtin; go_must (refine wpList_append_byt _ rfl (.tmp 9) (.tmp 13) rfl (w.heap.size + 1) _ _ rfl hr2 _ _ (beB sum 4) rfl ho2.byt (by simp [beB_len]) (by omega) ?_); intro y2 x2 hro2 hg2 _; have hy2 := (hg2.block w.heap.size (lt_of_block hx2) (fun e => (by have := (hr2.lt _ e.symm).1; omega))).trans hx2; have hbc2 := hbb2.grown hg2 (by omega) (fun b hb => (hr2.lt b hb).1); have hq2 := hbc2.size; simp only [World.size_alloc] at hq2))
  refine (rwrap_any _ _ _ _ hro2.byt (by simp [beB_len])).mono ?_
  rintro e w8 ⟨v8, rfl, ho8, hb8⟩
  have hpf := rfill_any _ _ _ (by rw [wrapL_len]; simp [beB_len]) _ ho8.byt
  go_wp2_with fail
  refine hpf.mono ?_
  rintro e w9 ⟨v9, rfl, ho9, hb9⟩
  have hs8 := hb8.size
  go_wp2
  go_ret
  refine ⟨_, rfl, ?_, ?_⟩
  · have := ho9.more (base' := w.heap.size) (by omega)
    simpa [lastL] using this
  · exact (HB0.out.trans ((hbc2.mono (Nat.le_succ _)).trans ((hb8.mono (by omega)).trans (hb9.mono (by omega)))))
end Go.Proofs.Ytmcjefdnkcpghaa
/- A ROW OF BYTE SLICES OF THE CALL'S OWN, AND WHAT ITS ELEMENTS READ AS. -/
namespace Go.Proofs.Ytmcjefdnkcpghaa
open Go.RowKit
abbrev Tri := Option Addr × Nat × Nat
/-- an element: a slice, as a value -/
def triK : Kd Tri := ⟨23, fun t => .slice t.1 t.2.1 t.2.2, .slice none 0 0, 24, fun _ => rfl, by kernel_rfl, rfl⟩
/-- v reads as l; its block is among D, and is no row of slices -/
def BytN (D : Nat → Prop) (w : World) (v : Value) (l : List UInt8) : Prop :=
  Byt w w.heap.size v l ∧ ∀ ad n c, v = .slice (some ad) n c → 0 < l.length → D ad.block ∧ ∃ cs t fr, w.heap[ad.block]? = some (.cells cs t fr) ∧ t ≠ 23 ∧ t ≠ 35
section
variable {D D' S : Nat → Prop} {w w' : World} {base base' B : Nat} {v x : Value} {l : List UInt8} {ls : List (List UInt8)} {ts : List Tri} {t : Tri}
theorem BytN.kept (h : BytN D w v l) (k : Kept S w w') (hs : ∀ b, D b → S b) : BytN D w' v l := by
  obtain ⟨⟨A, c, hv, hc, hm, hr⟩, h2⟩ := h
  by_cases h0 : 0 < l.length
  · obtain ⟨ad, hA, hb, hx⟩ := hr h0
    subst hA hv
    obtain ⟨hd, cs, t, fr, hh, ht⟩ := h2 ad l.length c rfl h0
    have hlt := lt_of_block hh
    have hk := k.heap hh (hs _ hd)
    refine ⟨⟨some ad, c, rfl, hc, hm, fun _ => ⟨ad, rfl, lt_of_block hk, fun j y hj => ?_⟩⟩, fun ad' n' c' e _ => ?_⟩
    · exact (k.cell (p := ad.add j) (by rw [addr_add_block]; exact hlt) (by rw [addr_add_block]; exact hs _ hd)).trans (hx j y hj)
    · cases e; exact ⟨hd, cs, t, fr, hk, ht⟩
  · exact ⟨⟨A, c, hv, hc, hm, fun h => absurd h h0⟩, fun ad n' c' _ h => absurd h h0⟩
theorem BytN.below (h : BytN D w v l) (k : Below w.heap.size w w') : BytN D w' v l := h.kept (S := fun _ => True) (Kept.ofBelow k) (fun _ _ => trivial)
theorem BytN.mono (h : BytN D w v l) (hd : ∀ b, D b → D' b) : BytN D' w v l := ⟨h.1, fun ad n c e h0 => ⟨hd _ (h.2 ad n c e h0).1, (h.2 ad n c e h0).2⟩⟩
/-- a store into a row of slices -/
theorem BytN.grown {row : Option Nat} (h : BytN D w v l) (hg : w.grownBy w' row) (hr : ∀ g, row = some g → ∃ cs fr, w.heap[g]? = some (.cells cs 23 fr)) : BytN D w' v l := by
  refine (show BytN (fun b => D b ∧ row ≠ some b) w v l from ⟨h.1, fun ad n c e h0 => ?_⟩).kept (S := fun b => row ≠ some b) ((Kept.refl _ w).grown hg (fun k hk _ hS => hS hk)) (fun b hb => hb.2) |>.mono fun b hb => hb.1
  obtain ⟨h1, cs, t, fr, hh, ht⟩ := h.2 ad n c e h0
  refine ⟨⟨h1, fun e => ?_⟩, cs, t, fr, hh, ht⟩
  obtain ⟨cs', fr', hg'⟩ := hr _ e
  rw [hh] at hg'
  injection hg' with hg'
  injection hg' with _ hg' _
  exact ht.1 hg'
theorem SecAt.bytn (h : SecAt w base v l) (hd : ∀ b, base ≤ b → D b) : BytN D w v l := by
  refine ⟨h.byt, fun ad n c e _ => ?_⟩
  obtain ⟨g, rfl, hb, hl, hg⟩ := h
  cases e
  exact ⟨hd _ hb, _, _, _, hg, by decide⟩
theorem Own.bytn (h : Own w base v l) (hd : ∀ b, base ≤ b → D b) : BytN D w v l := by
  refine ⟨h.byt, fun ad n c e _ => ?_⟩
  rcases h.2 with ⟨rfl, _⟩ | ⟨g, cap, cur, rfl, hb, hg, _⟩
  · cases e
  · cases e; exact ⟨hd _ hb, _, _, _, hg, by decide⟩
def RowsN (D : Nat → Prop) (w : World) (ts : List Tri) (ls : List (List UInt8)) : Prop := ts.length = ls.length ∧ ∀ (j : Nat) (t : Tri) (l : List UInt8), ts[j]? = some t → ls[j]? = some l → BytN D w (triK.enc t) l
/-- a row of the call's own, whose elements read as ls -/
def OwB (D : Nat → Prop) (w : World) (base : Nat) (v : Value) (ls : List (List UInt8)) : Prop := ∃ ts, Ow triK w base v ts ∧ (∀ g, v.ownBlock = some g → D g) ∧ RowsN D w ts ls
theorem Ow.kept {α : Type} {K : Kd α} {l : List α} (ho : Ow K w base v l) (k : Kept S w w') (hs : ∀ g, v.ownBlock = some g → S g) : Ow K w' base v l := by
  obtain ⟨h1, h2⟩ := ho
  refine ⟨h1, ?_⟩
  rcases h2 with h2 | ⟨g, cap, cur, rfl, hb', hg, r⟩
  · exact .inl h2
  · exact .inr ⟨g, cap, cur, rfl, hb', k.heap hg (hs g rfl), r⟩
theorem OwB.kept (h : OwB D w base v ls) (k : Kept S w w') (hs : ∀ b, D b → S b) : OwB D w' base v ls := by
  obtain ⟨ts, h1, h2, h3, h4⟩ := h
  exact ⟨ts, h1.kept k (fun g hg => hs g (h2 g hg)), h2, h3, fun j t l a b => (h4 j t l a b).kept k hs⟩
theorem OwB.below (h : OwB D w base v ls) (k : Below w.heap.size w w') : OwB D w' base v ls := h.kept (S := fun _ => True) (Kept.ofBelow k) (fun _ _ => trivial)
theorem OwB.mono (h : OwB D w base v ls) (hd : ∀ b, D b → D' b) : OwB D' w base v ls := by
  obtain ⟨ts, h1, h2, h3, h4⟩ := h
  exact ⟨ts, h1, fun g hg => hd g (h2 g hg), h3, fun j t l a b => (h4 j t l a b).mono hd⟩
theorem OwB.more (h : OwB D w base v ls) (hb : base' ≤ base) : OwB D w base' v ls := by
  obtain ⟨ts, h1, h2, h3⟩ := h
  exact ⟨ts, h1.more hb, h2, h3⟩
theorem OwB.byts (h : OwB D w base v ls) : Byts w w.heap.size v ls := by
  obtain ⟨ts, h1, h2, h3, h4⟩ := h
  obtain ⟨A, c, hv, hc, hm, hr⟩ := h1.sl
  refine ⟨A, c, by rw [← h3]; exact hv, by rw [← h3]; exact hc, hm, fun h0 => ?_⟩
  rw [← h3] at h0
  obtain ⟨ad, hA, hb, hx⟩ := hr h0
  refine ⟨ad, hA, hb, fun j l hj => ?_⟩
  have hlt : j < ts.length := by rw [h3]; exact (List.getElem?_eq_some_iff.1 hj).1
  exact ⟨_, hx j _ (List.getElem?_eq_getElem hlt), (h4 j _ l (List.getElem?_eq_getElem hlt) hj).1⟩
theorem OwB.form (h : OwB D w base v ls) : ∃ A n c, v = .slice A n c ∧ n = ls.length := by
  obtain ⟨ts, h1, _, h3, _⟩ := h
  obtain ⟨A, c, hv, _⟩ := h1.sl
  exact ⟨A, _, c, hv, h3⟩
theorem OwB.nil_ (D : Nat → Prop) (w : World) (base : Nat) : OwB D w base (.slice none 0 0) [] := ⟨[], Ow.nil_ _ _ _, fun g hg => by simp [Value.ownBlock] at hg, rfl, fun j t l h => by simp at h⟩
theorem Ow.kind {α : Type} {K : Kd α} {l : List α} (h : Ow K w base v l) : ∀ g, v.ownBlock = some g → ∃ cs fr, w.heap[g]? = some (.cells cs K.E fr) := by
  intro g hg
  rcases h.2 with ⟨rfl, _⟩ | ⟨g', cap, cur, rfl, _, hh, _⟩
  · simp [Value.ownBlock] at hg
  · simp [Value.ownBlock] at hg; subst hg; exact ⟨cur, _, hh⟩
/-- behind an append -/
theorem OwB.grown (h : RowsN D w ts ls) (h0 : Ow triK w base x ts) (hx : BytN D w (triK.enc t) l) {v' : Value} (h1 : Ow triK w' base v' (ts ++ [t])) (hg : w.grownBy w' x.ownBlock) (hD0 : ∀ g, x.ownBlock = some g → D g) (hat : v'.ownBlock = x.ownBlock ∨ v'.ownBlock = some w.heap.size) (hD : D w.heap.size) : OwB D w' base v' (ls ++ [l]) := by
  have hk := h0.kind
  refine ⟨ts ++ [t], h1, fun g hg => ?_, by simp [h.1], fun j t' l' a b => ?_⟩
  · rcases hat with e | e
    · exact hD0 g (e ▸ hg)
    · rw [e] at hg; cases hg; exact hD
  · by_cases hj : j < ts.length
    · rw [List.getElem?_append_left hj] at a
      rw [List.getElem?_append_left (by rw [← h.1]; exact hj)] at b
      exact (h.2 j t' l' a b).grown hg hk
    · rw [List.getElem?_append_right (by omega)] at a
      rw [List.getElem?_append_right (by rw [← h.1]; omega), ← h.1] at b
      have : j - ts.length = 0 := by
        have := (List.getElem?_eq_some_iff.1 a).1
        simp at this; omega
      rw [this] at a b
      simp at a b
      subst a b
      exact hx.grown hg hk
/-- append of one more element -/
theorem wpList_append_one {ops : Array Oper} {rest : List Oper} {o : Oper} {a : Act} {Q : Exit → Act → World → Prop} (hgd : o.guard = none) (s y : Operand)
    (ho : o.op = .call { callee := .builtin .append, args := #[s, y], argTypes := #[35, 35] })
    (hs : a.eval s = v) (hown : OwB D w base v ls) (A : Option Addr) (n c : Nat) (hx : BytN D w (.slice A n c) l) (hy : a.eval y = .slice (some ⟨w.heap.size, 0, none⟩) 1 1)
    (hlen : ls.length + 1 ≤ 1000000) (hbase : base ≤ w.heap.size) (hD : ∀ b, w.heap.size ≤ b → D b)
    (h : ∀ v' w', OwB D w' base v' (ls ++ [l]) → w.grownBy w' v.ownBlock → (v'.ownBlock = v.ownBlock ∨ v'.ownBlock = some (w.heap.size + 1)) → wpList Try.prog ops Q rest (a.put o.dst v') w') :
    wpList Try.prog ops Q (o :: rest) a (w.alloc (.cells #[.slice A n c] 23)) := by
  obtain ⟨ts, h1, h2, h3⟩ := hown
  have hal := (Below.refl w.heap.size w).alloc (Nat.le_refl _) (.cells #[.slice A n c] 23)
  have h3' : RowsN D (w.alloc (.cells #[.slice A n c] 23)) ts ls := ⟨h3.1, fun j t l a b => (h3.2 j t l a b).below hal⟩
  refine wpList_append_sl triK _ hgd s y 35 ho Try.underlying35 base v ts hs (h1.alloc _) _ _ [(A, n, c)] hy (sl_one triK w (A, n, c)) (by have := h3.1; simp; omega) (by decide) (by simp; omega) ?_
  intro v' w' ho' hg' hat'
  refine h v' w' (OwB.grown (x := v) (t := (A, n, c)) (l := l) h3' (h1.alloc _) (hx.below hal) ho' hg' h2 hat' (hD _ (by simp))) ?_ (by simpa using hat')
  exact ⟨hg'.os, hg'.tape, hg'.output, Nat.le_trans (by simp) hg'.size, fun b hb hne => (hg'.block b (by simp; omega) hne).trans (Below.heap_alloc _ _ _ hb)⟩
/-- the same at a step of a region that draws its order -/
theorem step_append_one {ops : Array Oper} {o : Oper} {a : Act} {Kk : Act → World → Prop} {Q : Exit → Act → World → Prop} {E : Prop} (hgd : o.guard = none) (s y : Operand)
    (ho : o.op = .call { callee := .builtin .append, args := #[s, y], argTypes := #[35, 35] })
    (hs : a.eval s = v) (hown : OwB D w base v ls) (A : Option Addr) (n c : Nat) (hx : BytN D w (.slice A n c) l) (hy : a.eval y = .slice (some ⟨w.heap.size, 0, none⟩) 1 1)
    (hlen : ls.length + 1 ≤ 1000000) (hbase : base ≤ w.heap.size) (hD : ∀ b, w.heap.size ≤ b → D b)
    (h : ∀ v' w', OwB D w' base v' (ls ++ [l]) → w.grownBy w' v.ownBlock → (v'.ownBlock = v.ownBlock ∨ v'.ownBlock = some (w.heap.size + 1)) → Kk (a.put o.dst v') w') :
    if Region.wanted o (yielded ops a.tmps) = true then Oper.wp Try.prog o a (w.alloc (.cells #[.slice A n c] 23)) Kk Q else E := by
  obtain ⟨ts, h1, h2, h3⟩ := hown
  have hal := (Below.refl w.heap.size w).alloc (Nat.le_refl _) (.cells #[.slice A n c] 23)
  have h3' : RowsN D (w.alloc (.cells #[.slice A n c] 23)) ts ls := ⟨h3.1, fun j t l a b => (h3.2 j t l a b).below hal⟩
  refine step_append_sl triK _ hgd s y 35 ho Try.underlying35 base v ts hs (h1.alloc _) _ _ [(A, n, c)] hy (sl_one triK w (A, n, c)) (by have := h3.1; simp; omega) (by decide) (by simp; omega) ?_
  intro v' w' ho' hg' hat'
  refine h v' w' (OwB.grown (x := v) (t := (A, n, c)) (l := l) h3' (h1.alloc _) (hx.below hal) ho' hg' h2 hat' (hD _ (by simp))) ?_ (by simpa using hat')
  exact ⟨hg'.os, hg'.tape, hg'.output, Nat.le_trans (by simp) hg'.size, fun b hb hne => (hg'.block b (by simp; omega) hne).trans (Below.heap_alloc _ _ _ hb)⟩
end
end Go.Proofs.Ytmcjefdnkcpghaa
/- THE WALKS OF tape.cuts. -/
namespace Go.Proofs.Ytmcjefdnkcpghaa
open Go.RowKit Go.Shelf
attribute [local go_sem] Oper.semAt_some
theorem cuts_any (A : Option Addr) (n c : Nat) (w : World) : Calls Try.prog 97 #[.slice A n c] w fun e w' => e = .returned (.func (.func 118) #[] #[.pointer (some ⟨w.heap.size, 0, none⟩)]) ∧ w' = w.alloc (.cells #[.slice A n c] 23) := by
  go_enter Try.func97, Try.ntmps97
  go_wp2
  go_ret
  exact ⟨rfl, rfl⟩
theorem cutsL_nil : cutsL [] = [] := by rw [cutsL]; simp
theorem cutsL_cons {l : List UInt8} (h : l ≠ []) : cutsL l = fillL (l.take 64) :: cutsL (l.drop 64) := by rw [cutsL]; simp [h]
theorem cutsL_get (k : Nat) : ∀ l : List UInt8, 64 * k < l.length → (cutsL l)[k]? = some (fillL ((l.drop (64 * k)).take 64)) := by
  induction k with
  | zero =>
    intro l h
    rw [cutsL_cons (by intro e; subst e; simp at h)]
    simp
  | succ k ih =>
    intro l h
    rw [cutsL_cons (by intro e; subst e; simp at h), List.getElem?_cons_succ, ih _ (by rw [List.length_drop]; omega), List.drop_drop, show 64 + 64 * k = 64 * (k + 1) by omega]
theorem cutsL_len (n : Nat) : ∀ l : List UInt8, l.length ≤ n → (cutsL l).length = (l.length + 63) / 64 := by
  induction n with
  | zero =>
    intro l h
    obtain rfl : l = [] := List.eq_nil_of_length_eq_zero (by omega)
    rw [cutsL_nil]; rfl
  | succ n ih =>
    intro l h
    by_cases h0 : l = []
    · subst h0; rw [cutsL_nil]; rfl
    · have hp : 0 < l.length := List.length_pos_iff.2 h0
      rw [cutsL_cons h0, List.length_cons, ih _ (by rw [List.length_drop]; omega), List.length_drop]
      omega
/-- what an iterator over a batch's bytes hands out -/
def argC (Bp : Nat) (l : List UInt8) (pre : List Value) (x : Value) (A : World) : Prop := ∃ m g, (cutsL l)[pre.length]? = some m ∧ x = .slice (some ⟨g, 0, none⟩) 64 64 ∧ Bp < g ∧ m.length = 64 ∧ A.heap[g]? = some (.cells (m.map bV).toArray 140 (0, 0))
set_option maxRecDepth 100000 in
set_option maxHeartbeats 2000000 in
theorem cuts1_seq {w : World} {Bp B0 : Nat} {v : Value} {l : List UInt8} (hBp : w.heap[Bp]? = some (.cells #[v] 23 (0, 0))) (hv : Byt w B0 v l) (hB0 : B0 ≤ Bp) (n : Nat) (hn : 1 ≤ n) {T : Nat → Prop} (hT : T Bp) (hT0 : ∀ b, b < B0 → T b) :
    SeqK Fence.wide n Try.prog 118 #[.pointer (some ⟨Bp, 0, none⟩)] (fun x => #[x]) (fun b => b ≠ Bp) T (argC Bp l) (fun xs => xs.length = (cutsL l).length) (fun _ => True) w := by
  intro L J Jx W hW hJ hJx hY h0
  have hBl := lt_of_block hBp
  have hBs := hW.size
  have hBW : W.heap[Bp]? = some (.cells #[v] 23 (0, 0)) := (hW.block Bp hBl).trans hBp
  have hvW : Byt W B0 v l := hv.keep fun p hp => hW.cell (by omega)
  have hlm := hv.len_le
  unfold maxLen at hlm
  refine callsIn_of_wp Try.func118 rfl trivial ?_ rfl
  simp only [Try.ntmps118, List.size_toArray, List.length_cons, List.length_nil, Nat.reduceAdd, Nat.reduceSub, Array.replicate_succ, Array.replicate_zero, List.push_toArray, List.append_toArray, List.nil_append, List.cons_append]
  gi_wp2
  gi_loopg [3] l.length (fun gk x3 wr => ∃ (k : Nat) (pre : List Value) (u : Value), gk = l.length - 64 * k ∧ pre.length = k ∧ 64 * k < l.length + 64 ∧ wr.heap[Bp]? = some (.cells #[u] 23 (0, 0)) ∧ Byt wr B0 u (l.drop (64 * k)) ∧ J pre wr ∧ W.heap.size ≤ wr.heap.size)
  case atStart => exact ⟨0, [], v, rfl, rfl, by omega, hBW, by simpa using hvW, h0, Nat.le_refl _⟩
  case round =>
    obtain ⟨k, pre, u, hgk, hpre, hk64, hBr, hu, hJs, hsz⟩ := hrel
    have HG := Lib.hid hgk
    have HJ := Lib.hid hJs
    have HPRE := Lib.hid hpre
    clear hgk hJs hpre hBp hv hvW hBW h0
    have c0 := cells_of hBr 0 _ rfl
    have f0 := free_of hBr 0
    have hrl : (l.drop (64 * k)).length = l.length - 64 * k := List.length_drop
    obtain ⟨A, c, rfl, hc, hm, _⟩ := id hu
    unfold maxLen at hm
    by_cases h0 : l.length ≤ 64 * k
    · have hlen : pre.length = (cutsL l).length := by rw [cutsL_len _ l (Nat.le_refl _), HPRE.out]; omega
      have HLEN := Lib.hid hlen
      have hz : l.length - 64 * k = 0 := by omega
      rw [hrl, hz] at c0
      clear hlen hrl hz hu
      gi_wp2
      go_end0
      exact ⟨⟨_, rfl⟩, .inl ⟨_, HLEN.out, HJ.out⟩⟩
    · have hcut := cutsL_get k l (by omega)
      have hdd : ∀ m, (l.drop (64 * k)).drop m = l.drop (64 * k + m) := fun m => List.drop_drop
      have hpos : 0 < (l.drop (64 * k)).length := by rw [hrl]; omega
      obtain ⟨ad, hA, _, _⟩ : ∃ ad : Addr, A = some ad ∧ True ∧ True := by
        obtain ⟨A', c', e, _, _, hr⟩ := id hu
        obtain ⟨ad, h1, _⟩ := hr hpos
        cases e
        exact ⟨ad, h1, trivial, trivial⟩
      subst hA
      clear hpos
      have HU := Lib.hid hu
      have HBR := Lib.hid hBr
      have HRL := Lib.hid hrl
      have HCUT := Lib.hid hcut
      have HDD := Lib.hid hdd
      rw [hrl] at c0 hc
      clear hu hBr hrl hcut hdd
      by_cases h64 : 64 ≤ l.length - 64 * k
      · have HTL := Lib.hid (show ((l.drop (64 * k)).take 64).length ≤ 64 from List.length_take_le _ _)
        have HTAKE := Lib.hid (byt_take 64 HU.out (by rw [HRL.out]; exact h64))
        by_cases hcm : c = 64
        · have HREST := Lib.hid (byt_end 64 HU.out (by rw [HRL.out]; exact h64) hcm)
          rw [HDD.out, HRL.out, show 64 * k + 64 = 64 * (k + 1) by omega] at HREST
          subst hcm
          gi_wp2_with fail
          refine ⟨trivial, ?_⟩
          refine (callsIn_wide.2 (tfill_any B0 _ _ HTL.out _ HTAKE.out)).mono ?_
          rintro e w2 ⟨r2, rfl, ⟨g, rfl, hg, hgl, hgh⟩, hb2⟩
          obtain ⟨fn, tmps, assign, body, hy, hR⟩ := hY pre (.slice (some ⟨g, 0, none⟩) 64 64) w2 (hJ _ _ _ HJ.out (Kept.ofBelow hb2)) ⟨_, g, by rw [HPRE.out]; exact HCUT.out, rfl, by omega, hgl, by simpa using hgh⟩
          gi_wp2
          refine hR.mono ?_
          rintro e W3 (⟨rfl, hJ3, hk3⟩ | ⟨rfl, hJx3⟩)
          · have hB2 := (hb2.block Bp (lt_of_block HBR.out)).trans HBR.out
            have hB3 := hk3.heap hB2 hT
            have hs3 := hk3.size
            have hs2 := hb2.size
            have d0 := cells_of hB3 0 _ rfl
            have df := free_of hB3 0
            rw [HRL.out] at d0
            have hrest := ((HREST.out.keep (w' := w2) fun p hp => hb2.cell (by omega)).keep (w' := W3) fun p hp => hk3.cell (by omega) (hT0 _ hp))
            have HREST3 := Lib.hid hrest
            have HB3 := Lib.hid hB3
            have HJ3 := Lib.hid hJ3
            clear hy hR hgh hJ3 hB3 hB2 hrest hk3
            gi_wp2
            go_roundg (l.length - 64 * (k + 1))
            case measure => have := HG.out; omega
            case rel =>
              refine ⟨k + 1, pre ++ [.slice (some ⟨g, 0, none⟩) 64 64], _, rfl, by simp [HPRE.out], by omega, by simpa using Lib.heap_setCell_same (i := 0) HB3.out _, ?_, ?_, by simp [World.setCell]; omega⟩
              · have hh := HREST3.out
                first
                | exact hh.setCell (p := ⟨Bp, 0, none⟩) hB0 _
                | (rw [show l.length - 64 * k - 64 = 0 by omega] at hh; exact hh.setCell (p := ⟨Bp, 0, none⟩) hB0 _)
                | (rw [show l.length - 64 * k - (l.length - 64 * k) = 0 by omega] at hh; exact hh.setCell (p := ⟨Bp, 0, none⟩) hB0 _)
              · exact hJ _ _ _ HJ3.out ((Kept.refl _ _).setCell _ _ (fun _ h => h rfl))
          · gi_wp2
            refine bodyPost_ret (results_none rfl _ _ _) rfl ?_
            exact ⟨⟨_, rfl⟩, .inr ⟨_, trivial, hJx3⟩⟩
        · have HREST := Lib.hid (byt_from 64 HU.out (by rw [HRL.out]; exact h64) (by decide) hcm)
          rw [HDD.out, HRL.out, show 64 * k + 64 = 64 * (k + 1) by omega] at HREST
          gi_wp2_with fail
          refine ⟨trivial, ?_⟩
          refine (callsIn_wide.2 (tfill_any B0 _ _ HTL.out _ HTAKE.out)).mono ?_
          rintro e w2 ⟨r2, rfl, ⟨g, rfl, hg, hgl, hgh⟩, hb2⟩
          obtain ⟨fn, tmps, assign, body, hy, hR⟩ := hY pre (.slice (some ⟨g, 0, none⟩) 64 64) w2 (hJ _ _ _ HJ.out (Kept.ofBelow hb2)) ⟨_, g, by rw [HPRE.out]; exact HCUT.out, rfl, by omega, hgl, by simpa using hgh⟩
          gi_wp2
          refine hR.mono ?_
          rintro e W3 (⟨rfl, hJ3, hk3⟩ | ⟨rfl, hJx3⟩)
          · have hB2 := (hb2.block Bp (lt_of_block HBR.out)).trans HBR.out
            have hB3 := hk3.heap hB2 hT
            have hs3 := hk3.size
            have hs2 := hb2.size
            have d0 := cells_of hB3 0 _ rfl
            have df := free_of hB3 0
            rw [HRL.out] at d0
            have hrest := ((HREST.out.keep (w' := w2) fun p hp => hb2.cell (by omega)).keep (w' := W3) fun p hp => hk3.cell (by omega) (hT0 _ hp))
            have HREST3 := Lib.hid hrest
            have HB3 := Lib.hid hB3
            have HJ3 := Lib.hid hJ3
            clear hy hR hgh hJ3 hB3 hB2 hrest hk3
            gi_wp2
            go_roundg (l.length - 64 * (k + 1))
            case measure => have := HG.out; omega
            case rel =>
              refine ⟨k + 1, pre ++ [.slice (some ⟨g, 0, none⟩) 64 64], _, rfl, by simp [HPRE.out], by omega, by simpa using Lib.heap_setCell_same (i := 0) HB3.out _, ?_, ?_, by simp [World.setCell]; omega⟩
              · have hh := HREST3.out
                first
                | exact hh.setCell (p := ⟨Bp, 0, none⟩) hB0 _
                | (rw [show l.length - 64 * k - 64 = 0 by omega] at hh; exact hh.setCell (p := ⟨Bp, 0, none⟩) hB0 _)
                | (rw [show l.length - 64 * k - (l.length - 64 * k) = 0 by omega] at hh; exact hh.setCell (p := ⟨Bp, 0, none⟩) hB0 _)
              · exact hJ _ _ _ HJ3.out ((Kept.refl _ _).setCell _ _ (fun _ h => h rfl))
          · gi_wp2
            refine bodyPost_ret (results_none rfl _ _ _) rfl ?_
            exact ⟨⟨_, rfl⟩, .inr ⟨_, trivial, hJx3⟩⟩
      · have eT : (l.drop (64 * k)).take (l.length - 64 * k) = (l.drop (64 * k)).take 64 := by
          rw [List.take_of_length_le (by rw [HRL.out]; exact Nat.le_refl _), List.take_of_length_le (by rw [HRL.out]; omega)]
        have eD : (l.drop (64 * k)).drop (l.length - 64 * k) = l.drop (64 * (k + 1)) := by
          rw [HDD.out, List.drop_of_length_le (by omega), List.drop_of_length_le (by omega)]
        have hR0 : 0 < l.length - 64 * k := by omega
        have HTL := Lib.hid (show ((l.drop (64 * k)).take 64).length ≤ 64 from List.length_take_le _ _)
        have HTAKE := Lib.hid (byt_take (l.length - 64 * k) HU.out (by rw [HRL.out]; exact Nat.le_refl _))
        rw [eT] at HTAKE
        by_cases hcm : c = l.length - 64 * k
        · have HREST := Lib.hid (byt_end (l.length - 64 * k) HU.out (by rw [HRL.out]; exact Nat.le_refl _) hcm)
          rw [eD, HRL.out] at HREST
          clear eT eD
          subst hcm
          gi_wp2_with fail
          refine ⟨trivial, ?_⟩
          refine (callsIn_wide.2 (tfill_any B0 _ _ HTL.out _ HTAKE.out)).mono ?_
          rintro e w2 ⟨r2, rfl, ⟨g, rfl, hg, hgl, hgh⟩, hb2⟩
          obtain ⟨fn, tmps, assign, body, hy, hR⟩ := hY pre (.slice (some ⟨g, 0, none⟩) 64 64) w2 (hJ _ _ _ HJ.out (Kept.ofBelow hb2)) ⟨_, g, by rw [HPRE.out]; exact HCUT.out, rfl, by omega, hgl, by simpa using hgh⟩
          gi_wp2
          refine hR.mono ?_
          rintro e W3 (⟨rfl, hJ3, hk3⟩ | ⟨rfl, hJx3⟩)
          · have hB2 := (hb2.block Bp (lt_of_block HBR.out)).trans HBR.out
            have hB3 := hk3.heap hB2 hT
            have hs3 := hk3.size
            have hs2 := hb2.size
            have d0 := cells_of hB3 0 _ rfl
            have df := free_of hB3 0
            rw [HRL.out] at d0
            have hrest := ((HREST.out.keep (w' := w2) fun p hp => hb2.cell (by omega)).keep (w' := W3) fun p hp => hk3.cell (by omega) (hT0 _ hp))
            have HREST3 := Lib.hid hrest
            have HB3 := Lib.hid hB3
            have HJ3 := Lib.hid hJ3
            clear hy hR hgh hJ3 hB3 hB2 hrest hk3
            gi_wp2
            go_roundg (l.length - 64 * (k + 1))
            case measure => have := HG.out; omega
            case rel =>
              refine ⟨k + 1, pre ++ [.slice (some ⟨g, 0, none⟩) 64 64], _, rfl, by simp [HPRE.out], by omega, by simpa using Lib.heap_setCell_same (i := 0) HB3.out _, ?_, ?_, by simp [World.setCell]; omega⟩
              · have hh := HREST3.out
                first
                | exact hh.setCell (p := ⟨Bp, 0, none⟩) hB0 _
                | (rw [show l.length - 64 * k - 64 = 0 by omega] at hh; exact hh.setCell (p := ⟨Bp, 0, none⟩) hB0 _)
                | (rw [show l.length - 64 * k - (l.length - 64 * k) = 0 by omega] at hh; exact hh.setCell (p := ⟨Bp, 0, none⟩) hB0 _)
              · exact hJ _ _ _ HJ3.out ((Kept.refl _ _).setCell _ _ (fun _ h => h rfl))
          · gi_wp2
            refine bodyPost_ret (results_none rfl _ _ _) rfl ?_
            exact ⟨⟨_, rfl⟩, .inr ⟨_, trivial, hJx3⟩⟩
        · have hrst : Byt wr B0 (.slice (some (ad.add (l.length - 64 * k))) ((l.drop (64 * k)).length - (l.length - 64 * k)) (c - (l.length - 64 * k))) ((l.drop (64 * k)).drop (l.length - 64 * k)) := by
            have h := byt_drop (l.length - 64 * k) HU.out (by rw [HRL.out]; exact Nat.le_refl _)
            rw [if_neg hcm] at h
            exact h
          have HREST := Lib.hid hrst
          clear hrst
          rw [eD, HRL.out] at HREST
          clear eT eD
          gi_wp2_with fail
          refine ⟨trivial, ?_⟩
          refine (callsIn_wide.2 (tfill_any B0 _ _ HTL.out _ HTAKE.out)).mono ?_
          rintro e w2 ⟨r2, rfl, ⟨g, rfl, hg, hgl, hgh⟩, hb2⟩
          obtain ⟨fn, tmps, assign, body, hy, hR⟩ := hY pre (.slice (some ⟨g, 0, none⟩) 64 64) w2 (hJ _ _ _ HJ.out (Kept.ofBelow hb2)) ⟨_, g, by rw [HPRE.out]; exact HCUT.out, rfl, by omega, hgl, by simpa using hgh⟩
          gi_wp2
          refine hR.mono ?_
          rintro e W3 (⟨rfl, hJ3, hk3⟩ | ⟨rfl, hJx3⟩)
          · have hB2 := (hb2.block Bp (lt_of_block HBR.out)).trans HBR.out
            have hB3 := hk3.heap hB2 hT
            have hs3 := hk3.size
            have hs2 := hb2.size
            have d0 := cells_of hB3 0 _ rfl
            have df := free_of hB3 0
            rw [HRL.out] at d0
            have hrest := ((HREST.out.keep (w' := w2) fun p hp => hb2.cell (by omega)).keep (w' := W3) fun p hp => hk3.cell (by omega) (hT0 _ hp))
            have HREST3 := Lib.hid hrest
            have HB3 := Lib.hid hB3
            have HJ3 := Lib.hid hJ3
            clear hy hR hgh hJ3 hB3 hB2 hrest hk3
            gi_wp2
            go_roundg (l.length - 64 * (k + 1))
            case measure => have := HG.out; omega
            case rel =>
              refine ⟨k + 1, pre ++ [.slice (some ⟨g, 0, none⟩) 64 64], _, rfl, by simp [HPRE.out], by omega, by simpa using Lib.heap_setCell_same (i := 0) HB3.out _, ?_, ?_, by simp [World.setCell]; omega⟩
              · have hh := HREST3.out
                first
                | exact hh.setCell (p := ⟨Bp, 0, none⟩) hB0 _
                | (rw [show l.length - 64 * k - 64 = 0 by omega] at hh; exact hh.setCell (p := ⟨Bp, 0, none⟩) hB0 _)
                | (rw [show l.length - 64 * k - (l.length - 64 * k) = 0 by omega] at hh; exact hh.setCell (p := ⟨Bp, 0, none⟩) hB0 _)
              · exact hJ _ _ _ HJ3.out ((Kept.refl _ _).setCell _ _ (fun _ h => h rfl))
          · gi_wp2
            refine bodyPost_ret (results_none rfl _ _ _) rfl ?_
            exact ⟨⟨_, rfl⟩, .inr ⟨_, trivial, hJx3⟩⟩
end Go.Proofs.Ytmcjefdnkcpghaa
/- THE WALK OF tape.Pages. -/
namespace Go.Proofs.Ytmcjefdnkcpghaa
open Go.RowKit Go.Shelf
attribute [local go_sem] Oper.semAt_some
def isCellsAt (w : World) (b : Nat) : Prop := ∃ cs t fr, w.heap[b]? = some (.cells cs t fr)
theorem OwB.cells {D : Nat → Prop} {w : World} {base : Nat} {v : Value} {ls : List (List UInt8)} (h : OwB D w base v ls) : OwB (fun b => D b ∧ isCellsAt w b) w base v ls := by
  obtain ⟨ts, h1, h2, h3, h4⟩ := h
  refine ⟨ts, h1, fun g hg => ⟨h2 g hg, ?_⟩, h3, fun j t l a b => ⟨(h4 j t l a b).1, fun ad n c e h0 => ?_⟩⟩
  · obtain ⟨cs, fr, hh⟩ := h1.kind g hg
    exact ⟨cs, _, fr, hh⟩
  · obtain ⟨q1, cs, t', fr, q2, q3⟩ := (h4 j t l a b).2 ad n c e h0
    exact ⟨⟨q1, cs, t', fr, q2⟩, cs, t', fr, q2, q3⟩
theorem OwB.from_ {D : Nat → Prop} {A C : World} {row : Option Nat} {base : Nat} {v : Value} {ls : List (List UInt8)} (h : OwB D A base v ls) (hg : A.grownBy C row) (hr : ∀ r, row = some r → ∃ o : Obj, A.heap[r]? = some o ∧ o.isCells = false) : OwB D C base v ls := by
  refine (h.cells.kept (S := fun b => row ≠ some b) ((Kept.refl _ A).grown hg (fun k hk _ hS => hS hk)) (fun b hb e => ?_)).mono fun b hb => hb.1
  obtain ⟨o, ho, hc⟩ := hr b e
  obtain ⟨cs, t, fr, hh⟩ := hb.2
  rw [hh] at ho
  cases ho; cases hc
/-- the boxes of Pages, between two rounds -/
def PgI (w : World) (b6 b7 Bp : Nat) (hd : Array Value) (seq : Nat) (l : List UInt8) (pre : List Value) (W : World) : Prop :=
  ∃ v, W.heap[b7]? = some (.cells #[v] 35 (0, 0)) ∧ W.heap[b6]? = some (.cells hd 77 (0, 0)) ∧ OwB (fun b => b ≠ Bp ∧ w.heap.size ≤ b) W w.heap.size v (firstL seq l.length (sumL l) :: (cutsL l).take pre.length) ∧ Below w.heap.size w W
theorem PgI.from_ {w : World} {b6 b7 Bp B : Nat} {hd : Array Value} {seq : Nat} {l : List UInt8} (hB : w.heap.size ≤ B) : OwnFrom B (PgI w b6 b7 Bp hd seq l) := by
  intro pre A C row hs hg hr
  obtain ⟨v, h1, h2, h3, h4⟩ := hs
  refine ⟨v, ?_, ?_, h3.from_ hg (fun r e => (hr r e).2), ?_⟩
  · exact ownFrom_block (β := Unit) (fun _ => #[v]) 35 () A C row h1 hg hr
  · exact ownFrom_block (β := Unit) (fun _ => hd) 77 () A C row h2 hg hr
  · exact ownFrom_below (n₀ := w.heap.size) (w₀ := w) (Nat.le_refl _) hB () A C row h4 hg hr
theorem PgI.kept {w A C : World} {b6 b7 Bp : Nat} {hd : Array Value} {seq : Nat} {l : List UInt8} {pre : List Value} (h : PgI w b6 b7 Bp hd seq l pre A) (k : Kept (fun b => b ≠ Bp) A C) (h6 : b6 ≠ Bp) (h7 : b7 ≠ Bp) (hB : w.heap.size ≤ Bp) : PgI w b6 b7 Bp hd seq l pre C := by
  obtain ⟨v, h1, h2, h3, h4⟩ := h
  exact ⟨v, k.heap h1 h7, k.heap h2 h6, h3.kept k (fun _ h => h.1), h4.trans (k.toBelow (B := w.heap.size) h4.size (fun b hb e => by omega))⟩
theorem sec_bytn {D : Nat → Prop} {w : World} {g : Nat} {l : List UInt8} (hl : l.length = 64) (hg : w.heap[g]? = some (.cells (l.map bV).toArray 140 (0, 0))) (hd : D g) : BytN D w (.slice (some ⟨g, 0, none⟩) 64 64) l :=
  ⟨(show SecAt w 0 _ l from ⟨g, rfl, Nat.zero_le _, hl, hg⟩).byt, fun ad n c e _ => by cases e; exact ⟨hd, _, _, _, hg, by decide⟩⟩
theorem owB_one {D : Nat → Prop} {w : World} {A : Option Addr} {n c : Nat} {l : List UInt8} (h : BytN D w (.slice A n c) l) (hd : D w.heap.size) : OwB D (w.alloc (.cells #[.slice A n c] 23)) w.heap.size (.slice (some ⟨w.heap.size, 0, none⟩) 1 1) [l] := by
  have h1 := ow_lit triK w [(A, n, c)] (by simp [maxLen])
  refine ⟨[(A, n, c)], h1, fun g hg => ?_, rfl, fun j t m a b => ?_⟩
  · simp [Value.ownBlock] at hg; subst hg; exact hd
  · have hj : j = 0 := by have := (List.getElem?_eq_some_iff.1 a).1; simp at this; omega
    subst hj
    simp at a b
    subst a b
    exact h.below ((Below.refl w.heap.size w).alloc (Nat.le_refl _) _)
theorem argC_from (Bp : Nat) (l : List UInt8) (B : Nat) (pre : List Value) (x : Value) : OwnFrom B (fun (_ : Unit) W => argC Bp l pre x W) := fun s A C row hs hg hr => by
  obtain ⟨m, g, h1, h2, h3, h4, h5⟩ := hs
  exact ⟨m, g, h1, h2, h3, h4, ownFrom_block (β := Unit) (fun _ => (m.map bV).toArray) 140 () A C row h5 hg hr⟩
theorem keepK {D : Nat → Prop} {W w' : World} {b base : Nat} {vo : Value} {ls : List (List UInt8)} {cs : Array Value} {t : TypeId} (ht : t ≠ 23) (h1 : W.heap[b]? = some (.cells cs t (0, 0))) (h3 : OwB D W base vo ls) (hg : W.grownBy w' vo.ownBlock) : w'.heap[b]? = some (.cells cs t (0, 0)) := by
  obtain ⟨ts, o1, _, _⟩ := h3
  refine (hg.block b (lt_of_block h1) (fun e => ?_)).trans h1
  obtain ⟨cs, fr, hh⟩ := o1.kind b e.symm
  exact kind_ne h1 hh ht rfl
theorem keep7 {D : Nat → Prop} {W w' : World} {b7 base : Nat} {vo : Value} {ls : List (List UInt8)} (h1 : W.heap[b7]? = some (.cells #[vo] 35 (0, 0))) (h3 : OwB D W base vo ls) (hg : W.grownBy w' vo.ownBlock) : w'.heap[b7]? = some (.cells #[vo] 35 (0, 0)) := by
  obtain ⟨ts, o1, _, _⟩ := h3
  refine (hg.block b7 (lt_of_block h1) (fun e => ?_)).trans h1
  obtain ⟨cs, fr, hh⟩ := o1.kind b7 e.symm
  exact kind_ne h1 hh (by decide) rfl
theorem PgI.step {w W w' : World} {b6 b7 Bp B : Nat} {hd : Array Value} {seq : Nat} {l m : List UInt8} {pre : List Value} {x vo v' : Value} (h1 : W.heap[b7]? = some (.cells #[vo] 35 (0, 0))) (h2 : W.heap[b6]? = some (.cells hd 77 (0, 0)))
    (h3 : OwB (fun b => b ≠ Bp ∧ w.heap.size ≤ b) W w.heap.size vo (firstL seq l.length (sumL l) :: (cutsL l).take pre.length)) (h4 : Below w.heap.size w W) (hm : (cutsL l)[pre.length]? = some m) (h67 : b6 ≠ b7) (h7 : b7 ≠ Bp) (hw7 : w.heap.size ≤ b7)
    (ho : OwB (fun b => b ≠ Bp ∧ w.heap.size ≤ b) w' w.heap.size v' (firstL seq l.length (sumL l) :: (cutsL l).take pre.length ++ [m])) (hg : W.grownBy w' vo.ownBlock) :
    KeepsFrom B W (w'.setCell ⟨b7, 0, none⟩ v') ∧ Kept (fun b => b < w.heap.size ∨ b = Bp) W (w'.setCell ⟨b7, 0, none⟩ v') ∧ PgI w b6 b7 Bp hd seq l (pre ++ [x]) (w'.setCell ⟨b7, 0, none⟩ v') := by
  obtain ⟨ts, o1, o2, o3⟩ := id h3
  have hrow : ∀ g, vo.ownBlock = some g → ∃ cs fr, W.heap[g]? = some (.cells cs 23 fr) := o1.kind
  have hlt := fun g hg => o1.lt g hg
  have hk7 : some b7 ≠ vo.ownBlock := fun e => by
    obtain ⟨cs, fr, hh⟩ := hrow b7 e.symm
    exact kind_ne h1 hh (by decide) rfl
  have hk6 : some b6 ≠ vo.ownBlock := fun e => by
    obtain ⟨cs, fr, hh⟩ := hrow b6 e.symm
    exact kind_ne h2 hh (by decide) rfl
  have h1' := (hg.block b7 (lt_of_block h1) hk7).trans h1
  have h2' := (hg.block b6 (lt_of_block h2) hk6).trans h2
  have hoth : ∀ b, b ≠ b7 → (w'.setCell ⟨b7, 0, none⟩ v').heap[b]? = w'.heap[b]? := fun b hb => Below.heap_setCell _ _ _ _ (fun e => hb e)
  refine ⟨⟨Nat.le_trans hg.size (by simp [World.setCell]), fun b o hb hh hc => ?_⟩, ?_, v', ?_, ?_, ?_, ?_⟩
  · have n7 : b ≠ b7 := fun e => by subst e; rw [h1] at hh; cases hh; cases hc
    have nr : some b ≠ vo.ownBlock := fun e => by
      obtain ⟨cs, fr, h⟩ := hrow b e.symm
      rw [h] at hh; cases hh; cases hc
    rw [hoth b n7]
    exact (hg.block b (lt_of_block hh) nr).trans hh
  · refine ((Kept.refl _ W).grown hg (fun k hk _ hS => ?_)).setCell _ _ (fun _ hS => ?_)
    · rcases hS with hS | hS
      · have := (hlt k hk).1; omega
      · exact (o2 k hk).1 hS
    · have hS' : b7 < w.heap.size ∨ b7 = Bp := hS
      rcases hS' with hS' | hS'
      · omega
      · exact h7 hS'
  · simpa using Lib.heap_setCell_same (i := 0) h1' v'
  · rw [hoth b6 h67]; exact h2'
  · have e : (cutsL l).take (pre ++ [x]).length = (cutsL l).take pre.length ++ [m] := by
      rw [List.length_append, List.length_singleton, List.take_add_one, hm]; rfl
    rw [e, ← List.cons_append]
    refine (show OwB (fun b => (b ≠ Bp ∧ w.heap.size ≤ b) ∧ b ≠ b7) w' w.heap.size v' _ from ?_).kept (S := fun b => b ≠ b7) ((Kept.refl _ w').setCell _ _ (fun _ h => h rfl)) (fun b hb => hb.2) |>.mono fun b hb => hb.1
    obtain ⟨ts', p1, p2, p3, p4⟩ := ho.cells
    refine ⟨ts', p1, fun g hg => ⟨(p2 g hg).1, fun e => ?_⟩, p3, fun j t q a b => ⟨(p4 j t q a b).1, fun ad n c e0 h0 => ?_⟩⟩
    · obtain ⟨cs, fr, hh⟩ := p1.kind g hg
      subst e
      exact kind_ne h1' hh (by decide) rfl
    · obtain ⟨q1, cs, t', fr, q2, q3⟩ := (p4 j t q a b).2 ad n c e0 h0
      refine ⟨⟨q1.1, fun e => ?_⟩, cs, t', fr, q2, q3⟩
      rw [e] at q2
      exact kind_ne h1' q2 (Ne.symm q3.2) rfl
  · exact (h4.grown hg h4.size (fun k hk => (hlt k hk).1)).setCell (by exact hw7) _
def pagesR (seq : Int) (l : List UInt8) : List (List UInt8) × Int := if rightB seq l.length then (pagesL seq.toNat l, 0) else ([], 2)
def PagesPost (w : World) (seq : Int) (l : List UInt8) (e : Ending) (w' : World) : Prop := ∃ v, e = .returned (.tuple #[v, .int .i64 (pagesR seq l).2]) ∧ OwB (fun b => w.heap.size ≤ b) w' w.heap.size v (pagesR seq l).1 ∧ Below w.heap.size w w'
set_option maxRecDepth 100000 in
set_option maxHeartbeats 4000000 in
theorem pages_any {w : World} (seq : Int) (v : Value) (l : List UInt8) (B : Nat) (hv : Byt w B v l) (hl : l.length ≤ 131072) : Calls Try.prog 50 #[.int .i64 seq, v] w (PagesPost w seq l) := by
  have hsum := sum_any v l w B hv
  have hs0 := on0_lt l
  obtain ⟨A, c, rfl, hc, hm, _⟩ := id hv
  unfold maxLen at hm
  have HV := Lib.hid hv
  clear hv
  unfold PagesPost pagesR
  cases hb : rightB seq l.length with
  | false =>
    have hri := right_any seq l.length (sumL l)
    rw [hb] at hri
    unfold headV at hri
    clear hb
    go_enter Try.func50, Try.ntmps50
    go_wp2_with (first
      | (go_at_call 25; (with_reducible refine hsum.mono ?_); rintro e w1 ⟨rfl, hb1⟩)
      | (go_at_call 95; refine (hri _).mono ?_; rintro e w2 ⟨rfl, hb2⟩))
    go_ret2
    refine ⟨_, rfl, OwB.nil_ _ _ _, (hb1.alloc hb1.size _).trans (hb2.mono (by have := hb1.size; simp; omega))⟩
  | true =>
    obtain ⟨q1, q2, q3, q4⟩ := rightB_yes hb
    obtain ⟨sq, rfl⟩ : ∃ k : Nat, seq = (k : Int) := ⟨seq.toNat, by omega⟩
    have hri := right_any sq l.length (sumL l)
    rw [hb] at hri
    have hfi := first_any sq l.length (sumL l) (by omega) (by omega) hs0
    have hla := fun w => last_any sq (sumL l) (by omega) hs0 (l.length : Int) w
    unfold headV at hri hfi hla
    change Calls _ _ _ _ (fun e w' => e = .returned (.int .u32 (sumL l : Int)) ∧ _) at hsum
    simp only [if_true]
    rw [Int.toNat_natCast]
    generalize hsm : sumL l = sm at *
    have HLA := Lib.hid hla
    have HSM := Lib.hid hsm
    clear hb hla hs0 hsm
    refine (callsIn_wide (n := 3)).1 ?_
    refine callsIn_of_wp_marks Try.func50 rfl trivial ?_ rfl
    simp only [Try.ntmps50, List.size_toArray, List.length_cons, List.length_nil, Nat.reduceAdd, Nat.reduceSub, Array.replicate_succ, Array.replicate_zero, List.push_toArray, List.append_toArray, List.nil_append, List.cons_append]
    refine wpIn_wide.2 ?_
    go_wp2_with (first
      | (go_at_call 25; (with_reducible refine hsum.mono ?_); rintro e w1 ⟨rfl, hb1⟩
         have hx1 := heap_alloc_new w1 (.cells #[.int .i64 (sq : Int), .int .i64 (l.length : Int), .int .u32 (sm : Int)] 77 (0, 0)))
      | (go_at_call 95; refine (hri _).mono ?_; rintro e w2 ⟨rfl, hb2⟩
         have hx2 := (hb2.block _ (by simp)).trans hx1
         have z0 := cells_of hx2 0 _ rfl
         have z1 := cells_of hx2 1 _ rfl
         have z2 := cells_of hx2 2 _ rfl)
      | (go_at_call 96; refine (hfi _).mono ?_; rintro e w3 ⟨v3, rfl, ⟨g3, rfl, hg3, hgl3, hgh3⟩, hb3⟩
         have hx3 := (hb3.block _ (lt_of_block hx2)).trans hx2)
      | (go_at_call 97; refine (cuts_any _ _ _ _).mono ?_; rintro e w4 ⟨rfl, rfl⟩))
    have hs1 := hb1.size
    have hs2 := hb2.size
    have hs3 := hb3.size
    simp only [World.size_alloc] at hs2
    have hb03 : Below w.heap.size w w3 := (hb1.alloc hs1 _).trans ((hb2.mono (by simp; omega)).trans (hb3.mono (by omega)))
    obtain ⟨W4, hW4⟩ : ∃ W4, W4 = ((w3.alloc (.cells #[.slice (some ⟨g3, 0, none⟩) 64 64] 23)).alloc (.cells #[.slice (some ⟨w3.heap.size, 0, none⟩) 1 1] 35)).alloc (.cells #[.slice A l.length c] 23) := ⟨_, rfl⟩
    rw [← hW4]
    have hsz4 : W4.heap.size = w3.heap.size + 3 := by rw [hW4]; simp
    have hb34 : Below w3.heap.size w3 W4 := by rw [hW4]; exact (((Below.refl _ w3).alloc (Nat.le_refl _) _).alloc (by simp) _).alloc (by simp <;> omega) _
    have hb04 := hb03.trans (hb34.mono hb03.size)
    have hg3l := lt_of_block hgh3
    have hBp4 : W4.heap[w3.heap.size + 1 + 1]? = some (.cells #[.slice A l.length c] 23 (0, 0)) := by
      have := heap_alloc_new ((w3.alloc (.cells #[.slice (some ⟨g3, 0, none⟩) 64 64] 23)).alloc (.cells #[.slice (some ⟨w3.heap.size, 0, none⟩) 1 1] 35)) (.cells #[.slice A l.length c] 23 (0, 0))
      rw [hW4]; simpa using this
    have hI4 : PgI w w1.heap.size (w3.heap.size + 1) (w3.heap.size + 1 + 1) #[.int .i64 (sq : Int), .int .i64 (l.length : Int), .int .u32 (sm : Int)] sq l [] W4 := by
      refine ⟨.slice (some ⟨w3.heap.size, 0, none⟩) 1 1, ?_, (hb34.block _ (lt_of_block hx3)).trans hx3, ?_, hb04⟩
      · rw [hW4, Below.heap_alloc _ _ _ (by simp)]
        have := heap_alloc_new (w3.alloc (.cells #[.slice (some ⟨g3, 0, none⟩) 64 64] 23)) (.cells #[.slice (some ⟨w3.heap.size, 0, none⟩) 1 1] 35 (0, 0))
        simpa using this
      · have hq := owB_one (D := fun b => b ≠ w3.heap.size + 1 + 1 ∧ w.heap.size ≤ b) (sec_bytn hgl3 hgh3 (by omega)) (by omega)
        rw [HSM.out, hW4]
        exact ((hq.below ((Below.refl _ _).alloc (Nat.le_refl _) _)).below ((Below.refl _ _).alloc (Nat.le_refl _) _)).more hb03.size
    have hv4 : Byt W4 w.heap.size (.slice A l.length c) l := HV.out.heap.below hb04
    have HHI := Lib.hid hI4
    have HV4 := Lib.hid hv4
    clear hI4 hv4 hx1 hx2 hx3 z0 z1 z2 hgh3 hri hfi hsum hW4
    generalize w1.heap.size = b6 at *
    refine (wpIn_wide (n := 3)).1 ?_
    refine wpIn_range rfl (by omega) (gf := 118) (lb := #[.pointer (some ⟨w3.heap.size + 1 + 1, 0, none⟩)]) rfl trivial (enters_of Try.func118 (by kernel_rfl) rfl)
      (cuts1_seq hBp4 HV4.out (by omega) (3 - 1) (by omega) (T := fun b => b < w.heap.size ∨ b = w3.heap.size + 1 + 1) (.inr rfl) (fun b hb => .inl hb))
      (fun b hb => by omega) (fun b hb => by omega) (Below.refl _ _) (fun _ => rfl)
      (PgI w b6 (w3.heap.size + 1) (w3.heap.size + 1 + 1) #[.int .i64 (sq : Int), .int .i64 (l.length : Int), .int .u32 (sm : Int)] sq l) (fun _ _ _ => False) (PgI.from_ (by omega)) (fun _ _ _ _ _ h _ _ => h)
      (fun _ A C h hk => h.kept hk (by omega) (by omega) (by omega)) (fun _ _ _ _ h _ => h) (fun pre x => argC_from _ _ _ pre x) HHI.out ?a1 ?assign ?body ?done ?stop
    case assign =>
      intro L x W K hK
      have HK := Lib.hid hK
      clear hK
      gi_wp2
      exact HK.out
    case stop =>
      rintro D cc pre W _ _ h _
      exact h.elim
    case body =>
      rintro L pre x W hL hrec ⟨vo, h1, h2, h3, h4⟩ ⟨m, g, hm1, rfl, hm3, hm4, hm5⟩
      have c0 := cells_of h1 0 _ rfl
      have f0 := free_of h1 0
      have H1 := Lib.hid h1
      have H2 := Lib.hid h2
      have H3 := Lib.hid h3
      have H5 := Lib.hid hm5
      clear h1 h2 h3 hm5
      have hN := sec_bytn (D := fun b => b ≠ w3.heap.size + 1 + 1 ∧ w.heap.size ≤ b) hm4 H5.out (by omega)
      have HN := Lib.hid hN
      have hlt7 := lt_of_block H1.out
      have hk : pre.length < (cutsL l).length := (List.getElem?_eq_some_iff.1 hm1).1
      have hk2 : (cutsL l).length ≤ 2049 := by rw [cutsL_len _ l (Nat.le_refl _)]; omega
      have hln : (firstL sq l.length (sumL l) :: (cutsL l).take pre.length).length + 1 ≤ 1000000 := by
        rw [List.length_cons, List.length_take]; omega
      have hwW := h4.size
      have hgW := lt_of_block H5.out
      have hDD : ∀ b, W.heap.size ≤ b → b ≠ w3.heap.size + 1 + 1 ∧ w.heap.size ≤ b := fun b hb => by omega
      have HD := Lib.hid hDD
      clear hN hDD hsz4
      refine wpIn_block ?_
      refine wpIn_round_list ?hq (by kernel_rfl) ?_
      case hq =>
        rintro ⟨_, _, h⟩
        exact h
      go_wp2_with ((with_reducible show wpList _ _ _ (⟨some 27, _, _, _, _, _⟩ :: _) _ _); go_loud (refine wpList_append_one rfl (.tmp 24) (.tmp 26) rfl rfl H3.out (some ⟨g, 0, none⟩) 64 64 HN.out rfl hln hwW HD.out ?_); intro v' w' ho' hg' _; obtain ⟨A7, n7, c7, rfl, hn7⟩ := ho'.form; clear hn7; have h7' := keep7 H1.out H3.out hg'; have d0 := cells_of h7' 0 _ rfl; have df := free_of h7' 0; have HO' := Lib.hid ho'; clear h7' ho')
      exact PgI.step H1.out H2.out H3.out h4 hm1 (by omega) (by omega) (by omega) HO'.out hg'
    case done =>
      rintro DD ys W hD hys ⟨vo, h1, h2, h3, h4⟩ hK
      rw [hys, List.take_length] at h3
      have c0 := cells_of h1 0 _ rfl
      have z0 := cells_of h2 0 _ rfl
      have z1 := cells_of h2 1 _ rfl
      have z2 := cells_of h2 2 _ rfl
      have hb6 := lt_of_block h2
      have H1 := Lib.hid h1
      have H2 := Lib.hid h2
      have H3 := Lib.hid (h3.mono (D' := fun b => w.heap.size ≤ b) fun _ h => h.2)
      clear h1 h2 h3
      have hln : (firstL sq l.length (sumL l) :: cutsL l).length + 1 ≤ 1000000 := by
        rw [List.length_cons, cutsL_len _ l (Nat.le_refl _)]; omega
      have hw4 := h4.size
      have hb7 := lt_of_block H1.out
      have HLN := Lib.hid hln
      have H4 := Lib.hid h4
      clear hln h4 hys
      go_wp2
      go_region_held3 (fun w' => w'.cell? ⟨b6, 0, none⟩ = some (.int .i64 (sq : Int)) ∧ w'.cell? ⟨b6, 1, none⟩ = some (.int .i64 (l.length : Int)) ∧ w'.cell? ⟨b6, 2, none⟩ = some (.int .u32 (sm : Int)) ∧ w'.cell? ⟨w3.heap.size + 1, 0, none⟩ = some vo) (go_keep)
        (first
          | (refine step_append_one (by rfl) (.tmp 28) (.tmp 31) (by rfl) (by rfl) HO5.out (some ⟨g5, 0, none⟩) 64 64 HN5.out (by rfl) HLN.out hw5 (fun _ hb => Nat.le_trans hw5 hb) ?_
             intro v' w' ho' hg' _
             have HO' := Lib.hid ho'
             have k7 := keepK (by decide) H75.out HO5.out hg'
             have k6 := keepK (by decide) H65.out HO5.out hg'
             have c0' := cells_of k7 0 _ rfl
             have z0' := cells_of k6 0 _ rfl
             have z1' := cells_of k6 1 _ rfl
             have z2' := cells_of k6 2 _ rfl
             clear ho' k7 k6)
          | (go_at_call 98; (with_reducible refine (HLA.out _).mono ?_); rintro e w5 ⟨v5, rfl, ⟨g5, rfl, hg5, hgl5, hgh5⟩, hb5⟩
             have c0' : w5.cell? ⟨w3.heap.size + 1, 0, none⟩ = some vo := (hb5.cell (p := ⟨_, 0, none⟩) hb7).trans c0
             have z0' : w5.cell? ⟨b6, 0, none⟩ = some (.int .i64 (sq : Int)) := (hb5.cell (p := ⟨_, 0, none⟩) hb6).trans z0
             have z1' : w5.cell? ⟨b6, 1, none⟩ = some (.int .i64 (l.length : Int)) := (hb5.cell (p := ⟨_, 1, none⟩) hb6).trans z1
             have z2' : w5.cell? ⟨b6, 2, none⟩ = some (.int .u32 (sm : Int)) := (hb5.cell (p := ⟨_, 2, none⟩) hb6).trans z2
             have HO5 := Lib.hid ((H3.out.below (show Below W.heap.size W W.drew from (Below.refl _ _).drew)).below hb5)
             have HN5 := Lib.hid (sec_bytn (D := fun b => w.heap.size ≤ b) hgl5 hgh5 (Nat.le_trans hw4 hg5))
             have hw5 : w.heap.size ≤ w5.heap.size := Nat.le_trans hw4 hb5.size
             have HB5 := Lib.hid hb5
             have H75 := Lib.hid ((hb5.block _ hb7).trans H1.out)
             have H65 := Lib.hid ((hb5.block _ hb6).trans H2.out)
             clear hgh5 hb5)
          | fail)
      have hK5 := (HB5.out.block DD (lt_of_block hK)).trans hK
      have hK6 : w'.heap[DD]? = some (.deferred (some [])) := (hg'.block DD (lt_of_block hK5) (fun e => by
        obtain ⟨ts, o1, _, _⟩ := HO5.out
        obtain ⟨cs, fr, hh⟩ := o1.kind DD e.symm
        rw [hK5] at hh; cases hh)).trans hK5
      have hlt := HO5.out
      clear c0 c0' z0 z0' z1 z1' z2 z2'
      go_wp2
      refine ⟨by simp, .inl ⟨_, _, rfl, run_takeDeferred hK6, ?_⟩⟩
      refine ⟨.tuple #[v', .int .i64 0], by simp [results, Try.results50, go_sem], v', rfl, ?_, ?_⟩
      · have hh := HO'.out.from_ (grownBy_putObj' w' DD (.deferred none)) (fun r e => by cases e; exact ⟨_, hK6, rfl⟩)
        rw [HSM.out] at hh
        unfold pagesL
        rw [HSM.out]
        exact hh
      · have hbf : Below w.heap.size w w' := (H4.out.trans (((Below.refl W.heap.size W).drew.trans HB5.out).mono hw4)).grown hg' hw5 (fun k hk => by
          obtain ⟨ts, o1, _, _⟩ := HO5.out
          exact (o1.lt k hk).1)
        exact hbf.trans (belowK_b (w := w) (Nat.le_refl _) _ DD _ _ (by omega) hK6 rfl rfl)
end Go.Proofs.Ytmcjefdnkcpghaa
