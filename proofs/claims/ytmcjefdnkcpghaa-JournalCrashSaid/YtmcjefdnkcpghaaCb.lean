/- THE WALK OF crc.On AND crc.Sum. -/
import Derived.Test.YtmcjefdnkcpghaaCa
namespace Go.Proofs.Ytmcjefdnkcpghaa
open Go.RowKit
def nats (l : List UInt8) : List Nat := l.map UInt8.toNat
theorem on_snoc (x : Nat) (l : List UInt8) (k : Nat) (hk : k < l.length) : Crc.onL x (nats (l.take (k + 1))) = Crc.stN 8 (Crc.onL x (nats (l.take k)) ^^^ (l[k].toNat)) := by
  rw [List.take_succ_eq_append_getElem hk]
  unfold nats
  rw [List.map_append, Crc.onL_append]
  rfl
theorem onL_take_lt (x : Nat) (hx : x < 4294967296) (l : List UInt8) : Crc.onL x (nats l) < 4294967296 := by
  refine Crc.onL_lt _ _ hx ?_
  intro c hc
  obtain ⟨b, _, rfl⟩ := List.mem_map.1 hc
  exact b.toNat_lt
theorem tab_val (x : Nat) (hx : x < 4294967296) : bits .xor .u32 ((x : Int) / 16) ((Crc.stN 4 (x % 16) : Nat) : Int) = ((Crc.stN 4 x : Nat) : Int) := by
  rw [show (x : Int) / 16 = ((x / 16 : Nat) : Int) by omega, xor32 _ _ (by omega) (Crc.stN_lt 4 (by omega)), ← Crc.four]
theorem setRow_alloc2 (w : World) (o : Obj) (c c' : Array Value) (t : TypeId) : ((w.alloc o).alloc (.cells c t)).setRow (w.heap.size + 1) c' = (w.alloc o).alloc (.cells c' t) := by
  have := World.setRow_alloc_new (w.alloc o) c c' t
  simpa using this
theorem tab_cell (w : World) (o : Obj) (j : Nat) (h : j < 16) : ((w.alloc o).alloc (.cells (tabArr 16) 133)).cell? ⟨w.heap.size + 1, j, none⟩ = some (.int .u32 (Crc.stN 4 j)) := by
  rw [cell_of_row _ _ j _ 133 (0, 0) (heap_alloc2_new w o _), tabArr_get 16 j h, if_pos h]
set_option maxHeartbeats 1000000 in
theorem on_any (s : Nat) (hs : s < 4294967296) (v : Value) (l : List UInt8) (w : World) (B : Nat) (hv0 : Byt w B v l) :
    Calls Try.prog 23 #[.int .u32 s, v] w fun e w' => e = .returned (.int .u32 (Crc.on s (nats l))) ∧ Below w.heap.size w w' := by
  have hv := hv0.heap
  clear hv0
  have hbel : Below w.heap.size w ((w.alloc (.cells (tabArr 16) 133)).alloc (.cells (tabArr 16) 133)) := ((Below.refl _ _).alloc (Nat.le_refl _) _).alloc (by simp) _
  have hv' := hv.below hbel
  have hT := tab_cell w (.cells (tabArr 16) 133)
  obtain ⟨A, c, rfl, hc, hm, hr⟩ := hv'
  unfold maxLen at hm
  have HI : Hid ((Try.prog.info? 133).map (·.size) = some (tabArr 16).size) := by show _ = _; rw [tabArr_size]; kernel_rfl
  have h1 := Lib.hid (tabArr_one 16)
  have x0 := xor32_ones s hs
  have hx0 := xor32_lt s 4294967295 hs (by decide)
  have HT := Lib.hid hT
  have HB := Lib.hid hbel
  have HR := Lib.hid hr
  clear hv hT hbel hr
  go_enter Try.func23, Try.ntmps23
  go_wp2_with (first | (go_at_call 85; refine (four_any _).mono ?_; rintro e w' ⟨rfl, rfl⟩) | (with_reducible refine wpList_store_row rfl 133 _ _ rfl (w.heap.size + 1) (tabArr 16) rfl rfl 133 _ (heap_alloc2_new _ _ _) HI.out rfl h1.out ?_; rw [setRow_alloc2]))
  clear x0
  generalize ((w.alloc (.cells (tabArr 16) 133)).alloc (.cells (tabArr 16) 133)) = W at *
  generalize hz : s ^^^ 4294967295 = z at *
  have HZ := Lib.hid hz
  clear hz
  go_loop [6, 14] (fun x i => ∃ k : Nat, k ≤ l.length ∧ i = .int .i64 k ∧ x = .int .u32 (Crc.onL z (nats (l.take k)))) (fun _ i => l.length - (intOf i).toNat)
  case atStart => exact ⟨0, Nat.zero_le _, rfl, rfl⟩
  case round =>
    obtain ⟨k, hk, rfl, rfl⟩ := hrel
    have hlt := onL_take_lt z hx0 (l.take k)
    by_cases h : k < l.length
    · have hsn := on_snoc z l k h
      generalize Crc.onL z (nats (l.take k)) = x at *
      obtain ⟨ad, rfl, _, hcell⟩ := HR.out (by omega)
      have hcx : W.cell? (ad.add k) = some (.int .u8 (l[k].toNat : Int)) := hcell k _ (List.getElem?_eq_getElem h)
      clear hcell
      have hb := l[k].toNat_lt
      generalize l[k].toNat = b at *
      have e1 := xor32 x b hlt (by omega)
      have l1 := xor32_lt x b hlt (by omega)
      generalize x ^^^ b = y at *
      have e2 := and32_15 y l1
      have t1 := HT.out (y % 16) (by omega)
      have e3 := tab_val y l1
      have l2 := Crc.stN_lt 4 l1
      have hy : Crc.stN 4 (Crc.stN 4 y) = Crc.stN 8 y := by rw [← Crc.stN_add]
      have HSN := Lib.hid (hsn.trans hy.symm)
      clear hsn hy
      generalize Crc.stN 4 y = y2 at *
      have e4 := and32_15 y2 l2
      have t2 := HT.out (y2 % 16) (by omega)
      have e5 := tab_val y2 l2
      go_wp2
      go_round
      case rel => exact ⟨k + 1, by omega, by go_num, by rw [HSN.out]⟩
      case measure => simp [intOf]; omega
    · obtain rfl : k = l.length := by omega
      have e6 := xor32_ones _ hlt
      rw [List.take_length] at hlt e6 ⊢
      go_wp2
      go_ret
      exact ⟨ret_int (by unfold Crc.on; rw [HZ.out]), HB.out⟩
set_option maxHeartbeats 400000 in
theorem sum_any (v : Value) (l : List UInt8) (w : World) (B : Nat) (hv : Byt w B v l) :
    Calls Try.prog 25 #[v] w fun e w' => e = .returned (.int .u32 (Crc.on 0 (nats l))) ∧ Below w.heap.size w w' := by
  go_enter Try.func25, Try.ntmps25
  go_wp2_with (go_at_call 23; refine (on_any 0 (by decide) v l _ B hv).mono ?_; rintro e w1 ⟨rfl, hb⟩)
  go_ret
  exact ⟨rfl, hb⟩
end Go.Proofs.Ytmcjefdnkcpghaa
