/- THE WALK OF octroilaw06.lives: it is true. -/
import Derived.Test.YtmcjefdnkcpghaaCd
import Derived.Lib.SlBytesConst
namespace Go.Proofs.Ytmcjefdnkcpghaa
open Go.RowKit
theorem drop_wrapL (l : List UInt8) : (wrapL l).drop 4 = l := by simp [wrapL, be4]
theorem wrapL_length (l : List UInt8) : (wrapL l).length = l.length + 4 := by simp [wrapL, be4]
theorem want_wrapL (l : List UInt8) : Crc.on 0 (nats ((wrapL l).drop 4)) = wantL (wrapL l) :=
  (wrap_eq (wrapL l) (by rw [wrapL_length]; omega)).1 (by rw [drop_wrapL])
/-- a literal's bytes, marked -/
theorem byt_const (w : World) (l : List UInt8) (hl : l.length ≤ maxLen) (m : Nat × Nat) : Byt (w.alloc (.cells (l.map bV).toArray 5 m)) (w.heap.size + 1) (.slice (some ⟨w.heap.size, 0, none⟩) l.length l.length) l := by
  refine ⟨_, _, rfl, Nat.le_refl _, hl, fun _ => ⟨_, rfl, by simp, fun j x hj => ?_⟩⟩
  rw [addr_mk_add, cell_of_row _ _ _ _ 5 m (heap_alloc_new w _)]
  simp [hj]
theorem crc_example : Crc.on 0 (nats [49, 50, 51, 52, 53, 54, 55, 56, 57]) = 3421780262 := by decide +kernel
set_option maxRecDepth 100000 in
set_option maxHeartbeats 1000000 in
theorem lives06 (w : World) : Calls Try.prog 22 #[] w fun e w' => e = .returned (.bool true) ∧ Below w.heap.size w w' := by
  have kc := fun (w : World) (C : Array Value) (n c : Nat) => Lib.run_convert_bytes_const (P := Try.prog) w 23 5 C n c Try.underlying23 Try.underlying5
  have b1 := byt_const w [97, 98] (by simp [maxLen]) (2, 3)
  have b0 : Below w.heap.size w (w.alloc (.cells #[.int .u8 97, .int .u8 98] 5 (2, 3))) := (Below.refl _ _).alloc (Nat.le_refl _) _
  have B0 := Lib.hid b0
  clear b0
  go_enter Try.func22, Try.ntmps22
  go_wp2_with fail
  refine (wrap_any _ [97, 98] _ _ b1 (by decide)).mono ?_
  rintro e w1 ⟨r, rfl, hown, hb1⟩
  have B1 := Lib.hid (B0.out.trans (hb1.mono (by simp)))
  clear hb1 b1
  have hr := hown.byt
  clear hown
  go_wp2_with fail
  refine (unwrap_long _ _ _ _ hr (by rw [wrapL_length]; omega)).mono ?_
  rintro e w2 ⟨hp, _, hb2⟩
  obtain ⟨r2, rfl, hr2⟩ := hp (want_wrapL _)
  rw [drop_wrapL] at hr2
  have B2 := Lib.hid (B1.out.trans (hb2.mono B1.out.size))
  clear hb2 hp
  go_wp2_with fail
  have b3 := byt_const w2 [49, 50, 51, 52, 53, 54, 55, 56, 57] (by simp [maxLen]) (9, 10)
  refine (sum_any _ _ _ _ b3).mono ?_
  rintro e w3 ⟨rfl, hb3⟩
  rw [crc_example]
  have hr3 := ((hr2.heap.alloc (Nat.le_refl _) (.cells #[.int .u8 49, .int .u8 50, .int .u8 51, .int .u8 52, .int .u8 53, .int .u8 54, .int .u8 55, .int .u8 56, .int .u8 57] 5 (9, 10))).more (by simp)).below hb3
  have hs := hr3.str
  have B3 := Lib.hid ((B2.out.alloc B2.out.size _).trans (hb3.mono (by have := B2.out.size; simp; omega)))
  clear hb3 b3
  go_wp2_with fail
  go_ret
  exact ⟨rfl, B3.out⟩
end Go.Proofs.Ytmcjefdnkcpghaa
