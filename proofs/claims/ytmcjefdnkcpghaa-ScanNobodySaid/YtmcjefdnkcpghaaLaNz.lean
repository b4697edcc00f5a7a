/- THE WALK OF ScanNobody. -/
import Derived.Test.YtmcjefdnkcpghaaZp
namespace Go.Proofs.Ytmcjefdnkcpghaa
open Go.RowKit
theorem dead_disk (m : List UInt8) (hm : m.length = 64) : (((Dv.new 2).fuses 0 0).1.write 0 m).1.dead = true ∧ (((Dv.new 2).fuses 0 0).1.write 0 m).1.n = 2 := by
  have hf : ((Dv.new 2).fuses 0 0).1 = { Dv.new 2 with fuse := some (0, 0) } := by unfold Dv.fuses; rw [if_neg (by decide)]; rfl
  have hc : ({ Dv.new 2 with fuse := some (0, 0) } : Dv).can 0 = 0 := by unfold Dv.can Dv.new; rfl
  rw [hf]
  unfold Dv.write
  rw [if_neg (by rw [hc]; simp), if_neg (by simp [hm])]
  exact ⟨rfl, rfl⟩
set_option maxRecDepth 100000 in
set_option maxHeartbeats 4000000 in
theorem nobody_any {w : World} (tail : Int) (_ht : -9223372036854775808 ≤ tail ∧ tail ≤ 9223372036854775807) : Calls Try.prog 15 #[.int .i64 tail] w fun e w' => e = .returned (.bool true) ∧ Below w.heap.size w w' := by
  have hbd : ∀ W, (Instr.build 102 #[]).run Try.prog W = .ok (.agg #[.slice none 0 0, .pointer none, .bool false, .int .i64 0]) W := fun W => run_build W 102 _ _ (by rfl)
  have hz0 : Dz (w.alloc (.cells #[.slice none 0 0, .pointer none, .bool false, .int .i64 0] 102)) w.heap.size := heap_alloc_new w _
  have hb0 : Below w.heap.size w (w.alloc (.cells #[.slice none 0 0, .pointer none, .bool false, .int .i64 0] 102)) := (Below.refl _ _).alloc (Nat.le_refl _) _
  have hz1 := hz0.below ((Below.refl _ _).alloc (Nat.le_refl _) (.cells #[.pointer none, .pointer (some ⟨w.heap.size, 0, none⟩)] 41))
  have hb1 := hb0.alloc (by simp) (.cells #[.pointer none, .pointer (some ⟨w.heap.size, 0, none⟩)] 41)
  have hx1 := heap_alloc_new (w.alloc (.cells #[.slice none 0 0, .pointer none, .bool false, .int .i64 0] 102)) (.cells #[.pointer none, .pointer (some ⟨w.heap.size, 0, none⟩)] 41 (0, 0))
  rw [World.size_alloc] at hx1
  have HZ1 := Lib.hid hz1
  have HB1 := Lib.hid hb1
  have HX1 := Lib.hid hx1
  clear hz0 hb0 hz1 hb1 hx1
  have hnew := fun w => new_any 2 (by omega) (by omega) w
  rw [show ((2 : Nat) : Int) = 2 from rfl] at hnew
  have hfill := fun w => fill_any 1 w
  rw [show (((1 : UInt8).toNat : Nat) : Int) = 1 from rfl] at hfill
  have HNEW := Lib.hid hnew
  have HFILL := Lib.hid hfill
  clear hnew hfill
  go_enter Try.func15, Try.ntmps15
  go_wp2
  go_loopg [5, 6, 7, 8, 9, 10, 11, 12, 24] 2 (fun gk x5 x6 x7 x8 x9 x10 x11 x12 x24 wr => ((gk = 2 ∧ x24 = .int .i64 0) ∨ (gk = 1 ∧ x24 = .int .i64 1) ∨ (gk = 0 ∧ x24 = .int .i64 2)) ∧ Dz wr w.heap.size ∧ wr.heap[w.heap.size + 1]? = some (.cells #[.pointer none, .pointer (some ⟨w.heap.size, 0, none⟩)] 41 (0, 0)) ∧ Below w.heap.size w wr)
  case atStart => exact ⟨.inl ⟨rfl, rfl⟩, HZ1.out, HX1.out, HB1.out⟩
  case round =>
    obtain ⟨hk, hz, hx, hbel⟩ := hrel
    have HZ := Lib.hid hz
    have HX := Lib.hid hx
    have HBE := Lib.hid hbel
    have c0 := cells_of hx 0 (.pointer none) rfl
    have c1 := cells_of hx 1 (.pointer (some ⟨w.heap.size, 0, none⟩)) rfl
    have hlt := lt_of_block hx
    clear hz hx hbel HZ1 HB1 HX1
    rcases hk with ⟨rfl, rfl⟩ | ⟨rfl, rfl⟩ | ⟨rfl, rfl⟩
    · skip
      go_wp2_with (first
        | (go_at_call 67; (with_reducible refine (sfind_nil _).mono ?_); rintro e w1 ⟨rfl, hb1⟩)
        | (go_at_call 69; (with_reducible refine (sDirty_nil _ _).mono ?_); rintro e w2 ⟨rfl, rfl⟩)
        | (go_at_call 68; (with_reducible refine (sWipe_nil _ _).mono ?_); rintro e w3 ⟨rfl, hb3⟩))
      go_roundg 1
      case measure => omega
      case rel => exact ⟨.inr (.inl ⟨rfl, rfl⟩), (HZ.out.below hb1).below hb3, (hb3.block _ (Nat.lt_of_lt_of_le hlt hb1.size)).trans ((hb1.block _ hlt).trans HX.out), HBE.out.trans ((hb1.trans (hb3.mono hb1.size)).mono HBE.out.size)⟩
    · skip
      go_wp2_with (first
        | (go_at_call 67; (with_reducible refine (sfind_zero HZ.out).mono ?_); rintro e w1 ⟨rfl, hb1⟩
           have hz1 := HZ.out.below hb1)
        | (go_at_call 69; (with_reducible refine (sDirty_zero hz1 _).mono ?_); rintro e w2 ⟨rfl, rfl⟩)
        | (go_at_call 68; (with_reducible refine (sWipe_zero hz1 _).mono ?_); rintro e w3 ⟨rfl, hb3⟩))
      go_roundg 0
      case measure => omega
      case rel => exact ⟨.inr (.inr ⟨rfl, rfl⟩), hz1.below hb3, (hb3.block _ (Nat.lt_of_lt_of_le hlt hb1.size)).trans ((hb1.block _ hlt).trans HX.out), HBE.out.trans ((hb1.trans (hb3.mono hb1.size)).mono HBE.out.size)⟩
    · skip
      go_wp2_with (first
        | (go_at_call 34; (with_reducible refine (HNEW.out _).mono ?_); rintro e w1 ⟨g, rfl, hd1, hb1⟩
           have hfu := fuse_any hd1 0 0 (by omega)
           have HB1 := Lib.hid (HBE.out.trans (hb1.mono HBE.out.size))
           have hwq := fuses_writes (Dv.new 2) 0 0
           have hdd := dead_disk (List.replicate 64 1) (by simp)
           generalize (Dv.new 2).fuses 0 0 = Q0 at *
           have hlo1 := hb1.size
           have hw0 := HBE.out.size
           obtain ⟨q1, q2⟩ := Q0
           simp only at hwq hdd hfu
           have hwq0 : q1.writes = 0 := hwq
           have HDD := Lib.hid hdd
           clear hd1 hb1 hwq hdd)
        | (go_at_call 37; (with_reducible refine hfu.mono ?_); rintro e w2 ⟨rfl, hd2, hk2⟩
           have HB2 := Lib.hid (HB1.out.trans (hk2.toBelow (B := w.heap.size) (by omega) (fun b hb hz => by have := hz.1; omega)))
           have hs2 := hk2.size
           clear hk2)
        | (go_at_call 36; (with_reducible refine (HFILL.out _).mono ?_); rintro e w3 ⟨v3, rfl, hv3, hb3⟩
           have hd3 := hd2.below hb3
           have hwr := write_any hd3 0 hv3 (by omega)
           have HB3 := Lib.hid (HB2.out.trans (hb3.mono HB2.out.size))
           have hs3 := hb3.size
           obtain ⟨hdd1, hdd2⟩ := HDD.out
           generalize q1.write 0 (List.replicate 64 1) = Q3 at *
           obtain ⟨d4, r4⟩ := Q3
           simp only at hwr hdd1 hdd2
           have HD1 := Lib.hid hdd1
           have HD2 := Lib.hid hdd2
           clear hd2 hd3 hv3 hb3 hdd1 hdd2 HDD)
        | (go_at_call 35; (with_reducible refine hwr.mono ?_); rintro e w4 ⟨rfl, hd4, hk4⟩
           have HB4 := Lib.hid (HB3.out.trans (hk4.toBelow (B := w.heap.size) (by omega) (fun b hb hz => by rcases hz with h | h <;> omega)))
           have hs4 := hk4.size
           have hfi := sfind_dead hd4 HD1.out
           have hrt : rightE d4 ((2 : Nat) : Int) = 32 := (by unfold rightE; rw [if_neg (by rw [HD2.out]; omega), HD1.out]; rfl)
           have HR := Lib.hid hrt
           have HD4 := Lib.hid hd4
           clear hd4 hk4 hrt)
        | (go_at_call 67; (with_reducible refine hfi.mono ?_); rintro e w5 ⟨rfl, hb5⟩
           have hdi := sDirty_any (HD4.out.below hb5) (fun b hb => (by have := hb5.size; rcases hb with h | h <;> omega)) ((2 : Nat) : Int)
           rw [HR.out, if_neg (by decide), show ((2 : Nat) : Int) = 2 from rfl] at hdi
           have HB5 := Lib.hid (HB4.out.trans (hb5.mono HB4.out.size))
           clear hb5)
        | (go_at_call 69; (with_reducible refine hdi.mono ?_); rintro e w6 ⟨rfl, hb6⟩
           have HB6 := Lib.hid (HB5.out.trans (hb6.mono HB5.out.size))
           clear hb6)
        | (go_at_call 64; (with_reducible refine (lives11_any _).mono ?_); rintro e w7 ⟨rfl, hb7⟩
           have HB7 := Lib.hid (HB6.out.trans (hb7.mono HB6.out.size))
           clear hb7))
      go_ret
      exact ⟨rfl, HB7.out⟩
end Go.Proofs.Ytmcjefdnkcpghaa
