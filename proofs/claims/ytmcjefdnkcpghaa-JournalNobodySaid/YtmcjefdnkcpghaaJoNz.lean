/- THE WALK OF JournalNobody. -/
import Derived.Test.YtmcjefdnkcpghaaZj
namespace Go.Proofs.Ytmcjefdnkcpghaa
open Go.RowKit
set_option maxRecDepth 100000 in
set_option maxHeartbeats 4000000 in
theorem jnobody_any {w : World} (v : Value) (b : List UInt8) (hby : Byt w w.heap.size v b) : Calls Try.prog 19 #[v] w (LawPost11 w) := by
  obtain ⟨A, c, rfl, hc, hm, _⟩ := id hby
  unfold maxLen at hm
  by_cases h1 : 1000 < b.length
  · have e1 : decide ((1000 : Int) < (b.length : Int)) = true := decide_eq_true (by omega)
    go_enter Try.func19, Try.ntmps19
    go_wp2_with (go_at_call 75; (with_reducible refine (lives12_any _).mono ?_); rintro e w1 ⟨rfl, hb1⟩)
    go_ret
    exact ⟨rfl, hb1⟩
  have e1 : decide ((1000 : Int) < (b.length : Int)) = false := decide_eq_false (by omega)
  have hbd : ∀ W, (Instr.build 120 #[]).run Try.prog W = .ok (.agg #[.pointer none, .int .i64 0, .int .i64 0, .bool false]) W := fun W => run_build W 120 _ _ (by rfl)
  have hz0 : Jz (w.alloc (.cells #[.pointer none, .int .i64 0, .int .i64 0, .bool false] 120)) w.heap.size := heap_alloc_new w _
  have hb0 : Below w.heap.size w (w.alloc (.cells #[.pointer none, .int .i64 0, .int .i64 0, .bool false] 120)) := (Below.refl _ _).alloc (Nat.le_refl _) _
  have hz1 := hz0.below ((Below.refl _ _).alloc (Nat.le_refl _) (.cells #[.pointer none, .pointer (some ⟨w.heap.size, 0, none⟩)] 112))
  have hb1 := hb0.alloc (by simp) (.cells #[.pointer none, .pointer (some ⟨w.heap.size, 0, none⟩)] 112)
  have hx1 := heap_alloc_new (w.alloc (.cells #[.pointer none, .int .i64 0, .int .i64 0, .bool false] 120)) (.cells #[.pointer none, .pointer (some ⟨w.heap.size, 0, none⟩)] 112 (0, 0))
  rw [World.size_alloc] at hx1
  have HZ1 := Lib.hid hz1
  have HB1 := Lib.hid hb1
  have HX1 := Lib.hid hx1
  clear hz0 hb0 hz1 hb1 hx1 hby
  go_enter Try.func19, Try.ntmps19
  go_wp2
  go_loopg [5, 6, 7, 20] 2 (fun gk x5 x6 x7 x20 wr => ((gk = 2 ∧ x20 = .int .i64 0) ∨ (gk = 1 ∧ x20 = .int .i64 1) ∨ (gk = 0 ∧ x20 = .int .i64 2)) ∧ Jz wr w.heap.size ∧ wr.heap[w.heap.size + 1]? = some (.cells #[.pointer none, .pointer (some ⟨w.heap.size, 0, none⟩)] 112 (0, 0)) ∧ Below w.heap.size w wr)
  case atStart => exact ⟨.inl ⟨rfl, rfl⟩, HZ1.out, HX1.out, HB1.out⟩
  case round =>
    obtain ⟨hk, hz, hx, hbel⟩ := hrel
    have HZ := Lib.hid hz
    have HX := Lib.hid hx
    have HBE := Lib.hid hbel
    have c0 := cells_of hx 0 (.pointer none) rfl
    have c1 := cells_of hx 1 (.pointer (some ⟨w.heap.size, 0, none⟩)) rfl
    have hno0 : Jno wr (.pointer none) := .inl rfl
    have hno1 : Jno wr (.pointer (some ⟨w.heap.size, 0, none⟩)) := .inr ⟨_, rfl, hz⟩
    have HN0 := Lib.hid hno0
    have HN1 := Lib.hid hno1
    clear hz hx hbel HZ1 HB1 HX1 hno0 hno1
    rcases hk with ⟨rfl, rfl⟩ | ⟨rfl, rfl⟩ | ⟨rfl, rfl⟩
    · go_wp2_with (first
        | (go_at_call 78; (with_reducible refine (jappend_no HN0.out).mono ?_); rintro e w2 ⟨rfl, rfl⟩)
        | (go_at_call 80; (with_reducible refine (jlen_no HN0.out).mono ?_); rintro e w2 ⟨rfl, rfl⟩)
        | (go_at_call 79; (with_reducible refine (jtail_no HN0.out).mono ?_); rintro e w2 ⟨rfl, rfl⟩)
        | (go_at_call 77; (with_reducible refine (jroom_no HN0.out).mono ?_); rintro e w2 ⟨rfl, rfl⟩)
        | (go_at_call 81; (with_reducible refine (jdead_no HN0.out).mono ?_); rintro e w2 ⟨rfl, rfl⟩))
      go_roundg 1
      case measure => omega
      case rel => exact ⟨.inr (.inl ⟨rfl, rfl⟩), HZ.out, HX.out, HBE.out⟩
    · go_wp2_with (first
        | (go_at_call 78; (with_reducible refine (jappend_no HN1.out).mono ?_); rintro e w2 ⟨rfl, rfl⟩)
        | (go_at_call 80; (with_reducible refine (jlen_no HN1.out).mono ?_); rintro e w2 ⟨rfl, rfl⟩)
        | (go_at_call 79; (with_reducible refine (jtail_no HN1.out).mono ?_); rintro e w2 ⟨rfl, rfl⟩)
        | (go_at_call 77; (with_reducible refine (jroom_no HN1.out).mono ?_); rintro e w2 ⟨rfl, rfl⟩)
        | (go_at_call 81; (with_reducible refine (jdead_no HN1.out).mono ?_); rintro e w2 ⟨rfl, rfl⟩))
      go_roundg 0
      case measure => omega
      case rel => exact ⟨.inr (.inr ⟨rfl, rfl⟩), HZ.out, HX.out, HBE.out⟩
    · go_wp2_with (first
        | (go_at_call 76; (with_reducible refine (jopen_nil _).mono ?_); rintro e w2 ⟨rfl, hb2⟩)
        | (go_at_call 75; (with_reducible refine (lives12_any _).mono ?_); rintro e w3 ⟨rfl, hb3⟩))
      go_ret
      exact ⟨rfl, HBE.out.trans ((hb2.trans (hb3.mono hb2.size)).mono HBE.out.size)⟩
end Go.Proofs.Ytmcjefdnkcpghaa
