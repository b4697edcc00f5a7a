/- A SET THAT NO CALL MADE: THE WALKS OF ids' METHODS. -/
import Derived.Test.YtnfpmobmfcgfnaaIdE
namespace Go.Proofs.Ytnfpmobmfcgfnaa
open Go.RowKit
/-- no set, or the zero set -/
def NobS (w : World) (p : Value) : Prop := p = .pointer none ∨ ∃ g, p = .pointer (some ⟨g, 0, none⟩) ∧ w.heap[g]? = some (.cells #[.map none, .map none] 48 (0, 0))
theorem NobS.below {w w' : World} {p : Value} (h : NobS w p) (k : Below w.heap.size w w') : NobS w' p := by
  rcases h with h | ⟨g, h1, h2⟩
  · exact .inl h
  · exact .inr ⟨g, h1, (k.block g (lt_of_blk h2)).trans h2⟩
section
variable {w : World} {p : Value}
set_option maxRecDepth 100000 in
theorem noneN_any (h : NobS w p) : Calls Try.prog 44 #[p] w fun e w' => e = .returned (.bool true) ∧ w = w' := by
  rcases h with rfl | ⟨g, rfl, h⟩
  · go_enter Try.func44, Try.ntmps44
    go_wp2
    go_ret
    exact ⟨rfl, rfl⟩
  · have c0 := cells_of h 0 (.map none) rfl
    have hq := run_eql_map_nil (P := Try.prog) w 45 9 25 none Try.underlying45
    clear h
    go_enter Try.func44, Try.ntmps44
    go_wp2
    go_ret
    exact ⟨rfl, rfl⟩
set_option maxRecDepth 100000 in
theorem lenN_any (h : NobS w p) : Calls Try.prog 15 #[p] w fun e w' => e = .returned (.int .i64 0) ∧ w = w' := by
  have hn := noneN_any h
  clear h
  go_enter Try.func15, Try.ntmps15
  go_wp2_with (go_at_call 44; (with_reducible refine hn.mono ?_); rintro e w' ⟨rfl, rfl⟩)
  go_ret
  exact ⟨rfl, rfl⟩
set_option maxRecDepth 100000 in
theorem credN_any (h : NobS w p) (s : ByteArray) : Calls Try.prog 22 #[p, .string s] w fun e w' => e = .returned (.slice none 0 0) ∧ w = w' := by
  have hn := noneN_any h
  clear h
  go_enter Try.func22, Try.ntmps22
  go_wp2_with (go_at_call 44; (with_reducible refine hn.mono ?_); rintro e w' ⟨rfl, rfl⟩)
  go_ret
  exact ⟨rfl, rfl⟩
set_option maxRecDepth 100000 in
theorem getN_any (h : NobS w p) (s : ByteArray) : Calls Try.prog 16 #[p, .string s] w fun e w' => e = .returned (.tuple #[.agg (Dm.zero.vs (.slice none 0 0)), .bool false]) ∧ Below w.heap.size w w' := by
  have hal := (Below.refl w.heap.size w).alloc (Nat.le_refl _) (.cells (Dm.zero.vs (.slice none 0 0)) 25)
  have hn := noneN_any (h.below hal)
  have HAL := Lib.hid hal
  clear h hal
  unfold Dm.zero Dm.vs at *
  simp only at *
  go_enter Try.func16, Try.ntmps16
  go_wp2_with (go_at_call 44; (with_reducible refine hn.mono ?_); rintro e w' ⟨rfl, rfl⟩)
  exact bodyPost_ret (v := .tuple #[.agg #[.string ⟨#[]⟩, .bool false, .bool false, .string ⟨#[]⟩, .int .i64 0, .string ⟨#[]⟩, .string ⟨#[]⟩, .string ⟨#[]⟩, .slice none 0 0], .bool false]) (by simp [results, Try.results16, go_sem]) rfl ⟨rfl, HAL.out⟩
set_option maxRecDepth 100000 in
theorem checkN_any (h : NobS w p) (d : Dm) (lv : Value) : Calls Try.prog 18 #[p, .agg (d.vs lv)] w fun e w' => e = .returned (.int .i64 1) ∧ Below w.heap.size w w' := by
  obtain ⟨a, rfl⟩ : ∃ a, p = .pointer a := by
    rcases h with e | ⟨g, e, _⟩ <;> exact ⟨_, e⟩
  have hn := fun W (hW : Below w.heap.size w W) => noneN_any (h.below hW)
  have hbel : ∀ o o', Below w.heap.size w ((w.alloc o).alloc o') := fun o o' => ((Below.refl _ _).alloc (Nat.le_refl _) o).alloc (by simp) o'
  have HB := Lib.hid hbel
  have HN2 := Lib.hid (fun o o' => hn _ (hbel o o'))
  clear h hn hbel
  obtain ⟨id, sale, cred, ref, day, cty, num, cur, ls⟩ := d
  unfold Dm.vs at *
  simp only at *
  go_enter Try.func18, Try.ntmps18
  go_wp2_with (go_at_call 44; (with_reducible refine (HN2.out _ _).mono ?_); rintro e w' ⟨rfl, rfl⟩)
  go_ret
  exact ⟨rfl, HB.out _ _⟩
set_option maxRecDepth 100000 in
theorem putN_any (h : NobS w p) (d : Dm) (lv : Value) : Calls Try.prog 13 #[p, .agg (d.vs lv)] w fun e w' => e = .returned (.int .i64 1) ∧ Below w.heap.size w w' := by
  have hal := (Below.refl w.heap.size w).alloc (Nat.le_refl _) (.cells (d.vs lv) 25)
  have hc := checkN_any (h.below hal) d lv
  have HAL := Lib.hid hal
  clear h hal
  obtain ⟨id, sale, cred, ref, day, cty, num, cur, ls⟩ := d
  unfold Dm.vs at *
  simp only at *
  go_enter Try.func13, Try.ntmps13
  go_wp2_with (go_at_call 18; (with_reducible refine hc.mono ?_); rintro e w' ⟨rfl, hb⟩)
  go_ret
  exact ⟨rfl, HAL.out.trans (hb.mono HAL.out.size)⟩
end
end Go.Proofs.Ytnfpmobmfcgfnaa
