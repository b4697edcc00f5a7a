/- THE WALK OF CrcJoins. -/
import Derived.Test.YtmcjefdnkcpghaaLaw1
import Derived.Deep.RegionWith
namespace Go.Proofs.Ytmcjefdnkcpghaa
open Go.RowKit
theorem join_sums (a b : List UInt8) : Crc.stN (8 * b.length) (Crc.on 0 (nats a)) ^^^ Crc.on 0 (nats b) = Crc.on 0 (nats (a ++ b)) := by
  unfold nats
  rw [List.map_append, Crc.on_append]
  generalize Crc.on 0 (a.map UInt8.toNat) = s
  unfold Crc.on
  rw [Nat.zero_xor, Crc.onL_lin, List.length_map, Nat.xor_assoc]
theorem own_empty (w : World) (base : Nat) (hb : base ≤ w.heap.size) : Own (w.alloc (.cells #[] 5)) base (.slice (some ⟨w.heap.size, 0, none⟩) 0 0) [] :=
  (own_lit w [] (by simp [maxLen])).more hb
set_option maxRecDepth 100000 in
set_option maxHeartbeats 2000000 in
theorem crcJoins_walk (va : Value) (la : List UInt8) {Ba : Nat} {w : World} (ha : Byt w Ba va la) (vb : Value) (lb : List UInt8) {Bb : Nat} (hb : Byt w Bb vb lb) (x : Nat) (hx : x < 4294967296) (n : Int) (_hn : -9223372036854775808 ≤ n ∧ n ≤ 9223372036854775807) :
    Calls Try.prog 7 #[va, vb, .int .u32 x, .int .i64 n] w (LawPost w) := by
  have ha1 := ha.heap
  have hb1 := hb.heap
  clear ha hb
  obtain ⟨A, c, rfl, hc, hm, hr⟩ := id ha1
  obtain ⟨A', c', rfl, hc', hm', hr'⟩ := id hb1
  unfold maxLen at hm hm'
  clear hr hr'
  by_cases hla : la.length ≤ 20000
  rotate_left
  · go_enter Try.func7, Try.ntmps7
    go_wp2_with (go_at_call 22; refine (lives06 _).mono ?_; rintro e w3 ⟨rfl, hb3⟩)
    go_ret
    exact ⟨rfl, hb3⟩
  by_cases hlb : lb.length ≤ 20000
  rotate_left
  · go_enter Try.func7, Try.ntmps7
    go_wp2_with (go_at_call 22; refine (lives06 _).mono ?_; rintro e w3 ⟨rfl, hb3⟩)
    go_ret
    exact ⟨rfl, hb3⟩
  by_cases hn : 20000 < n ∧ n ≤ 1048576
  · obtain ⟨hn1, hn2⟩ := hn
    go_enter Try.func7, Try.ntmps7
    go_wp2_with (go_at_call 22; refine (lives06 _).mono ?_; rintro e w3 ⟨rfl, hb3⟩)
    go_ret
    exact ⟨rfl, hb3⟩
  obtain ⟨y, hjoin, hrjoin⟩ : ∃ y : Int, (∀ W : World, Calls Try.prog 31 #[.int .u32 x, .int .u32 7, .int .i64 n] W fun e w' => e = .returned (.int .u32 y) ∧ W = w') ∧ (∀ W : World, Calls Try.prog 32 #[.int .u32 x, .int .u32 7, .int .i64 n] W fun e w' => e = .returned (.int .u32 y) ∧ W = w') := by
    by_cases h : n < 0 ∨ 1048576 < n
    · exact ⟨0, fun W => join_no _ _ _ h W, fun W => rjoin_no _ _ _ h W⟩
    · obtain ⟨m, rfl⟩ := Int.eq_ofNat_of_zero_le (show 0 ≤ n by omega)
      exact ⟨_, fun W => join_yes x 7 m hx (by decide) (by omega) W, fun W => rjoin_yes x 7 m hx (by decide) (by omega) W⟩
  have HJ := Lib.hid hjoin
  have HRJ := Lib.hid hrjoin
  clear hjoin hrjoin
  have hcond : (20000 < n ∧ n ≤ 1048576) = False := by simp; omega
  have hjs := join_sums la lb
  have HJS := Lib.hid hjs
  clear hjs
  by_cases hn1 : n ≤ 20000
  all_goals
    go_enter Try.func7, Try.ntmps7
    go_wp2_with (first
      | (at_builtin; refine wpList_append_byt _ rfl (.tmp 27) (.tmp 28) rfl w.heap.size _ [] rfl (own_empty _ _ (Nat.le_refl _)) w.heap.size _ la rfl (ha1.alloc (Nat.le_refl _) _) (by simp; omega) (by simp) ?_; intro v1 w1 hown1 hg1 hat1; have hbel1 : Below w.heap.size w w1 := ((Below.refl _ _).alloc (Nat.le_refl _) _).grown hg1 (by simp) (fun k hk => by have e : w.heap.size = k := Option.some.inj hk; omega); have hl1 := ha1.below hbel1; have hm1 := hb1.below hbel1)
      | (at_builtin; refine wpList_append_byt _ rfl (.tmp 29) (.tmp 30) rfl w.heap.size _ ([] ++ la) rfl hown1 w.heap.size _ lb rfl hm1 (by simp; omega) hbel1.size ?_; intro v2 w2 hown2 hg2 hat2; have hbel2 : Below w.heap.size w w2 := hbel1.grown hg2 hbel1.size (fun k hk => (hown1.lt k hk).1); have hl2 := ha1.below hbel2; have hm2 := hb1.below hbel2)
      | (go_at_call_of 25 A; refine (sum_any _ la _ _ hl2).mono ?_; rintro e w3 ⟨rfl, hb3⟩; have hm3 := hm2.below (hb3.mono hbel2.size); have hown3 := hown2.below hb3; have hbel3 := hbel2.trans (hb3.mono hbel2.size))
      | (go_at_call_of 25 A'; refine (sum_any _ lb _ _ hm3).mono ?_; rintro e w4 ⟨rfl, hb4⟩; have hown4 := hown3.below hb4; have hbel4 := hbel3.trans (hb4.mono hbel3.size))
      | (go_at_call_of 25 v2; refine (sum_any _ _ _ _ hown4.byt).mono ?_; rintro e w5 ⟨rfl, hb5⟩; have hbel5 := hbel4.trans (hb5.mono hbel4.size))
      | (go_at_call_of 31 n; refine (HJ.out _).mono ?_; rintro e w' ⟨rfl, rfl⟩)
      | (go_at_call 31; refine (join_yes _ _ lb.length (on0_lt la) (on0_lt lb) (by omega) _).mono ?_; rintro e w' ⟨rfl, rfl⟩; rw [HJS.out])
      | (go_at_call 32; refine (HRJ.out _).mono ?_; rintro e w' ⟨rfl, rfl⟩)
      | (go_at_call 22; refine (lives06 _).mono ?_; rintro e w6 ⟨rfl, hb6⟩))
    go_ret
    exact ⟨rfl, hbel5.trans (hb6.mono hbel5.size)⟩
end Go.Proofs.Ytmcjefdnkcpghaa
