/- THE WALKS OF blob.Writer's METHODS. -/
import Derived.Test.YtnmiodjkomgfcaaWri
import Derived.Deep.RegionLaw
namespace Go.Proofs.Ytnmiodjkomgfcaa
open Go.RowKit
abbrev ptr (g : Nat) : Value := .pointer (some ⟨g, 0, none⟩)
def WPost (w : World) (g : Nat) (l : List UInt8) (sp : Bool) (s : Value) (e : Ending) (w' : World) : Prop :=
  ∃ s', e = .returned (ptr g) ∧ Wr w' g l sp s' ∧ Step w w' g s s'
set_option maxHeartbeats 1000000 in
theorem flag_any {w : World} {g : Nat} {l : List UInt8} {sp : Bool} {s : Value} (b : Bool) (h : Wr w g l sp s) (hl : l.length ≤ 1000000000) :
    Calls Try.prog 27 #[ptr g, .bool b] w (WPost w g (l ++ flagL b) sp s) := by
  have h0 := h.c0
  have hf := h.f0
  have hlt := h.lt
  have hne := World.new_ne w _ h0
  have hown := h.own
  have hap := Lib.hid h.apart
  unfold ptr
  cases b
  all_goals
    go_enter Try.func27, Try.ntmps27
    go_wp2_with (first
      | (go_at_call 31; refine (none_any h).mono ?_; rintro e w' ⟨rfl, rfl⟩)
      | (at_builtin; go_must (first
           | refine wpList_wr h ((Below.refl _ _).alloc (Nat.le_refl _) _) rfl (.tmp 12) (.tmp 13) rfl rfl _ _ [1] rfl (byt_one w _ 1 rfl) (by simp; omega) ?_
           | refine wpList_wr h ((Below.refl _ _).alloc (Nat.le_refl _) _) rfl (.tmp 22) (.tmp 23) rfl rfl _ _ [0] rfl (byt_one w _ 0 rfl) (by simp; omega) ?_)
         intro A n c w1 hc1 hf1 hres))
    go_ret
    exact ⟨_, rfl, hres.1, hres.2⟩
theorem digs_snoc (n m : Nat) (h : 0 < n / 256 ^ m) : digs (n / 256 ^ m) = digs (n / 256 ^ (m + 1)) ++ [UInt8.ofNat (n / 256 ^ m)] := by
  rw [digs_pos h, Nat.pow_succ, Nat.div_div_eq_div_mul]
theorem shr_byte (k m : Nat) (hm : m < 8) : Op.shift .shr .u64 (k : Int) .i64 (IntKind.i64.wrap (8 * (m : Int))) = pure (.int .u64 ((k / 256 ^ m : Nat) : Int)) := by
  have e : IntKind.i64.wrap (8 * (m : Int)) = ((8 * m : Nat) : Int) := by rw [IntKind.wrap_i64]; omega
  have e2 : (2 : Int) ^ min (((8 * m : Nat) : Int).toNat) IntKind.u64.bits = ((256 ^ m : Nat) : Int) := by
    rw [Int.toNat_natCast, Nat.min_eq_left (by show 8 * m ≤ 64; omega)]
    have : (256 : Nat) ^ m = 2 ^ (8 * m) := by rw [Nat.pow_mul]
    rw [this, Int.natCast_pow]; rfl
  rw [e, shift_shr_any _ _ _ _ (by omega), e2]
  rfl
theorem num_least {w : World} {g : Nat} {l : List UInt8} {sp : Bool} {s : Value} (h : Wr w g l sp s) :
    Calls Try.prog 25 #[ptr g, .int .i64 (-9223372036854775808)] w (WPost w g l true s) := by
  have h2 := h.c2
  have hf := h.f2
  have hres := h.spoilt
  unfold ptr
  go_enter Try.func25, Try.ntmps25
  go_wp2_with (go_at_call 31; refine (none_any h).mono ?_; rintro e w' ⟨rfl, rfl⟩)
  go_ret
  exact ⟨_, rfl, hres.1, hres.2⟩
set_option maxRecDepth 100000 in
set_option maxHeartbeats 2000000 in
/-- the loop of Num: from the head's byte on -/
theorem num_any {w : World} {g : Nat} {l : List UInt8} {sp : Bool} {s : Value} (n : Int) (h1 : -9223372036854775808 < n) (h2 : n ≤ 9223372036854775807) (h : Wr w g l sp s) (hl : l.length ≤ 1000000000) :
    Calls Try.prog 25 #[ptr g, .int .i64 n] w (WPost w g (l ++ numL n) sp s) := by
  have h0 := h.c0
  have hf := h.f0
  have hlt := h.lt
  have hne := World.new_ne w _ h0
  have hd8 := digs_abs_le n (by omega) h2
  unfold ptr
  obtain ⟨k, hd, hk, hnum, hcase⟩ : ∃ k hd : Nat, k < 9223372036854775808 ∧ numL n = UInt8.ofNat (hd + (digs k).length) :: digs k ∧ ((n = (k : Int) ∧ hd = 0) ∨ (n = -(k : Int) ∧ 0 < k ∧ hd = 128)) := by
    by_cases hn : n < 0
    · exact ⟨n.natAbs, 128, by omega, by unfold numL; rw [if_pos hn], .inr ⟨by omega, by omega, rfl⟩⟩
    · exact ⟨n.natAbs, 0, by omega, by unfold numL; rw [if_neg (by omega)], .inl ⟨by omega, rfl⟩⟩
  rw [hnum]
  clear hnum hd8
  have hlong := long_any k (by omega) w
  have hd8 : (digs k).length ≤ 8 := digs_lt 8 k (by omega)
  have HZ := Lib.hid (digs_full k)
  have HD := Lib.hid (fun m hm => (digs_len_div k m hm).2)
  have HS := Lib.hid (digs_snoc k)
  rcases hcase with ⟨rfl, rfl⟩ | ⟨rfl, hk0, rfl⟩
  all_goals
    go_enter Try.func25, Try.ntmps25
    go_wp2_with (first
      | (go_at_call 31; refine (none_any h).mono ?_; rintro e w' ⟨rfl, rfl⟩)
      | (go_at_call 39; refine hlong.mono ?_; rintro e w' ⟨rfl, rfl⟩)
      | (at_builtin; go_must (first
           | refine wpList_wr h ((Below.refl _ _).alloc (Nat.le_refl _) _) rfl (.tmp 31) (.tmp 36) rfl rfl _ _ [UInt8.ofNat (0 + (digs k).length)] rfl (byt_one w _ _ (by simp; omega)) (by simp; omega) ?_
           | refine wpList_wr h ((Below.refl _ _).alloc (Nat.le_refl _) _) rfl (.tmp 31) (.tmp 36) rfl rfl _ _ [UInt8.ofNat (128 + (digs k).length)] rfl (byt_one w _ _ (by simp; omega)) (by simp; omega) ?_)
         intro A n c w1 hc1 hf1 hres))
    clear hc1 hf1
    obtain ⟨hwr, hst⟩ := hres
    generalize UInt8.ofNat _ = hdb at *
    generalize w1.setCell ⟨g, 0, none⟩ (.slice A n c) = w2 at *
    generalize (digs k).length = L at *
    go_loopg [7] L (fun gk x wr => ∃ (m : Nat) (s' : Value), m ≤ L ∧ gk = m ∧ x = .int .i64 (m : Int) ∧ Wr wr g (l ++ hdb :: digs (k / 256 ^ m)) sp s' ∧ Step w wr g s s')
    case atStart => exact ⟨L, _, Nat.le_refl _, rfl, rfl, by rw [HZ.out, digs_zero]; exact hwr, hst⟩
    case round =>
      obtain ⟨m, s', hm, hgk, rfl, hwr', hst'⟩ := hrel
      have HG := Lib.hid hgk
      clear hgk
      cases m with
      | zero =>
        go_wp2
        go_ret
        exact ⟨_, rfl, by simpa using hwr', hst'⟩
      | succ m =>
        have hc0 := hwr'.c0
        have hcf := hwr'.f0
        have hcl := hwr'.lt
        have hcn := World.new_ne wr _ hc0
        have hsn := HS.out m (HD.out m (by omega) (by omega))
        have hsh := shr_byte k m (by omega)
        have hdl : (digs (k / 256 ^ (m + 1))).length ≤ 8 := digs_lt 8 _ (Nat.lt_of_le_of_lt (Nat.div_le_self _ _) (by omega))
        generalize hx : k / 256 ^ m = x at hsn hsh
        have HX := Lib.hid hx
        clear hx
        generalize digs (k / 256 ^ (m + 1)) = ds at *
        have HSN := Lib.hid hsn
        clear hsn
        go_wp2_with fail
        go_region_law ((refine step_wr hwr' (((Below.refl _ _).drew).alloc (Nat.le_refl _) _) (by rfl) (.tmp 48) (.tmp 54) (by rfl) (by rfl) _ _ [UInt8.ofNat x] (by rfl) (byt_one wr.drew _ _ (by rw [IntKind.wrap_u8]; simp)) (by simp; omega) ?_; intro A' n' c' w3 hc3 hf3 hres'))
        all_goals
          go_wp2
          go_roundg m
          case measure => have := HG.out; omega
          case rel => exact ⟨m, _, by omega, rfl, rfl, by rw [HX.out, HSN.out]; simpa using hres'.1, hst'.trans hres'.2⟩
end Go.Proofs.Ytnmiodjkomgfcaa
