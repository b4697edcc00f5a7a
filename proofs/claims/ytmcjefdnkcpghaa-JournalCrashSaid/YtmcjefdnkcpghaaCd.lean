/- THE WALKS OF crc.Wrap, crc.Unwrap AND THE REFERENCE'S. -/
import Derived.Test.YtmcjefdnkcpghaaCc
import Derived.Deep.QuietTactic
import Derived.BigQuiet
import Derived.Deep.RegionWith
import Derived.Deep.DeepCutAuto
import Derived.Deep.CutRange
namespace Go.Proofs.Ytmcjefdnkcpghaa
open Go.RowKit
def be4 (s : Nat) : List UInt8 := [UInt8.ofNat (s / 16777216), UInt8.ofNat (s / 65536), UInt8.ofNat (s / 256), UInt8.ofNat s]
theorem own_be4 (w : World) (s : Nat) (base : Nat) (hb : base ≤ w.heap.size) : Own (w.alloc (.cells #[.int .u8 ((s : Int) / 16777216 % 256), .int .u8 ((s : Int) / 65536 % 256), .int .u8 ((s : Int) / 256 % 256), .int .u8 ((s : Int) % 256)] 5)) base (.slice (some ⟨w.heap.size, 0, none⟩) 4 4) (be4 s) := by
  have h := (own_lit w (be4 s) (by simp [be4, maxLen])).more hb
  simp only [be4, List.map_cons, List.map_nil, bV, UInt8.toNat_ofNat', List.length_cons, List.length_nil] at h
  exact h
def wrapL (l : List UInt8) : List UInt8 := be4 (Crc.on 0 (nats l)) ++ l
theorem on0_lt (l : List UInt8) : Crc.on 0 (nats l) < 4294967296 := Crc.on_lt 0 _ (by decide) (by
  intro c hc
  obtain ⟨b, _, rfl⟩ := List.mem_map.1 hc
  exact b.toNat_lt)
set_option maxHeartbeats 1000000 in
theorem wrap_any (v : Value) (l : List UInt8) (w : World) (B : Nat) (hv : Byt w B v l) (hl : l.length ≤ 1000000) :
    Calls Try.prog 27 #[v] w fun e w' => ∃ r, e = .returned r ∧ Own w' w.heap.size r (wrapL l) ∧ Below w.heap.size w w' := by
  have hv1 := hv.heap
  clear hv
  go_enter Try.func27, Try.ntmps27
  go_wp2_with (first
    | (go_at_call 25; refine (sum_any _ l _ _ hv1).mono ?_; rintro e w1 ⟨rfl, hb⟩; have hv2 := hv1.below hb)
    | (at_builtin; go_must (refine wpList_append_byt _ rfl (.tmp 17) (.tmp 18) rfl w.heap.size _ (be4 (Crc.on 0 (nats l))) rfl (own_be4 _ _ _ hb.size) w.heap.size _ l rfl (hv2.alloc hb.size _) (by simp [be4]; omega) (by have := hb.size; simp; omega) ?_); intro v' w' hown hgrow hat))
  go_ret
  refine ⟨v', rfl, hown, (hb.alloc hb.size _).grown hgrow (by have := hb.size; simp; omega) (fun k hk => ?_)⟩
  have e : w1.heap.size = k := Option.some.inj hk
  have := hb.size
  omega
set_option maxHeartbeats 1000000 in
theorem rwrap_any (v : Value) (l : List UInt8) (w : World) (B : Nat) (hv : Byt w B v l) (hl : l.length ≤ 1000000) :
    Calls Try.prog 30 #[v] w fun e w' => ∃ r, e = .returned r ∧ Own w' w.heap.size r (wrapL l) ∧ Below w.heap.size w w' := by
  have hv1 := hv.heap
  clear hv
  go_enter Try.func30, Try.ntmps30
  go_wp2_with (first
    | (go_at_call 26; refine (rsum_any _ l _ _ hv1).mono ?_; rintro e w1 ⟨rfl, rfl⟩)
    | (at_builtin; go_must (refine wpList_append_byt _ rfl (.tmp 19) (.tmp 20) rfl w.heap.size _ (be4 (Crc.on 0 (nats l))) rfl (own_be4 _ _ _ (Nat.le_refl _)) w.heap.size _ l rfl (hv1.alloc (Nat.le_refl _) _) (by simp [be4]; omega) (by simp) ?_); intro v' w' hown hgrow hat))
  go_ret
  refine ⟨v', rfl, hown, ((Below.refl _ _).alloc (Nat.le_refl _) _).grown hgrow (by simp) (fun k hk => ?_)⟩
  have e : w.heap.size = k := Option.some.inj hk
  omega
/-- what the first four bytes say -/
def wantL (l : List UInt8) : Nat := (l.take 4).foldl (fun a b => a * 256 + b.toNat) 0
theorem or_byte (x b : Nat) (hx : x < 16777216) (hb : b < 256) : bits .or .u32 ((x * 256 : Nat) : Int) (b : Int) = ((x * 256 + b : Nat) : Int) := by
  rw [or32 _ _ (by omega) (by omega)]
  congr 1
  have := (Nat.two_pow_add_eq_or_of_lt (i := 8) (b := b) (by omega) x).symm
  rw [show 2 ^ 8 * x = x * 256 by omega] at this
  exact this
set_option maxHeartbeats 1000000 in
theorem unwrap_short (v : Value) (l : List UInt8) (w : World) (B : Nat) (hv : Byt w B v l) (hl : l.length < 4) :
    Calls Try.prog 28 #[v] w fun e w' => e = .returned (.tuple #[.slice none 0 0, .int .i64 10]) ∧ w = w' := by
  obtain ⟨A, c, rfl, hc, hm, hr⟩ := hv
  unfold maxLen at hm
  clear hr
  go_enter Try.func28, Try.ntmps28
  go_wp2
  go_ret2
  exact ⟨rfl, rfl⟩
theorem want_snoc (l : List UInt8) (k : Nat) (hk : k < l.length) : ((l.take (k + 1)).foldl (fun a b => a * 256 + b.toNat) 0) = ((l.take k).foldl (fun a b => a * 256 + b.toNat) 0) * 256 + (l[k].toNat) := by
  rw [List.take_succ_eq_append_getElem hk, List.foldl_append]
  rfl
theorem want_lt (l : List UInt8) (k : Nat) : ((l.take k).foldl (fun a b => a * 256 + b.toNat) 0) < 256 ^ k := by
  induction k with
  | zero => simp
  | succ k ih =>
    by_cases hk : k < l.length
    · rw [want_snoc l k hk]
      have := l[k].toNat_lt
      rw [Nat.pow_succ]
      omega
    · rw [List.take_of_length_le (by omega)]
      rw [List.take_of_length_le (by omega)] at ih
      exact Nat.lt_of_lt_of_le ih (Nat.pow_le_pow_right (by decide) (by omega))
def unwrapV (A : Option Addr) (c : Nat) (l : List UInt8) : Value := .slice (if c = 4 then A else A.map (·.add 4)) (l.length - 4) (c - 4)
theorem byt_drop {w : World} {B : Nat} {A : Option Addr} {c : Nat} {l : List UInt8} (k : Nat) (h : Byt w B (.slice A l.length c) l) (hk : k ≤ l.length) :
    Byt w B (.slice (if c = k then A else A.map (·.add k)) (l.length - k) (c - k)) (l.drop k) := by
  obtain ⟨A', c', hv, hc, hm, hr⟩ := h
  simp only [Value.slice.injEq, true_and] at hv
  obtain ⟨rfl, rfl⟩ := hv
  refine ⟨_, c - k, by rw [List.length_drop], by rw [List.length_drop]; omega, by omega, fun h0 => ?_⟩
  rw [List.length_drop] at h0
  obtain ⟨ad, rfl, hb, hx⟩ := hr (by omega)
  rw [if_neg (by omega)]
  refine ⟨ad.add k, rfl, by rw [addr_add_block]; exact hb, fun j x hj => ?_⟩
  rw [addr_add_add]
  exact hx _ x (by rw [← hj, List.getElem?_drop])
theorem byt_take {w : World} {B : Nat} {A : Option Addr} {c : Nat} {l : List UInt8} (k : Nat) (h : Byt w B (.slice A l.length c) l) (hk : k ≤ l.length) :
    Byt w B (.slice A k c) (l.take k) := by
  obtain ⟨A', c', hv, hc, hm, hr⟩ := h
  simp only [Value.slice.injEq, true_and] at hv
  obtain ⟨rfl, rfl⟩ := hv
  refine ⟨A, c, by rw [List.length_take, Nat.min_eq_left hk], by rw [List.length_take]; omega, hm, fun h0 => ?_⟩
  rw [List.length_take] at h0
  obtain ⟨ad, rfl, hb, hx⟩ := hr (by omega)
  refine ⟨ad, rfl, hb, fun j x hj => hx j x ?_⟩
  rw [List.getElem?_take] at hj
  split at hj
  · exact hj
  · cases hj
/-- s[k:], as the walk spells it, at k below the capacity -/
theorem byt_from {w : World} {B : Nat} {ad : Addr} {c : Nat} {l : List UInt8} (k : Nat) (h : Byt w B (.slice (some ad) l.length c) l) (hk : k ≤ l.length) (h0 : 0 < k) (hc : c ≠ k) :
    Byt w B (.slice (some ⟨ad.block, ad.off + k, none⟩) (l.length - k) (c - k)) (l.drop k) := by
  have := byt_drop k h hk
  rw [if_neg hc] at this
  simp only [Option.map_some] at this
  have e : ad.add k = ⟨ad.block, ad.off + k, none⟩ := by unfold Addr.add; rw [if_neg (by omega)]
  rw [e] at this
  exact this
theorem byt_end {w : World} {B : Nat} {A : Option Addr} {c : Nat} {l : List UInt8} (k : Nat) (h : Byt w B (.slice A l.length c) l) (hk : k ≤ l.length) (hc : c = k) :
    Byt w B (.slice A (l.length - k) (c - k)) (l.drop k) := by
  have := byt_drop k h hk
  rw [if_pos hc] at this
  exact this
def UnwrapPost (w : World) (l : List UInt8) (e : Ending) (w' : World) : Prop :=
  (Crc.on 0 (nats (l.drop 4)) = wantL l → ∃ r, e = .returned (.tuple #[r, .int .i64 0]) ∧ Byt w' w.heap.size r (l.drop 4)) ∧
  (Crc.on 0 (nats (l.drop 4)) ≠ wantL l → e = .returned (.tuple #[.slice none 0 0, .int .i64 12])) ∧ Below w.heap.size w w'
set_option maxHeartbeats 1000000 in
theorem unwrap_long (v : Value) (l : List UInt8) (w : World) (B : Nat) (hv : Byt w B v l) (hl : 4 ≤ l.length) :
    Calls Try.prog 28 #[v] w (UnwrapPost w l) := by
  have hv1 := hv.heap
  clear hv
  obtain ⟨A, c, rfl, hc, hm, hr⟩ := id hv1
  obtain ⟨ad, rfl, hbl, hcell⟩ := hr (by omega)
  have hcl : ∀ k (hk : k < l.length), w.cell? (ad.add k) = some (.int .u8 (l[k].toNat : Int)) := fun k hk => hcell k _ (List.getElem?_eq_getElem hk)
  obtain ⟨d, D, hd, hwalk⟩ : ∃ d : Value, ∃ _ : Byt w w.heap.size d (l.drop 4), True ∧ ((c = 4 ∧ d = .slice (some ad) 0 0) ∨ (c ≠ 4 ∧ d = .slice (some ⟨ad.block, ad.off + 4, none⟩) (l.length - 4) (c - 4))) := by
    by_cases h4 : c = 4
    · exact ⟨_, byt_end 4 hv1 hl h4, trivial, .inl ⟨h4, by rw [h4, show l.length - 4 = 0 by omega]⟩⟩
    · exact ⟨_, byt_from 4 hv1 hl (by decide) h4, trivial, .inr ⟨h4, rfl⟩⟩
  clear hd
  have HS := on0_lt (l.drop 4)
  unfold maxLen at hm
  have HR := Lib.hid hcl
  clear hr hcell hcl
  rcases hwalk with ⟨h4, hd⟩ | ⟨h4, hd⟩
  all_goals
    subst hd
    try subst h4
    go_enter Try.func28, Try.ntmps28
    go_wp2
    go_loopg [4, 13] 4 (fun g x m wr => w = wr ∧ ∃ k : Nat, k ≤ 4 ∧ g = 4 - k ∧ x = .int .u32 (((l.take k).foldl (fun a b => a * 256 + b.toNat) 0 : Nat) : Int) ∧ m = .int .i64 (k : Int))
    case atStart => exact ⟨rfl, 0, by omega, rfl, rfl, rfl⟩
    case round =>
      obtain ⟨rfl, k, hk, hg, rfl, rfl⟩ := hrel
      have HG := Lib.hid hg
      clear hg
      by_cases h0 : k < 4
      · have hsn := want_snoc l k (by omega)
        have hlt := want_lt l k
        generalize (l.take k).foldl (fun a b => a * 256 + b.toNat) 0 = x at *
        have HSN := Lib.hid hsn
        clear hsn
        have hcx := HR.out k (by omega)
        have hb := l[k].toNat_lt
        generalize l[k].toNat = b at *
        have hx : x < 16777216 := Nat.lt_of_lt_of_le hlt (Nat.pow_le_pow_right (n := 256) (by decide) (show k ≤ 3 by omega))
        have e1 : bits .or .u32 ((x : Int) * 256) (b : Int) = ((x * 256 + b : Nat) : Int) := or_byte x b hx hb
        clear hlt
        go_wp2_with fail
        go_roundg (4 - (k + 1))
        case measure => have := HG.out; omega
        case rel => exact ⟨rfl, k + 1, by omega, rfl, by rw [HSN.out]; rfl, by go_num⟩
      · obtain rfl : k = 4 := by omega
        have hw0 : (l.take 4).foldl (fun a b => a * 256 + b.toNat) 0 = wantL l := rfl
        rw [hw0]
        clear hw0
        by_cases hs : Crc.on 0 (nats (l.drop 4)) = wantL l
        · have Hs := Lib.hid hs
          clear hs
          go_wp2_with (go_at_call 25; refine (sum_any _ _ _ _ D).mono ?_; rintro e w1 ⟨rfl, hb⟩; rw [Hs.out])
          go_ret2
          exact ⟨fun _ => ⟨_, rfl, D.below hb⟩, fun h => absurd Hs.out h, hb⟩
        · have Hs := Lib.hid hs
          clear hs
          go_wp2_with (go_at_call 25; refine (sum_any _ _ _ _ D).mono ?_; rintro e w1 ⟨rfl, hb⟩; have hne : ((Crc.on 0 (nats (l.drop 4)) : Int) != (wantL l : Int)) = true := (by rw [bne_iff_ne]; have := Hs.out; omega))
          go_ret2
          exact ⟨fun h => absurd h Hs.out, fun _ => rfl, hb⟩
set_option maxHeartbeats 1000000 in
theorem runwrap_short (v : Value) (l : List UInt8) (w : World) (B : Nat) (hv : Byt w B v l) (hl : l.length < 4) :
    Calls Try.prog 29 #[v] w fun e w' => e = .returned (.tuple #[.slice none 0 0, .int .i64 10]) ∧ w = w' := by
  obtain ⟨A, c, rfl, hc, hm, hr⟩ := hv
  unfold maxLen at hm
  clear hr
  go_enter Try.func29, Try.ntmps29
  go_wp2
  go_ret2
  exact ⟨rfl, rfl⟩
theorem be4_eq (s : Nat) (hs : s < 4294967296) (t : List UInt8) (ht : t.length = 4) : be4 s = t ↔ s = t.foldl (fun a b => a * 256 + b.toNat) 0 := by
  match t, ht with
  | [a, b, c, d], _ =>
    have h1 := a.toNat_lt
    have h2 := b.toNat_lt
    have h3 := c.toNat_lt
    have h4 := d.toNat_lt
    have key : ∀ (n : Nat) (x : UInt8), UInt8.ofNat n = x ↔ n % 256 = x.toNat := by
      intro n x
      rw [← UInt8.toNat_inj, UInt8.toNat_ofNat']
    simp only [be4, List.cons.injEq, and_true, key, List.foldl]
    omega
theorem wrap_eq (l : List UInt8) (hl : 4 ≤ l.length) : wrapL (l.drop 4) = l ↔ Crc.on 0 (nats (l.drop 4)) = wantL l := by
  have h := be4_eq _ (on0_lt (l.drop 4)) (l.take 4) (by rw [List.length_take]; omega)
  unfold wantL
  rw [← h]
  unfold wrapL
  constructor
  · intro e
    have := congrArg (List.take 4) e
    rwa [List.take_append_of_le_length (by simp [be4]), List.take_of_length_le (by simp [be4])] at this
  · intro e
    rw [e, List.take_append_drop]
set_option maxRecDepth 100000 in
set_option maxHeartbeats 1000000 in
theorem runwrap_long (v : Value) (l : List UInt8) (w : World) (B : Nat) (hv : Byt w B v l) (hl : 4 ≤ l.length) (hl2 : l.length ≤ 1000000) :
    Calls Try.prog 29 #[v] w (UnwrapPost w l) := by
  have hv1 := hv.heap
  clear hv
  obtain ⟨A, c, rfl, hc, hm, hr⟩ := id hv1
  obtain ⟨ad, rfl, hbl, hcell⟩ := hr (by omega)
  obtain ⟨d, D, hd, hwalk⟩ : ∃ d : Value, ∃ _ : Byt w w.heap.size d (l.drop 4), True ∧ ((c = 4 ∧ d = .slice (some ad) 0 0) ∨ (c ≠ 4 ∧ d = .slice (some ⟨ad.block, ad.off + 4, none⟩) (l.length - 4) (c - 4))) := by
    by_cases h4 : c = 4
    · exact ⟨_, byt_end 4 hv1 hl h4, trivial, .inl ⟨h4, by rw [h4, show l.length - 4 = 0 by omega]⟩⟩
    · exact ⟨_, byt_from 4 hv1 hl (by decide) h4, trivial, .inr ⟨h4, rfl⟩⟩
  clear hd
  have hs0 : (convert 23 9 (.slice (some ad) l.length c)).run Try.prog w.drew = .ok (.string ⟨l.toArray⟩) w.drew := (hv1.drew).str
  unfold maxLen at hm
  clear hr hcell
  rcases hwalk with ⟨h4, hd⟩ | ⟨h4, hd⟩
  all_goals
    subst hd
    try subst h4
    go_enter Try.func29, Try.ntmps29
    go_wp2_with fail
    go_region_with ((go_at_call 30; refine (rwrap_any _ (l.drop 4) _ _ D.drew (by rw [List.length_drop]; omega)).mono ?_; rintro e w1 ⟨r, rfl, hown, hb⟩; have hs1 := hown.byt.str; have hs2 := (hv1.drew.below hb).str))
    all_goals clear hs0 hs1 hs2
    all_goals go_wp2_with fail
    all_goals go_ret2
    all_goals first
      | (have ht : (!wrapL (List.drop 4 l) == l) = true := by assumption
         exact ⟨fun h => absurd ((wrap_eq l hl).2 h) (by simpa using ht), fun _ => rfl, ((Below.refl _ _).drew).trans hb⟩)
      | (have ht : (!wrapL (List.drop 4 l) == l) = false := by assumption
         exact ⟨fun _ => ⟨_, rfl, D.below (((Below.refl _ _).drew).trans hb)⟩, fun h => absurd ((wrap_eq l hl).1 (by simpa using ht)) h, ((Below.refl _ _).drew).trans hb⟩)
end Go.Proofs.Ytmcjefdnkcpghaa
