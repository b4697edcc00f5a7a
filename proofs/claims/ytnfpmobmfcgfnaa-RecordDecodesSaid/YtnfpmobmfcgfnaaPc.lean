/- THE WALKS OF blob.Reader: none, must, ends, take. -/
import Derived.Test.YtnfpmobmfcgfnaaPb
import Derived.Test.YtnfpmobmfcgfnaaPa
import Derived.Defers
import Derived.Recover
import Derived.Deep.LoopGhost
namespace Go.Proofs.Ytnfpmobmfcgfnaa
open Go.RowKit
/-- g is a reader that Open made; l is what is left of its bytes -/
structure Rd (w : World) (g : Nat) (B : Nat) (l : List UInt8) (bad : Bool) (v : Value) : Prop where
 heap : w.heap[g]? = some (.cells #[v, .bool true, .bool bad] 119 (0, 0))
 byt : Byt w B v l
 le : B ≤ g
abbrev Only (g : Nat) (w w' : World) : Prop := Kept (fun k => k ≠ g) w w'
section
variable {w w' : World} {g B : Nat} {l : List UInt8} {bad : Bool} {v : Value}
theorem Rd.c0 (h : Rd w g B l bad v) : w.cell? ⟨g, 0, none⟩ = some v := by simp [World.cell?, h.heap]
theorem Rd.c1 (h : Rd w g B l bad v) : w.cell? ⟨g, 1, none⟩ = some (.bool true) := by simp [World.cell?, h.heap]
theorem Rd.c2 (h : Rd w g B l bad v) : w.cell? ⟨g, 2, none⟩ = some (.bool bad) := by simp [World.cell?, h.heap]
theorem Rd.f0 (h : Rd w g B l bad v) : w.frozen? ⟨g, 0, none⟩ = false := by simp [World.frozen?, h.heap]
theorem Rd.f2 (h : Rd w g B l bad v) : w.frozen? ⟨g, 2, none⟩ = false := by simp [World.frozen?, h.heap]
theorem Rd.lt (h : Rd w g B l bad v) : g < w.heap.size := lt_of_block h.heap
theorem Only.byt {B : Nat} {u : Value} {m : List UInt8} (k : Only g w w') (h : Byt w B u m) (hB : B ≤ g) (hg : g < w.heap.size) : Byt w' B u m := h.kept k (by omega) fun b hb => by omega
theorem Only.below (k : Only g w w') (hg : g < w.heap.size) : Below g w w' := k.toBelow (by omega) fun b hb => by omega
theorem Only.trans {w'' : World} (h : Only g w w') (k : Only g w' w'') : Only g w w'' := Kept.trans h k fun _ _ h => h
theorem Rd.below (h : Rd w g B l bad v) (k : Below w.heap.size w w') : Rd w' g B l bad v :=
 ⟨(k.block g h.lt).trans h.heap, h.byt.below (k.mono (by have := h.lt; have := h.le; omega)), h.le⟩
theorem Rd.kept {S : Nat → Prop} (h : Rd w g B l bad v) (k : Kept S w w') (hg : S g) (hs : ∀ b, b < B → S b) : Rd w' g B l bad v :=
 ⟨k.heap h.heap hg, h.byt.kept k (by have := h.lt; have := h.le; omega) hs, h.le⟩
theorem Rd.store0 (h : Rd w g B l bad v) {v' : Value} {l' : List UInt8} (hb : Byt w B v' l') : Rd (w.setCell ⟨g, 0, none⟩ v') g B l' bad v' ∧ Only g w (w.setCell ⟨g, 0, none⟩ v') :=
 ⟨⟨Lib.heap_setCell_same (i := 0) h.heap v', hb.setCell h.le v', h.le⟩, (Kept.refl _ _).setCell _ _ (fun _ hS => hS rfl)⟩
theorem Rd.store2 (h : Rd w g B l bad v) (b : Bool) : Rd (w.setCell ⟨g, 2, none⟩ (.bool b)) g B l b v ∧ Only g w (w.setCell ⟨g, 2, none⟩ (.bool b)) :=
 ⟨⟨Lib.heap_setCell_same (i := 2) h.heap (.bool b), h.byt.setCell h.le _, h.le⟩, (Kept.refl _ _).setCell _ _ (fun _ hS => hS rfl)⟩
end
theorem open_any (w : World) (v : Value) (B : Nat) (l : List UInt8) (h : Byt w B v l) (hB : B ≤ w.heap.size) :
  Calls Try.prog 71 #[v] w fun e w' => e = .returned (.pointer (some ⟨w.heap.size, 0, none⟩)) ∧ Rd w' w.heap.size B l false v ∧ Below w.heap.size w w' := by
 obtain ⟨A, c, rfl, _⟩ := id h
 go_enter Try.func71, Try.ntmps71
 go_wp2
 go_ret
 exact ⟨rfl, ⟨heap_alloc_new _ _, h.alloc hB _, hB⟩, (Below.refl _ _).alloc (Nat.le_refl _) _⟩
theorem rdnone_any {w : World} {g B : Nat} {l : List UInt8} {bad : Bool} {v : Value} (h : Rd w g B l bad v) : Calls Try.prog 104 #[.pointer (some ⟨g, 0, none⟩)] w fun e w' => e = .returned (.bool false) ∧ w = w' := by
 have h1 := h.c1
 clear h
 go_enter Try.func104, Try.ntmps104
 go_wp2
 go_ret
 exact ⟨rfl, rfl⟩
/-- the panic that 'must' raises -/
def shortP : List PanicEntry := [{ v := .iface 138 (.agg #[]), recovered := false }]
theorem must_true (w : World) : Calls Try.prog 120 #[.bool true] w fun e w' => e = .returned (.tuple #[]) ∧ w = w' := by
 go_enter Try.func120, Try.ntmps120
 go_wp2
 go_end0
 exact ⟨rfl, rfl⟩
theorem must_false (w : World) : Calls Try.prog 120 #[.bool false] w fun e w' => e = .panicked shortP ∧ w = w' := by
 go_enter Try.func120, Try.ntmps120
 go_wp2
 exact ⟨rfl, rfl, rfl⟩
def QE (R : World → Prop) (e : Exit) (a : Act) (w' : World) : Prop := (e = .ret ∨ e = .normal) ∧ a.defers = [] ∧ R w'
set_option maxHeartbeats 1000000 in
theorem ends_idle (g : Nat) (w : World) : CallsD Try.prog 118 #[.pointer (some ⟨g, 0, none⟩)] .returning w fun e u' w' => e = .returned (.tuple #[]) ∧ u' = .returning ∧ w = w' := by
 refine callsD_of_wpS Try.func118 rfl fun c₀ cs hu => ?_
 apply wpS_seq
 apply wpS_region
 simp [wpOpsS, go_sem, recoverD, hu, Try.ntmps118, Exit.thenS]
 refine wpS_of_wp (Code.wp_mono (Q := QE fun w' => w = w') ?_ ?_)
 ·rintro e a w' ⟨he, hd, hw⟩
  cases c₀
  rcases he with rfl | rfl
  all_goals simp_all [bodyPostS, results, Try.results118]
 ·generalize hQ : QE (fun w' => w = w') = Q
  change Code.wp _ _ _ { tmps := #[.pointer (some ⟨g, 0, none⟩), undef, .nilIface, undef, undef, .nilIface, undef, undef, undef, undef, undef, undef, undef, undef, undef, undef, undef, undef, undef], defers := [] } w
  go_wp2
  subst hQ
  exact ⟨.inr rfl, rfl, rfl⟩
set_option maxHeartbeats 1000000 in
theorem ends_short (g : Nat) (w : World) (B : Nat) (l : List UInt8) (bad : Bool) (v : Value) (h : Rd w g B l bad v) :
  CallsD Try.prog 118 #[.pointer (some ⟨g, 0, none⟩)] (.panicking shortP) w fun e u' w' =>
   e = .returned (.tuple #[]) ∧ u' = .panicking [{ v := .iface 138 (.agg #[]), recovered := true }] ∧ Rd w' g B l true v ∧ Only g w w' := by
 have h2 := h.c2
 have hf := h.f2
 have hlt := h.lt
 have hne := Nat.ne_of_lt hlt
 have hta : ∀ w, (Instr.typeAssert (.iface 138 (.agg #[])) 20 138 true).run Try.prog w = .ok (.tuple #[.agg #[], .bool true]) w := fun _ => by kernel_rfl
 unfold shortP
 refine callsD_of_wpS Try.func118 rfl fun c₀ cs hu => ?_
 apply wpS_seq
 apply wpS_region
 simp [wpOpsS, go_sem, recoverD, hu, Try.ntmps118, Exit.thenS]
 refine wpS_of_wp (Code.wp_mono (Q := QE fun w' => Rd w' g B l true v ∧ Only g w w') ?_ ?_)
 ·rintro e a w' ⟨he, hd, hw⟩
  cases c₀
  rcases he with rfl | rfl
  all_goals simp_all [bodyPostS, results, Try.results118]
 ·generalize hQ : QE (fun w' => Rd w' g B l true v ∧ Only g w w') = Q
  change Code.wp _ _ _ { tmps := #[.pointer (some ⟨g, 0, none⟩), undef, .iface 138 (.agg #[]), undef, undef, .iface 138 (.agg #[]), undef, undef, undef, undef, undef, undef, undef, undef, undef, undef, undef, undef, undef], defers := [] } w
  go_wp2
  subst hQ
  have h3 := h.store2 true
  exact ⟨.inr rfl, rfl, h3.1.below ((Below.refl _ _).alloc (Nat.le_refl _) _), Kept.alloc h3.2 _⟩
end Go.Proofs.Ytnfpmobmfcgfnaa

/- THE WALK OF blob.Reader.take. -/
namespace Go.Proofs.Ytnfpmobmfcgfnaa
open Go.RowKit
/-- s[:k] and s[k:] of bytes -/
theorem byt_cut {w : World} {B : Nat} {A : Option Addr} {c : Nat} {l : List UInt8} (k : Nat) (h : Byt w B (.slice A l.length c) l) (hk : k ≤ l.length) :
  Byt w B (.slice A k c) (l.take k) ∧ Byt w B (.slice (if c = k then A else A.map (·.add k)) (l.length - k) (c - k)) (l.drop k) := by
 obtain ⟨A', c', hv, hc, hm, hr⟩ := h
 simp only [Value.slice.injEq, true_and] at hv
 obtain ⟨rfl, rfl⟩ := hv
 refine ⟨⟨A, c, by rw [List.length_take, Nat.min_eq_left hk], by rw [List.length_take]; omega, hm, fun h0 => ?_⟩, ⟨_, c - k, by rw [List.length_drop], by rw [List.length_drop]; omega, by omega, fun h0 => ?_⟩⟩
 ·rw [List.length_take] at h0
  obtain ⟨ad, rfl, hb, hx⟩ := hr (by omega)
  refine ⟨ad, rfl, hb, fun j x hj => hx j x ?_⟩
  rw [List.getElem?_take] at hj
  split at hj
  ·exact hj
  ·cases hj
 ·rw [List.length_drop] at h0
  obtain ⟨ad, rfl, hb, hx⟩ := hr (by omega)
  rw [if_neg (by omega)]
  refine ⟨ad.add k, rfl, by rw [addr_add_block]; exact hb, fun j x hj => ?_⟩
  rw [addr_add_add]
  exact hx _ x (by rw [← hj, List.getElem?_drop])
def TakePost (w : World) (g B : Nat) (l : List UInt8) (k : Nat) (e : Ending) (w' : World) : Prop :=
 ∃ r v', e = .returned r ∧ Byt w' B r (l.take k) ∧ Rd w' g B (l.drop k) false v' ∧ Only g w w'
set_option maxHeartbeats 2000000 in
theorem take_short {w : World} {g B : Nat} {l : List UInt8} {bad : Bool} {v : Value} (n : Int) (h : Rd w g B l bad v) (hno : ¬ (bad = false ∧ 0 ≤ n ∧ n ≤ l.length)) :
  Calls Try.prog 119 #[.pointer (some ⟨g, 0, none⟩), .int .i64 n] w fun e w' => e = .panicked shortP ∧ w = w' := by
 have c0 := h.c0
 have c2 := h.c2
 obtain ⟨A, c, rfl, hc, hm, _⟩ := h.byt
 unfold maxLen at hm
 by_cases hb : bad = false
 ·subst hb
  by_cases hn : 0 ≤ n
  ·have hn2 : ¬ n ≤ (l.length : Int) := fun e => hno ⟨rfl, hn, e⟩
   go_enter Try.func119, Try.ntmps119
   go_wp2_with (go_at_call 120; refine (must_false _).mono ?_; rintro e w' ⟨rfl, rfl⟩)
   exact ⟨rfl, rfl, rfl⟩
  ·go_enter Try.func119, Try.ntmps119
   go_wp2_with (go_at_call 120; refine (must_false _).mono ?_; rintro e w' ⟨rfl, rfl⟩)
   exact ⟨rfl, rfl, rfl⟩
 ·obtain rfl : bad = true := by simpa using hb
  go_enter Try.func119, Try.ntmps119
  go_wp2_with (go_at_call 120; refine (must_false _).mono ?_; rintro e w' ⟨rfl, rfl⟩)
  exact ⟨rfl, rfl, rfl⟩
set_option maxHeartbeats 2000000 in
theorem take_any {w : World} {g B : Nat} {l : List UInt8} {v : Value} (k : Nat) (hk : k ≤ l.length) (h : Rd w g B l false v) :
  Calls Try.prog 119 #[.pointer (some ⟨g, 0, none⟩), .int .i64 (k : Int)] w (TakePost w g B l k) := by
 have c0 := h.c0
 have c2 := h.c2
 have f0 := h.f0
 obtain ⟨A, c, rfl, hc, hm, hr⟩ := id h.byt
 obtain ⟨hb1, hb2⟩ := byt_cut k h.byt hk
 unfold maxLen at hm
 clear hr
 by_cases hck : c = k
 ·subst hck
  rw [if_pos rfl, Nat.sub_self, show l.length - c = 0 by omega] at hb2
  have hs := h.store0 hb2
  have HB := hb1.setCell h.le (.slice A 0 0) (p := ⟨g, 0, none⟩)
  go_enter Try.func119, Try.ntmps119
  go_wp2_with (go_at_call 120; refine (must_true _).mono ?_; rintro e w' ⟨rfl, rfl⟩)
  go_ret
  exact ⟨_, _, rfl, HB, hs.1, hs.2⟩
 ·rw [if_neg hck] at hb2
  have hs := h.store0 hb2
  have HB := hb1.setCell h.le (.slice (A.map (·.add k)) (l.length - k) (c - k)) (p := ⟨g, 0, none⟩)
  go_enter Try.func119, Try.ntmps119
  go_wp2_with (go_at_call 120; refine (must_true _).mono ?_; rintro e w' ⟨rfl, rfl⟩)
  go_ret
  exact ⟨_, _, rfl, HB, hs.1, hs.2⟩
end Go.Proofs.Ytnfpmobmfcgfnaa

/- WHAT A READER READS: plain functions on bytes. -/
namespace Go.Proofs.Ytnfpmobmfcgfnaa
def valL (l : List UInt8) : Nat := l.foldl (fun a b => a * 256 + b.toNat) 0
theorem valL_snoc (l : List UInt8) (k : Nat) (hk : k < l.length) : valL (l.take (k + 1)) = valL (l.take k) * 256 + l[k].toNat := by
 unfold valL
 rw [List.take_succ_eq_append_getElem hk, List.foldl_append]
 rfl
theorem valL_lt (l : List UInt8) (k : Nat) : valL (l.take k) < 256 ^ k := by
 induction k with
 | zero => simp [valL]
 | succ k ih =>
  by_cases hk : k < l.length
  ·rw [valL_snoc l k hk, Nat.pow_succ]
   have := l[k].toNat_lt
   omega
  ·rw [List.take_of_length_le (by omega)]
   rw [List.take_of_length_le (by omega)] at ih
   exact Nat.lt_of_lt_of_le ih (Nat.pow_le_pow_right (by decide) (by omega))
theorem valL_lt128 (l : List UInt8) (h0 : 0 < l.length) (h : l[0].toNat < 128) (k : Nat) : valL (l.take (k + 1)) < 128 * 256 ^ k := by
 induction k with
 | zero => rw [valL_snoc l 0 h0]; simpa [valL] using h
 | succ k ih =>
  by_cases hk : k + 1 < l.length
  ·rw [valL_snoc l (k + 1) hk, Nat.pow_succ]
   have := l[k + 1].toNat_lt
   omega
  ·rw [List.take_of_length_le (by omega)]
   rw [List.take_of_length_le (by omega)] at ih
   exact Nat.lt_of_lt_of_le ih (Nat.mul_le_mul_left _ (Nat.pow_le_pow_right (by decide) (by omega)))
theorem valL_bound (l : List UInt8) (many k : Nat) (hm : many ≤ 8) (hl : many ≤ l.length) (h8 : many = 8 → ∀ h : 0 < l.length, l[0].toNat < 128) (hk : k < many) : valL (l.take (k + 1)) < 9223372036854775808 := by
 by_cases h : k = 7
 ·subst h
  have := valL_lt128 l (by omega) (h8 (by omega) (by omega)) 7
  exact Nat.lt_of_lt_of_le this (by decide)
 ·exact Nat.lt_of_lt_of_le (valL_lt l (k + 1)) (Nat.le_trans (Nat.pow_le_pow_right (by decide) (show k + 1 ≤ 7 by omega)) (by decide))
/-- may a number stand here, whose head is h, with t behind it? -/
def numOk (h : UInt8) (t : List UInt8) : Bool :=
 decide (h.toNat % 128 ≤ 8) && (decide (h.toNat < 128) || decide (0 < h.toNat % 128)) && decide (h.toNat % 128 ≤ t.length) &&
  (decide (h.toNat % 128 = 0) || (decide (0 < (t.headD 0).toNat) && (decide (h.toNat % 128 < 8) || decide ((t.headD 0).toNat < 128))))
def rdNum : List UInt8 → Option (Int × List UInt8)
 | [] => none
 | h :: t => if numOk h t then some ((if h.toNat < 128 then (valL (t.take (h.toNat % 128)) : Int) else -(valL (t.take (h.toNat % 128)) : Int)), t.drop (h.toNat % 128)) else none
def rdText (l : List UInt8) : Option (ByteArray × List UInt8) :=
 match rdNum l with
 | some (n, t) => if 0 ≤ n ∧ n ≤ 65536 ∧ n ≤ t.length then some (⟨(t.take n.toNat).toArray⟩, t.drop n.toNat) else none
 | none => none
def rdFlag : List UInt8 → Option (Bool × List UInt8)
 | [] => none
 | h :: t => if h.toNat ≤ 1 then some (h.toNat == 1, t) else none
theorem rdNum_yes {h : UInt8} {t : List UInt8} (ho : numOk h t = true) : rdNum (h :: t) = some ((if h.toNat < 128 then (valL (t.take (h.toNat % 128)) : Int) else -(valL (t.take (h.toNat % 128)) : Int)), t.drop (h.toNat % 128)) := if_pos ho
theorem rdNum_no {h : UInt8} {t : List UInt8} (ho : ¬ numOk h t = true) : rdNum (h :: t) = none := if_neg ho
theorem rdNum_range {l : List UInt8} {n : Int} {t : List UInt8} (h : rdNum l = some (n, t)) : -9223372036854775808 < n ∧ n < 9223372036854775808 := by
 cases l with
 | nil => cases h
 | cons c t' =>
  by_cases ho : numOk c t' = true
  ·rw [rdNum_yes ho] at h
   simp only [numOk, Bool.and_eq_true, Bool.or_eq_true, decide_eq_true_eq] at ho
   obtain ⟨⟨⟨h1, _⟩, h3⟩, h4⟩ := ho
   simp only [Option.some.injEq, Prod.mk.injEq] at h
   obtain ⟨rfl, _⟩ := h
   have hv : valL (t'.take (c.toNat % 128)) < 9223372036854775808 := by
    rcases Nat.eq_zero_or_pos (c.toNat % 128) with h0 | hp
    ·rw [h0]; simp [valL]
    ·have := valL_bound t' (c.toNat % 128) (c.toNat % 128 - 1) h1 h3 (fun e hl => by
      rcases h4 with h4 | ⟨_, h4⟩
      ·omega
      ·rcases h4 with h4 | h4
       ·omega
       ·cases t' with
        | nil => simp at hl
        | cons a b => simpa using h4) (by omega)
     rwa [show c.toNat % 128 - 1 + 1 = c.toNat % 128 by omega] at this
   split <;> omega
  ·rw [rdNum_no ho] at h; cases h
end Go.Proofs.Ytnfpmobmfcgfnaa

/- THE WALKS OF blob.Reader's num, text, flag. -/
namespace Go.Proofs.Ytnfpmobmfcgfnaa
open Go.RowKit
def RdPost {α : Type} (val : α → Value) (w : World) (g B : Nat) (r : Option (α × List UInt8)) (e : Ending) (w' : World) : Prop :=
 match r with
 | some (x, l') => ∃ v', e = .returned (val x) ∧ Rd w' g B l' false v' ∧ Only g w w'
 | none => ∃ l' v', e = .panicked shortP ∧ Rd w' g B l' false v' ∧ Only g w w'
section
variable {w : World} {g B : Nat} {l : List UInt8} {v : Value}
theorem rdn_bad (h : Rd w g B l true v) : Calls Try.prog 103 #[.pointer (some ⟨g, 0, none⟩)] w fun e w' => e = .panicked shortP ∧ w = w' := by
 go_enter Try.func103, Try.ntmps103
 go_wp2_with (go_at_call 119; refine (take_short 1 h (by simp)).mono ?_; rintro e w' ⟨rfl, rfl⟩)
 exact ⟨rfl, rfl, rfl⟩
theorem rdt_bad (h : Rd w g B l true v) : Calls Try.prog 115 #[.pointer (some ⟨g, 0, none⟩)] w fun e w' => e = .panicked shortP ∧ w = w' := by
 go_enter Try.func115, Try.ntmps115
 go_wp2_with (go_at_call 103; refine (rdn_bad h).mono ?_; rintro e w' ⟨rfl, rfl⟩)
 exact ⟨rfl, rfl, rfl⟩
theorem rdf_bad (h : Rd w g B l true v) : Calls Try.prog 124 #[.pointer (some ⟨g, 0, none⟩)] w fun e w' => e = .panicked shortP ∧ w = w' := by
 go_enter Try.func124, Try.ntmps124
 go_wp2_with (go_at_call 119; refine (take_short 1 h (by simp)).mono ?_; rintro e w' ⟨rfl, rfl⟩)
 exact ⟨rfl, rfl, rfl⟩
/-- the first byte of a slice of one -/
theorem byt_first {B : Nat} {r : Value} {h : UInt8} {t : List UInt8} (hb : Byt w B r (h :: t)) : ∃ ad c, r = .slice (some ad) (t.length + 1) c ∧ t.length + 1 ≤ c ∧ c ≤ maxLen ∧ ad.block < B ∧ w.cell? ad = some (.int .u8 (h.toNat : Int)) := by
 obtain ⟨A, c, rfl, hc, hm, hr⟩ := hb
 obtain ⟨ad, rfl, hadb, hx⟩ := hr (by simp)
 refine ⟨ad, c, rfl, by simpa using hc, hm, hadb, ?_⟩
 have := hx 0 h rfl
 simpa [Addr.add, bV] using this
set_option maxHeartbeats 2000000 in
theorem rdf_any (h : Rd w g B l false v) : Calls Try.prog 124 #[.pointer (some ⟨g, 0, none⟩)] w (RdPost (fun b : Bool => .bool b) w g B (rdFlag l)) := by
 cases l with
 | nil =>
  go_enter Try.func124, Try.ntmps124
  go_wp2_with (go_at_call 119; refine (take_short 1 h (by simp)).mono ?_; rintro e w' ⟨rfl, rfl⟩)
  exact ⟨rfl, _, _, rfl, h, Kept.refl _ _⟩
 | cons c t =>
  have htk := take_any 1 (by simp) h
  have hc := c.toNat_lt
  by_cases h1 : c.toNat ≤ 1
  ·have e1 : rdFlag (c :: t) = some (c.toNat == 1, t) := if_pos h1
   rw [e1]
   clear e1
   have hi1 : (c.toNat : Int) ≤ 1 := by omega
   go_enter Try.func124, Try.ntmps124
   go_wp2_with (first
    | (go_at_call 119; refine htk.mono ?_; rintro e w1 ⟨r, v1, rfl, hb1, hr1, ho1⟩; obtain ⟨ad, cc, rfl, _, _, _, hcell⟩ := byt_first hb1)
    | (go_at_call 120; refine (must_true _).mono ?_; rintro e w' ⟨rfl, rfl⟩))
   go_ret
   exact ⟨v1, congrArg (fun b => Ending.returned (.bool b)) (show ((c.toNat : Int) == 1) = (c.toNat == 1) by rw [Bool.eq_iff_iff, beq_iff_eq, beq_iff_eq]; omega), by simpa using hr1, ho1⟩
  ·have e1 : rdFlag (c :: t) = none := if_neg h1
   rw [e1]
   clear e1
   have hi1 : decide ((c.toNat : Int) ≤ 1) = false := decide_eq_false (by omega)
   go_enter Try.func124, Try.ntmps124
   go_wp2_with (first
    | (go_at_call 119; refine htk.mono ?_; rintro e w1 ⟨r, v1, rfl, hb1, hr1, ho1⟩; obtain ⟨ad, cc, rfl, _, _, _, hcell⟩ := byt_first hb1)
    | (go_at_call 120; refine (must_false _).mono ?_; rintro e w' ⟨rfl, rfl⟩))
   exact ⟨rfl, _, _, rfl, by simpa using hr1, ho1⟩
end
end Go.Proofs.Ytnfpmobmfcgfnaa

