/- THE WALK OF BlobOne. -/
import Derived.Test.YtnmiodjkomgfcaaBWr
import Derived.Test.YtnmiodjkomgfcaaRdl
import Derived.Test.YtnmiodjkomgfcaaRdq
namespace Go.Proofs.Ytnmiodjkomgfcaa
open Go.RowKit
/-- a slice of ints as a list -/
def Ints (w : World) (B : Nat) (v : Value) (l : List Int) : Prop :=
  ∃ (A : Option Addr) (c : Nat), v = .slice A l.length c ∧ l.length ≤ c ∧ c ≤ maxLen ∧
    (0 < l.length → ∃ ad : Addr, A = some ad ∧ ad.block < B ∧ ∀ (j : Nat) (x : Int), l[j]? = some x → (-9223372036854775808 ≤ x ∧ x ≤ 9223372036854775807) ∧ w.cell? (ad.add j) = some (.int .i64 x))
theorem Ints.heap {w : World} {B : Nat} {v : Value} {l : List Int} (h : Ints w B v l) : Ints w w.heap.size v l := by
  obtain ⟨A, c, hv, hc, hm, hr⟩ := h
  refine ⟨A, c, hv, hc, hm, fun h0 => ?_⟩
  obtain ⟨ad, hA, hb, hx⟩ := hr h0
  refine ⟨ad, hA, ?_, hx⟩
  have := World.block_lt_of_cell? w _ (hx 0 _ (List.getElem?_eq_getElem h0)).2
  rwa [addr_add_block] at this
/-- one reading, whatever the state: the value is as it would be written, or the reader is bad -/
def OnePost {α : Type} (val : α → Value) (enc : α → List UInt8) (ok : α → Prop) (w : World) (g B : Nat) (l : List UInt8) (bad : Bool) (e : Ending) (w' : World) : Prop :=
  ∃ (x : α) (l' : List UInt8) (bad' : Bool) (v' : Value), e = .returned (val x) ∧ ok x ∧ Rd w' g B l' bad' v' ∧ Only g w w' ∧ (bad' = false → bad = false ∧ l = enc x ++ l')
theorem one_of {α : Type} {val : α → Value} {enc : α → List UInt8} {ok : α → Prop} {zero : α} {w : World} {g B : Nat} {l : List UInt8} {bad : Bool} {r : Option (α × List UInt8)} {e : Ending} {w' : World}
    (h0 : ok zero) (h1 : ∀ x t, r = some (x, t) → ok x ∧ l = enc x ++ t) (h : RPost val zero w g B bad r e w') : OnePost val enc ok w g B l bad e w' := by
  unfold RPost at h
  cases bad with
  | true =>
    obtain ⟨l', v', rfl, hd, ho⟩ := h
    exact ⟨zero, l', true, v', rfl, h0, hd, ho, fun e => by cases e⟩
  | false =>
    cases hr : r with
    | none =>
      rw [hr] at h
      obtain ⟨l', v', rfl, hd, ho⟩ := h
      exact ⟨zero, l', true, v', rfl, h0, hd, ho, fun e => by cases e⟩
    | some q =>
      obtain ⟨x, t⟩ := q
      rw [hr] at h
      obtain ⟨v', rfl, hd, ho⟩ := h
      exact ⟨x, t, false, v', rfl, (h1 x t hr).1, hd, ho, fun _ => ⟨rfl, (h1 x t hr).2⟩⟩
section
variable {w : World} {g B : Nat} {v : Value} {l : List UInt8} {bad : Bool}
def okN (n : Int) : Prop := -9223372036854775808 < n ∧ n ≤ 9223372036854775807
def okT (s : ByteArray) : Prop := s.size ≤ 65536
def okF (_ : Bool) : Prop := True
theorem one_num (h : Rd w g B l bad v) : Calls Try.prog 15 #[.pointer (some ⟨g, 0, none⟩)] w (OnePost (fun n : Int => .int .i64 n) numL okN w g B l bad) :=
  (mNum_any h).mono fun _ _ he => one_of (by unfold okN; omega) (fun _ _ hr => ⟨⟨(rdNum_range hr).1, by have := (rdNum_range hr).2; omega⟩, rd_num_back hr⟩) he
theorem one_text (h : Rd w g B l bad v) : Calls Try.prog 17 #[.pointer (some ⟨g, 0, none⟩)] w (OnePost (fun s : ByteArray => .string s) textL okT w g B l bad) :=
  (mText_any h).mono fun _ _ he => one_of (by unfold okT; decide) (fun _ _ hr => ⟨(rd_text_back hr).2, (rd_text_back hr).1⟩) he
theorem one_flag (h : Rd w g B l bad v) : Calls Try.prog 19 #[.pointer (some ⟨g, 0, none⟩)] w (OnePost (fun b : Bool => .bool b) flagL okF w g B l bad) :=
  (mFlag_any h).mono fun _ _ he => one_of trivial (fun _ _ hr => ⟨trivial, rd_flag_back hr⟩) he
end
/-- reader and writer, side by side; L: all bytes -/
structure RW (w : World) (gr gw B : Nat) (L out : List UInt8) (l : List UInt8) (bad : Bool) (v s : Value) : Prop where
  rd : Rd w gr B l bad v
  wr : Wr w gw out false s
  ne : gr ≠ gw
  le : B ≤ gw
  all : bad = false → L = out ++ l
section
variable {w w' : World} {gr gw B : Nat} {L out l : List UInt8} {bad : Bool} {v s : Value}
theorem RW.below (h : RW w gr gw B L out l bad v s) (k : Below w.heap.size w w') : RW w' gr gw B L out l bad v s := ⟨h.rd.below k, h.wr.below k, h.ne, h.le, h.all⟩
/-- behind a reading -/
theorem RW.read {l' : List UInt8} {bad' : Bool} {v' : Value} {x : List UInt8} (h : RW w gr gw B L out l bad v s) (_ : Rd w' gr B l' bad' v') (ho : Only gr w w') (ha : bad' = false → bad = false ∧ l = x ++ l') :
    Wr w' gw out false s ∧ (bad' = false → L = (out ++ x) ++ l') := by
  refine ⟨h.wr.kept ho h.ne.symm fun b hb e => ?_, fun e => ?_⟩
  · have := h.wr.own.apart h.rd.heap (by decide)
    exact this (e ▸ hb)
  · obtain ⟨e1, e2⟩ := ha e
    rw [h.all e1, e2, List.append_assoc]
/-- a store into another block -/
theorem Rd.setOther {p : Addr} (h : Rd w gr B l bad v) (hp : p.block ≠ gr) (hB : B ≤ p.block) (u : Value) : Rd (w.setCell p u) gr B l bad v :=
  h.kept (S := fun b => b ≠ p.block) ((Kept.refl _ _).setCell p u fun _ hS => hS rfl) hp.symm fun b hb => by omega
theorem Wr.setOther {p : Addr} {sp : Bool} (h : Wr w gw out sp s) (hp : p.block ≠ gw) (hs : s.ownBlock ≠ some p.block) (u : Value) : Wr (w.setCell p u) gw out sp s :=
  h.kept (S := fun b => b ≠ p.block) ((Kept.refl _ _).setCell p u fun _ hS => hS rfl) hp.symm fun b hb e => hs (by rw [hb, e])
end
/-- the round behind the reading: the store, and the writing -/
theorem one_put {w w1 w2 : World} {gr gw B : Nat} {L out l l' x : List UInt8} {bad bad' : Bool} {v v' s : Value} {u : Value} {cs : Array Value} {i : Nat} (o : Opv) (hok : o.ok) (hnb : o.bad = false) (hby : o.bytes = x)
    (h : RW w gr gw B L out l bad v s) (hd : Rd w1 gr B l' bad' v') (ho : Only gr (w.alloc (.cells cs 29)) w1) (ha : bad' = false → bad = false ∧ l = x ++ l')
    (hw2 : w2 = w1.setCell ⟨w.heap.size, i, none⟩ u) (hl : out.length ≤ 800000000) :
    Calls Try.prog 11 #[ptr gw, o.val] w2 fun e w' => ∃ s', e = .returned (.pointer (some ⟨gw, 0, none⟩)) ∧ RW w' gr gw B L (out ++ x) l' bad' v' s' ∧ Kept (fun k => k < w.heap.size ∧ k ≠ gr ∧ k ≠ gw ∧ s.ownBlock ≠ some k) w w' := by
  subst hw2
  have hA := h.below ((Below.refl _ _).alloc (Nat.le_refl _) (.cells cs 29))
  obtain ⟨hw1, hall⟩ := hA.read hd ho ha
  have lr := h.rd.lt
  have lw := h.wr.lt
  have ls : s.ownBlock ≠ some w.heap.size := fun e => by have := (h.wr.own.lt _ e).2; omega
  have hB := h.rd.le
  have hw2 := hw1.setOther (p := ⟨w.heap.size, i, none⟩) (by show w.heap.size ≠ gw; omega) ls u
  have hd2 := hd.setOther (p := ⟨w.heap.size, i, none⟩) (by show w.heap.size ≠ gr; omega) (by show B ≤ w.heap.size; omega) u
  refine (put_any o hok hw2 hl).mono fun e w' he => ?_
  obtain ⟨s', rfl, h3, h4⟩ := he
  rw [hnb, Bool.or_false, hby] at h3
  have hap := hw2.own.apart hd2.heap (by decide)
  refine ⟨s', rfl, ⟨hd2.kept h4.kept ⟨h.ne, hap⟩ fun b hb => ⟨by have := h.le; omega, fun e => by have := (hw2.own.lt b e).1; have := h.le; omega⟩, h3, h.ne, h.le, hall⟩, ?_⟩
  have k1 : Kept (fun k => k < w.heap.size ∧ k ≠ gr ∧ k ≠ gw ∧ s.ownBlock ≠ some k) w (w.alloc (.cells cs 29)) := (Kept.refl _ _).alloc _
  have k2 := k1.trans ho fun b _ hS => hS.2.1
  have k3 := k2.setCell ⟨w.heap.size, i, none⟩ u (fun hlt => by simp at hlt)
  exact k3.trans h4.kept fun b _ hS => ⟨hS.2.2.1, hS.2.2.2⟩
theorem opN {y : Int} (hy : okN y) : (⟨0, y, ⟨#[]⟩, false⟩ : Opv).ok ∧ (⟨0, y, ⟨#[]⟩, false⟩ : Opv).bad = false ∧ (⟨0, y, ⟨#[]⟩, false⟩ : Opv).bytes = numL y := by
  unfold okN at hy
  have h : (⟨0, y, ⟨#[]⟩, false⟩ : Opv).bad = false := by simp [Opv.bad]; omega
  exact ⟨⟨by simp, by simp, by simp; omega, by simp; omega, Nat.zero_le _⟩, h, by simp [Opv.bytes, h]⟩
theorem opT {y : ByteArray} (hy : okT y) : (⟨1, 0, y, false⟩ : Opv).ok ∧ (⟨1, 0, y, false⟩ : Opv).bad = false ∧ (⟨1, 0, y, false⟩ : Opv).bytes = textL y := by
  unfold okT at hy
  have h : (⟨1, 0, y, false⟩ : Opv).bad = false := by simp [Opv.bad]; omega
  exact ⟨⟨by simp, by simp, by simp, by simp, by unfold maxLen; simp; omega⟩, h, by simp [Opv.bytes, h]⟩
theorem opF {y : Bool} (_ : okF y) : (⟨2, 0, ⟨#[]⟩, y⟩ : Opv).ok ∧ (⟨2, 0, ⟨#[]⟩, y⟩ : Opv).bad = false ∧ (⟨2, 0, ⟨#[]⟩, y⟩ : Opv).bytes = flagL y :=
  ⟨⟨by simp, by simp, by simp, by simp, Nat.zero_le _⟩, rfl, rfl⟩
theorem free_of {w : World} {b : Nat} {cs : Array Value} {t : TypeId} (h : w.heap[b]? = some (.cells cs t (0, 0))) (i : Nat) : w.frozen? ⟨b, i, none⟩ = false := by
  simp [World.frozen?, h]
theorem rw_below {w w' : World} {gr gw B B0 : Nat} {L out l : List UInt8} {bad : Bool} {v s : Value} (h : RW w gr gw B L out l bad v s) (hk : Kept (fun k => k < w.heap.size ∧ k ≠ gr ∧ k ≠ gw ∧ s.ownBlock ≠ some k) w w') (hB0 : B0 ≤ w.heap.size) (hr : B0 ≤ gr) (hw : B0 ≤ gw) : Below B0 w w' :=
  hk.toBelow hB0 fun b hb => ⟨by omega, by omega, by omega, fun e => by have := (h.wr.own.lt b e).1; omega⟩
set_option maxRecDepth 100000 in
set_option maxHeartbeats 8000000 in
theorem blobOne_walk (v0 : Value) (L : List UInt8) {B0 : Nat} {w : World} (hL : Byt w B0 v0 L) (v1 : Value) (ks : List Int) {B1 : Nat} (hO : Ints w B1 v1 ks) :
    Calls Try.prog 5 #[v0, v1] w (LawPost w) := by
  have hLh := hL.heap
  obtain ⟨A, c, rfl, hcl, hm, _⟩ := id hLh
  obtain ⟨A1, c1, rfl, hc1, hm1, hr⟩ := hO.heap
  unfold maxLen at hm hm1
  have HR := Lib.hid hr
  clear hr hO hL
  by_cases hbig : L.length ≤ 5000 ∧ ks.length ≤ 200
  · obtain ⟨hb1, hb2⟩ := hbig
    have d1 : decide ((5000 : Int) < (L.length : Int)) = false := decide_eq_false (by omega)
    have d2 : decide ((200 : Int) < (ks.length : Int)) = false := decide_eq_false (by omega)
    go_enter Try.func5, Try.ntmps5
    go_wp2_with (first
      | (go_at_call 14; refine (open_any _ _ _ L hLh (Nat.le_refl _)).mono ?_; rintro e w1 ⟨rfl, hrd, hbl1⟩)
      | (go_at_call 10; refine (new_any _).mono ?_; rintro e w2 ⟨rfl, hw2, hbl2⟩))
    have hrw : RW w2 w.heap.size w1.heap.size w.heap.size L [] L false _ _ := ⟨hrd.below hbl2, hw2, by have := hrd.lt; omega, hbl1.size, fun _ => rfl⟩
    have hbw : Below w.heap.size w w2 := hbl1.trans (hbl2.mono hbl1.size)
    obtain ⟨gw, hgw⟩ : ∃ g, g = w1.heap.size := ⟨_, rfl⟩
    rw [← hgw] at hrw ⊢
    clear hrd hw2 hbl1 hbl2 hgw
    go_loopg [6, 28] ks.length (fun gk x6 x28 wr => ∃ (k : Nat) (l out : List UInt8) (bad : Bool) (v s : Value), k ≤ ks.length ∧ gk = ks.length - k ∧ x6 = .pointer (some ⟨gw, 0, none⟩) ∧ x28 = .int .i64 (k : Int) ∧
      RW wr w.heap.size gw w.heap.size L out l bad v s ∧ Below w.heap.size w wr ∧ out.length ≤ 65600 * k)
    case atStart => exact ⟨0, L, [], false, _, _, Nat.zero_le _, rfl, rfl, rfl, hrw, hbw, by simp⟩
    case round =>
      obtain ⟨k, l, out, bad, v, s, hk, hgk, rfl, rfl, hrs, hbel, hlen⟩ := hrel
      have HG := Lib.hid hgk
      clear hgk hrw
      by_cases h : k < ks.length
      · obtain ⟨ad, rfl, hadB, hrow⟩ := HR.out (by omega)
        obtain ⟨hok, hat⟩ := hrow k ks[k] (List.getElem?_eq_getElem h)
        have hat' := (hbel.cell (p := ad.add k) (by rw [addr_add_block]; exact hadB)).trans hat
        clear hrow hat
        generalize ks[k] = x at *
        obtain ⟨u, hu, hul⟩ : ∃ u : Nat, IntKind.u64.wrap x = (u : Int) ∧ u < 18446744073709551616 := ⟨(IntKind.u64.wrap x).toNat, by
          have : IntKind.u64.wrap x = x % 18446744073709551616 := rfl
          omega, by
          have : IntKind.u64.wrap x = x % 18446744073709551616 := rfl
          omega⟩
        rcases (show u % 3 = 0 ∨ u % 3 = 1 ∨ u % 3 = 2 by omega) with h3 | h3 | h3
        · have hra := hrs.below ((Below.refl wr.heap.size wr).alloc (Nat.le_refl _) (.cells #[.int .i64 0, .int .i64 0, .string ⟨#[]⟩, .bool false] 29))
          have hbx : (wr.alloc (.cells #[.int .i64 0, .int .i64 0, .string ⟨#[]⟩, .bool false] 29)).heap[wr.heap.size]? = some (.cells #[.int .i64 0, .int .i64 0, .string ⟨#[]⟩, .bool false] 29 (0, 0)) := heap_alloc_new wr _
          have hbg : wr.heap.size ≠ w.heap.size := by have := hrs.rd.lt; omega
          have hkd : (u : Int) % 3 = 0 := by omega
          go_wp2_with (first
            | (go_at_call 15; refine (one_num hra.rd).mono ?_; rintro e w8 ⟨y, l', bad', v', rfl, hy, hd8, ho8, ha8⟩
               have hx8 := (ho8.heap hbx hbg)
               have c0 := cells_of hx8 0 _ rfl
               have c1 := cells_of hx8 1 _ rfl
               have c2 := cells_of hx8 2 _ rfl
               have c3 := cells_of hx8 3 _ rfl
               have f1 := free_of hx8 1
               obtain ⟨ho1, ho2, ho3⟩ := opN hy
               have hol := Opv.bytes_len _ ho1
               rw [ho3] at hol
               have hput := one_put (i := 1) (u := .int .i64 y) ⟨0, y, ⟨#[]⟩, false⟩ ho1 ho2 ho3 hrs hd8 ho8 ha8 rfl (by omega)
               clear ho1 ho2 ho3
               unfold Opv.val ptr at hput
               clear hx8)
            | (go_at_call 11; refine hput.mono ?_; rintro e w9 ⟨s9, rfl, hr9, hk9⟩))
          go_roundg (ks.length - (k + 1))
          case measure => have := HG.out; omega
          case rel => exact ⟨k + 1, _, _, _, _, _, by omega, rfl, rfl, by go_num, hr9, hbel.trans (rw_below hrs hk9 hbel.size (Nat.le_refl _) hrs.le), by rw [List.length_append]; omega⟩
        · have hra := hrs.below ((Below.refl wr.heap.size wr).alloc (Nat.le_refl _) (.cells #[.int .i64 1, .int .i64 0, .string ⟨#[]⟩, .bool false] 29))
          have hbx : (wr.alloc (.cells #[.int .i64 1, .int .i64 0, .string ⟨#[]⟩, .bool false] 29)).heap[wr.heap.size]? = some (.cells #[.int .i64 1, .int .i64 0, .string ⟨#[]⟩, .bool false] 29 (0, 0)) := heap_alloc_new wr _
          have hbg : wr.heap.size ≠ w.heap.size := by have := hrs.rd.lt; omega
          have hkd : (u : Int) % 3 = 1 := by omega
          go_wp2_with (first
            | (go_at_call 17; refine (one_text hra.rd).mono ?_; rintro e w8 ⟨y, l', bad', v', rfl, hy, hd8, ho8, ha8⟩
               have hx8 := (ho8.heap hbx hbg)
               have c0 := cells_of hx8 0 _ rfl
               have c1 := cells_of hx8 1 _ rfl
               have c2 := cells_of hx8 2 _ rfl
               have c3 := cells_of hx8 3 _ rfl
               have f1 := free_of hx8 2
               obtain ⟨ho1, ho2, ho3⟩ := opT hy
               have hol := Opv.bytes_len _ ho1
               rw [ho3] at hol
               have hput := one_put (i := 2) (u := .string y) ⟨1, 0, y, false⟩ ho1 ho2 ho3 hrs hd8 ho8 ha8 rfl (by omega)
               clear ho1 ho2 ho3
               unfold Opv.val ptr at hput
               clear hx8)
            | (go_at_call 11; refine hput.mono ?_; rintro e w9 ⟨s9, rfl, hr9, hk9⟩))
          go_roundg (ks.length - (k + 1))
          case measure => have := HG.out; omega
          case rel => exact ⟨k + 1, _, _, _, _, _, by omega, rfl, rfl, by go_num, hr9, hbel.trans (rw_below hrs hk9 hbel.size (Nat.le_refl _) hrs.le), by rw [List.length_append]; omega⟩
        · have hra := hrs.below ((Below.refl wr.heap.size wr).alloc (Nat.le_refl _) (.cells #[.int .i64 2, .int .i64 0, .string ⟨#[]⟩, .bool false] 29))
          have hbx : (wr.alloc (.cells #[.int .i64 2, .int .i64 0, .string ⟨#[]⟩, .bool false] 29)).heap[wr.heap.size]? = some (.cells #[.int .i64 2, .int .i64 0, .string ⟨#[]⟩, .bool false] 29 (0, 0)) := heap_alloc_new wr _
          have hbg : wr.heap.size ≠ w.heap.size := by have := hrs.rd.lt; omega
          have hkd : (u : Int) % 3 = 2 := by omega
          go_wp2_with (first
            | (go_at_call 19; refine (one_flag hra.rd).mono ?_; rintro e w8 ⟨y, l', bad', v', rfl, hy, hd8, ho8, ha8⟩
               have hx8 := (ho8.heap hbx hbg)
               have c0 := cells_of hx8 0 _ rfl
               have c1 := cells_of hx8 1 _ rfl
               have c2 := cells_of hx8 2 _ rfl
               have c3 := cells_of hx8 3 _ rfl
               have f1 := free_of hx8 3
               obtain ⟨ho1, ho2, ho3⟩ := opF hy
               have hol := Opv.bytes_len _ ho1
               rw [ho3] at hol
               have hput := one_put (i := 3) (u := .bool y) ⟨2, 0, ⟨#[]⟩, y⟩ ho1 ho2 ho3 hrs hd8 ho8 ha8 rfl (by omega)
               clear ho1 ho2 ho3
               unfold Opv.val ptr at hput
               clear hx8)
            | (go_at_call 11; refine hput.mono ?_; rintro e w9 ⟨s9, rfl, hr9, hk9⟩))
          go_roundg (ks.length - (k + 1))
          case measure => have := HG.out; omega
          case rel => exact ⟨k + 1, _, _, _, _, _, by omega, rfl, rfl, by go_num, hr9, hbel.trans (rw_below hrs hk9 hbel.size (Nat.le_refl _) hrs.le), by rw [List.length_append]; omega⟩
      · obtain rfl : k = ks.length := by omega
        clear hlen HR
        have hdone := mdone_any hrs.rd
        by_cases hq : bad = false ∧ l = []
        · obtain ⟨rfl, rfl⟩ := hq
          have hall := hrs.all rfl
          rw [List.append_nil] at hall
          subst hall
          have hwr := hrs.wr
          have hst := (hLh.below hbel).str
          have hlo : L.length ≤ 2000000000 := by omega
          have hby := bytes_any hwr hlo
          unfold ptr at hby
          clear hrs hwr
          go_wp2_with (first
            | (go_at_call 23; refine hdone.mono ?_; rintro e w8 ⟨rfl, rfl⟩)
            | (go_at_call 9; refine (lives_any _).mono ?_; rintro e w9 ⟨rfl, hb9⟩)
            | (go_at_call 13; refine hby.mono ?_; rintro e w6 ⟨r6, rfl, hown6, hb6⟩; have hsa := hown6.byt.str; have hsb := ((hLh.below hbel).below (hb6.mono hbel.size)).str))
          go_ret
          exact ⟨rfl, (hbel.trans (hb6.mono hbel.size)).trans (hb9.mono (Nat.le_trans hbel.size hb6.size))⟩
        · have e10 : (if (bad || decide (0 < l.length)) = true then (10 : Int) else 0) = 10 := by
            rw [if_pos]
            cases bad with
            | true => rfl
            | false =>
              simp only [true_and] at hq
              rw [Bool.false_or, decide_eq_true_eq]
              exact List.length_pos_iff.2 hq
          rw [e10] at hdone
          clear hrs e10 hq
          go_wp2_with (first
            | (go_at_call 23; refine hdone.mono ?_; rintro e w8 ⟨rfl, rfl⟩)
            | (go_at_call 9; refine (lives_any _).mono ?_; rintro e w9 ⟨rfl, hb9⟩))
          go_ret
          exact ⟨rfl, hbel.trans (hb9.mono hbel.size)⟩
  · clear HR hLh
    by_cases h1 : L.length ≤ 5000
    · have d1 : decide ((5000 : Int) < (L.length : Int)) = false := decide_eq_false (by omega)
      have d2 : (200 : Int) < (ks.length : Int) := by omega
      go_enter Try.func5, Try.ntmps5
      go_wp2_with (go_at_call 9; refine (lives_any _).mono ?_; rintro e w9 ⟨rfl, hb9⟩)
      go_ret
      exact ⟨rfl, hb9⟩
    · have d1 : (5000 : Int) < (L.length : Int) := by omega
      go_enter Try.func5, Try.ntmps5
      go_wp2_with (go_at_call 9; refine (lives_any _).mono ?_; rintro e w9 ⟨rfl, hb9⟩)
      go_ret
      exact ⟨rfl, hb9⟩
end Go.Proofs.Ytnmiodjkomgfcaa
