/- THE WALK OF BlobReads. -/
import Derived.Test.YtnmiodjkomgfcaaBRs
import Derived.Test.YtnmiodjkomgfcaaOpv
namespace Go.Proofs.Ytnmiodjkomgfcaa
open Go.RowKit
def LawPostR (w : World) (e : Ending) (w' : World) : Prop := e = .returned (.bool true) ∧ Below w.heap.size w w'
set_option maxRecDepth 100000 in
set_option maxHeartbeats 8000000 in
theorem blobReads_walk (v0 : Value) (L : List UInt8) {B0 : Nat} {w : World} (hL : Byt w B0 v0 L) (v1 : Value) (ls : List Opv) {B1 : Nat} (hO : Ops w B1 v1 ls) :
    Calls Try.prog 4 #[v0, v1] w (LawPostR w) := by
  have hLh := hL.heap
  obtain ⟨A, c, rfl, hcl, hm, _⟩ := id hLh
  obtain ⟨A1, c1, rfl, hc1, hm1, hr⟩ := hO.heap
  unfold maxLen at hm hm1
  have HR := Lib.hid hr
  clear hr hO hL
  by_cases hbig : L.length ≤ 5000 ∧ ls.length ≤ 100
  · obtain ⟨hb1, hb2⟩ := hbig
    have d1 : decide ((5000 : Int) < (L.length : Int)) = false := decide_eq_false (by omega)
    have d2 : decide ((100 : Int) < (ls.length : Int)) = false := decide_eq_false (by omega)
    have hopen := open_any w _ _ L hLh (Nat.le_refl _)
    go_enter Try.func4, Try.ntmps4
    go_wp2_with (first
      | (go_at_call 14; refine hopen.mono ?_; rintro e w1 ⟨rfl, hrd, hbl1⟩))
    have hrs : RS (w1.alloc (.cells #[.slice A L.length c, .int .i64 0, .bool false] 40)) w.heap.size w1.heap.size w.heap.size A c L L false false :=
      ⟨⟨_, hrd.below ((Below.refl _ _).alloc (Nat.le_refl _) _)⟩, ⟨0, ⟨heap_alloc_new _ _, (hLh.below hbl1).alloc (by have := hbl1.size; omega) _, hbl1.size, Nat.zero_le _⟩, fun _ => rfl⟩, by have := hrd.lt; omega⟩
    have hbw : Below w.heap.size w (w1.alloc (.cells #[.slice A L.length c, .int .i64 0, .bool false] 40)) := hbl1.alloc hbl1.size _
    generalize w1.alloc (.cells #[.slice A L.length c, .int .i64 0, .bool false] 40) = w2 at *
    generalize w1.heap.size = gq at *
    clear hrd hopen
    go_loopg [29] ls.length (fun gk x wr => ∃ (k : Nat) (l : List UInt8) (bad : Bool), k ≤ ls.length ∧ gk = ls.length - k ∧ x = .int .i64 (k : Int) ∧ RS wr w.heap.size gq w.heap.size A c L l bad bad ∧ Below w.heap.size w wr)
    case atStart => exact ⟨0, L, false, Nat.zero_le _, rfl, rfl, hrs, hbw⟩
    case round =>
      obtain ⟨k, l, bad, hk, hgk, rfl, hrs', hbel⟩ := hrel
      have HG := Lib.hid hgk
      clear hgk
      by_cases h : k < ls.length
      · obtain ⟨ad, rfl, hadB, hrow⟩ := HR.out (by omega)
        obtain ⟨hok, hat⟩ := hrow k ls[k] (List.getElem?_eq_getElem h)
        have hat' := hat.keep fun q hq => hbel.cell (p := q) (by rw [hq, addr_add_block]; exact hadB)
        clear hrow hat
        generalize ls[k] = o at *
        obtain ⟨e0, e1, e2, e3⟩ := hat'
        obtain ⟨kind, n, t, b⟩ := o
        simp only at e0 e1 e2 e3
        have hra := hrs'.below (w' := wr.alloc (.cells #[.int .i64 kind, .int .i64 n, .string t, .bool b] 29)) ((Below.refl _ _).alloc (Nat.le_refl _) _)
        have hba : Below w.heap.size w (wr.alloc (.cells #[.int .i64 kind, .int .i64 n, .string t, .bool b] 29)) := hbel.alloc hbel.size _
        clear hok
        by_cases k0 : kind = 0
        · subst k0
          cases bad with
          | true =>
            have c1 := first_bad (fun h => mNum_any h) hra
            go_wp2_with (first
              | (go_at_call 15; refine c1.mono ?_; rintro e w3 ⟨rfl, ⟨l3, h3⟩, hbl3⟩)
              | (go_at_call 16; refine (second_bad (fun h => qnum_any h) h3).mono ?_; rintro e w4 ⟨rfl, ⟨l4, h4⟩, hbl4⟩)
              | (go_at_call 21; refine (left1 h4).mono ?_; rintro e w5 ⟨rfl, rfl⟩)
              | (go_at_call 22; refine (left2 h4).mono ?_; rintro e w6 ⟨rfl, h6, hbl6⟩))
            go_roundg (ls.length - (k + 1))
            case measure => have := HG.out; omega
            case rel => exact ⟨k + 1, l4, true, by omega, rfl, by go_num, h6, ((hba.trans hbl3).trans hbl4).trans hbl6⟩
          | false =>
            have c1 := first_good (rdf := rdNum) (fun h => mNum_any h) hra
            unfold P1 at c1
            cases hr : rdNum l with
            | none =>
              rw [hr] at c1
              have HH := Lib.hid hr
              clear hr
              go_wp2_with (first
                | (go_at_call 15; refine c1.mono ?_; rintro e w3 ⟨rfl, h3a, h3b, h3c, hbl3⟩)
                | (go_at_call 16; refine (second_none (rdf := rdNum) (fun h => qnum_any h) HH.out h3a h3b h3c).mono ?_; rintro e w4 ⟨rfl, ⟨l4, h4⟩, hbl4⟩)
                | (go_at_call 21; refine (left1 h4).mono ?_; rintro e w5 ⟨rfl, rfl⟩)
                | (go_at_call 22; refine (left2 h4).mono ?_; rintro e w6 ⟨rfl, h6, hbl6⟩))
              go_roundg (ls.length - (k + 1))
              case measure => have := HG.out; omega
              case rel => exact ⟨k + 1, l4, true, by omega, rfl, by go_num, h6, ((hba.trans hbl3).trans hbl4).trans hbl6⟩
            | some y =>
              obtain ⟨x, l'⟩ := y
              rw [hr] at c1
              have HH := Lib.hid hr
              clear hr
              go_wp2_with (first
                | (go_at_call 15; refine c1.mono ?_; rintro e w3 ⟨rfl, h3a, h3b, h3c, hbl3⟩)
                | (go_at_call 16; refine (second_some (rdf := rdNum) (fun h => qnum_any h) HH.out h3a h3b h3c).mono ?_; rintro e w4 ⟨rfl, h4, hbl4⟩)
                | (go_at_call 21; refine (left1 h4).mono ?_; rintro e w5 ⟨rfl, rfl⟩)
                | (go_at_call 22; refine (left2 h4).mono ?_; rintro e w6 ⟨rfl, h6, hbl6⟩))
              go_roundg (ls.length - (k + 1))
              case measure => have := HG.out; omega
              case rel => exact ⟨k + 1, l', false, by omega, rfl, by go_num, h6, ((hba.trans hbl3).trans hbl4).trans hbl6⟩
        have z0 : (kind == 0) = false := by rw [beq_eq_false_iff_ne]; exact k0
        by_cases k1 : kind = 1
        · subst k1
          cases bad with
          | true =>
            have c1 := first_bad (fun h => mText_any h) hra
            go_wp2_with (first
              | (go_at_call 17; refine c1.mono ?_; rintro e w3 ⟨rfl, ⟨l3, h3⟩, hbl3⟩)
              | (go_at_call 18; refine (second_bad (fun h => qtext_any h) h3).mono ?_; rintro e w4 ⟨rfl, ⟨l4, h4⟩, hbl4⟩)
              | (go_at_call 21; refine (left1 h4).mono ?_; rintro e w5 ⟨rfl, rfl⟩)
              | (go_at_call 22; refine (left2 h4).mono ?_; rintro e w6 ⟨rfl, h6, hbl6⟩))
            go_roundg (ls.length - (k + 1))
            case measure => have := HG.out; omega
            case rel => exact ⟨k + 1, l4, true, by omega, rfl, by go_num, h6, ((hba.trans hbl3).trans hbl4).trans hbl6⟩
          | false =>
            have c1 := first_good (rdf := rdText) (fun h => mText_any h) hra
            unfold P1 at c1
            cases hr : rdText l with
            | none =>
              rw [hr] at c1
              have HH := Lib.hid hr
              clear hr
              go_wp2_with (first
                | (go_at_call 17; refine c1.mono ?_; rintro e w3 ⟨rfl, h3a, h3b, h3c, hbl3⟩)
                | (go_at_call 18; refine (second_none (rdf := rdText) (fun h => qtext_any h) HH.out h3a h3b h3c).mono ?_; rintro e w4 ⟨rfl, ⟨l4, h4⟩, hbl4⟩)
                | (go_at_call 21; refine (left1 h4).mono ?_; rintro e w5 ⟨rfl, rfl⟩)
                | (go_at_call 22; refine (left2 h4).mono ?_; rintro e w6 ⟨rfl, h6, hbl6⟩))
              go_roundg (ls.length - (k + 1))
              case measure => have := HG.out; omega
              case rel => exact ⟨k + 1, l4, true, by omega, rfl, by go_num, h6, ((hba.trans hbl3).trans hbl4).trans hbl6⟩
            | some y =>
              obtain ⟨x, l'⟩ := y
              rw [hr] at c1
              have HH := Lib.hid hr
              clear hr
              go_wp2_with (first
                | (go_at_call 17; refine c1.mono ?_; rintro e w3 ⟨rfl, h3a, h3b, h3c, hbl3⟩)
                | (go_at_call 18; refine (second_some (rdf := rdText) (fun h => qtext_any h) HH.out h3a h3b h3c).mono ?_; rintro e w4 ⟨rfl, h4, hbl4⟩)
                | (go_at_call 21; refine (left1 h4).mono ?_; rintro e w5 ⟨rfl, rfl⟩)
                | (go_at_call 22; refine (left2 h4).mono ?_; rintro e w6 ⟨rfl, h6, hbl6⟩))
              go_roundg (ls.length - (k + 1))
              case measure => have := HG.out; omega
              case rel => exact ⟨k + 1, l', false, by omega, rfl, by go_num, h6, ((hba.trans hbl3).trans hbl4).trans hbl6⟩
        have z1 : (kind == 1) = false := by rw [beq_eq_false_iff_ne]; exact k1
        by_cases k2 : kind = 2
        · subst k2
          cases bad with
          | true =>
            have c1 := first_bad (fun h => mFlag_any h) hra
            go_wp2_with (first
              | (go_at_call 19; refine c1.mono ?_; rintro e w3 ⟨rfl, ⟨l3, h3⟩, hbl3⟩)
              | (go_at_call 20; refine (second_bad (fun h => qflag_any h) h3).mono ?_; rintro e w4 ⟨rfl, ⟨l4, h4⟩, hbl4⟩)
              | (go_at_call 21; refine (left1 h4).mono ?_; rintro e w5 ⟨rfl, rfl⟩)
              | (go_at_call 22; refine (left2 h4).mono ?_; rintro e w6 ⟨rfl, h6, hbl6⟩))
            go_roundg (ls.length - (k + 1))
            case measure => have := HG.out; omega
            case rel => exact ⟨k + 1, l4, true, by omega, rfl, by go_num, h6, ((hba.trans hbl3).trans hbl4).trans hbl6⟩
          | false =>
            have c1 := first_good (rdf := rdFlag) (fun h => mFlag_any h) hra
            unfold P1 at c1
            cases hr : rdFlag l with
            | none =>
              rw [hr] at c1
              have HH := Lib.hid hr
              clear hr
              go_wp2_with (first
                | (go_at_call 19; refine c1.mono ?_; rintro e w3 ⟨rfl, h3a, h3b, h3c, hbl3⟩)
                | (go_at_call 20; refine (second_none (rdf := rdFlag) (fun h => qflag_any h) HH.out h3a h3b h3c).mono ?_; rintro e w4 ⟨rfl, ⟨l4, h4⟩, hbl4⟩)
                | (go_at_call 21; refine (left1 h4).mono ?_; rintro e w5 ⟨rfl, rfl⟩)
                | (go_at_call 22; refine (left2 h4).mono ?_; rintro e w6 ⟨rfl, h6, hbl6⟩))
              go_roundg (ls.length - (k + 1))
              case measure => have := HG.out; omega
              case rel => exact ⟨k + 1, l4, true, by omega, rfl, by go_num, h6, ((hba.trans hbl3).trans hbl4).trans hbl6⟩
            | some y =>
              obtain ⟨x, l'⟩ := y
              rw [hr] at c1
              have HH := Lib.hid hr
              clear hr
              go_wp2_with (first
                | (go_at_call 19; refine c1.mono ?_; rintro e w3 ⟨rfl, h3a, h3b, h3c, hbl3⟩)
                | (go_at_call 20; refine (second_some (rdf := rdFlag) (fun h => qflag_any h) HH.out h3a h3b h3c).mono ?_; rintro e w4 ⟨rfl, h4, hbl4⟩)
                | (go_at_call 21; refine (left1 h4).mono ?_; rintro e w5 ⟨rfl, rfl⟩)
                | (go_at_call 22; refine (left2 h4).mono ?_; rintro e w6 ⟨rfl, h6, hbl6⟩))
              go_roundg (ls.length - (k + 1))
              case measure => have := HG.out; omega
              case rel => exact ⟨k + 1, l', false, by omega, rfl, by go_num, h6, ((hba.trans hbl3).trans hbl4).trans hbl6⟩
        have z2 : (kind == 2) = false := by rw [beq_eq_false_iff_ne]; exact k2
        cases bad
        · skip
          go_wp2_with (first
            | (go_at_call 21; refine (left1 hra).mono ?_; rintro e w5 ⟨rfl, rfl⟩)
            | (go_at_call 22; refine (left2 hra).mono ?_; rintro e w6 ⟨rfl, h6, hbl6⟩))
          go_roundg (ls.length - (k + 1))
          case measure => have := HG.out; omega
          case rel => exact ⟨k + 1, l, false, by omega, rfl, by go_num, h6, hba.trans hbl6⟩
        · skip
          go_wp2_with (first
            | (go_at_call 21; refine (left1 hra).mono ?_; rintro e w5 ⟨rfl, rfl⟩)
            | (go_at_call 22; refine (left2 hra).mono ?_; rintro e w6 ⟨rfl, h6, hbl6⟩))
          go_roundg (ls.length - (k + 1))
          case measure => have := HG.out; omega
          case rel => exact ⟨k + 1, l, true, by omega, rfl, by go_num, h6, hba.trans hbl6⟩
      · obtain rfl : k = ls.length := by omega
        cases bad with
        | true =>
          go_wp2_with (first
            | (go_at_call 23; refine (done1 hrs').mono ?_; rintro e w5 ⟨rfl, rfl⟩)
            | (go_at_call 24; refine (done2 hrs').mono ?_; rintro e w6 ⟨rfl, hbl6⟩)
            | (go_at_call 9; refine (lives_any _).mono ?_; rintro e w9 ⟨rfl, hb9⟩))
          go_ret
          exact ⟨rfl, (hbel.trans hbl6).trans (hb9.mono (Nat.le_trans hbel.size hbl6.size))⟩
        | false =>
          by_cases hl : 0 < l.length
          · have hd : decide (0 < l.length) = true := decide_eq_true hl
            go_wp2_with (first
              | (go_at_call 23; refine (done1 hrs').mono ?_; rintro e w5 ⟨rfl, rfl⟩)
              | (go_at_call 24; refine (done2 hrs').mono ?_; rintro e w6 ⟨rfl, hbl6⟩)
              | (go_at_call 9; refine (lives_any _).mono ?_; rintro e w9 ⟨rfl, hb9⟩))
            go_ret
            exact ⟨rfl, (hbel.trans hbl6).trans (hb9.mono (Nat.le_trans hbel.size hbl6.size))⟩
          · have hd : decide (0 < l.length) = false := decide_eq_false hl
            go_wp2_with (first
              | (go_at_call 23; refine (done1 hrs').mono ?_; rintro e w5 ⟨rfl, rfl⟩)
              | (go_at_call 24; refine (done2 hrs').mono ?_; rintro e w6 ⟨rfl, hbl6⟩)
              | (go_at_call 9; refine (lives_any _).mono ?_; rintro e w9 ⟨rfl, hb9⟩))
            go_ret
            exact ⟨rfl, (hbel.trans hbl6).trans (hb9.mono (Nat.le_trans hbel.size hbl6.size))⟩
  · by_cases h1 : L.length ≤ 5000
    · have d1 : decide ((5000 : Int) < (L.length : Int)) = false := decide_eq_false (by omega)
      have d2 : (100 : Int) < (ls.length : Int) := by omega
      go_enter Try.func4, Try.ntmps4
      go_wp2_with (go_at_call 9; refine (lives_any _).mono ?_; rintro e w9 ⟨rfl, hb9⟩)
      go_ret
      exact ⟨rfl, hb9⟩
    · have d1 : (5000 : Int) < (L.length : Int) := by omega
      go_enter Try.func4, Try.ntmps4
      go_wp2_with (go_at_call 9; refine (lives_any _).mono ?_; rintro e w9 ⟨rfl, hb9⟩)
      go_ret
      exact ⟨rfl, hb9⟩
end Go.Proofs.Ytnmiodjkomgfcaa
