/- THE WALK OF BlobBack. -/
import Derived.Test.YtnmiodjkomgfcaaBWr
import Derived.Test.YtnmiodjkomgfcaaRdl
import Derived.Test.YtnmiodjkomgfcaaRdq
namespace Go.Proofs.Ytnmiodjkomgfcaa
open Go.RowKit
theorem allB_drop (ls : List Opv) (k : Nat) (h : k < ls.length) : allB (ls.drop k) = (ls[k]).bytes ++ allB (ls.drop (k + 1)) := by
  unfold allB; rw [List.drop_eq_getElem_cons h]; rfl
theorem bad_false (ls : List Opv) (h : anyBad ls = false) (k : Nat) (hk : k < ls.length) : (ls[k]).bad = false := by
  unfold anyBad at h
  rw [List.any_eq_false] at h
  simpa using h ls[k] (List.getElem_mem hk)
/-- one reading of what was written -/
theorem back_num {w : World} {g B : Nat} {v : Value} {n : Int} {t : List UInt8} (h1 : -9223372036854775808 < n) (h2 : n ≤ 9223372036854775807) (h : Rd w g B (numL n ++ t) false v) :
    Calls Try.prog 15 #[.pointer (some ⟨g, 0, none⟩)] w fun e w' => ∃ v', e = .returned (.int .i64 n) ∧ Rd w' g B t false v' ∧ Only g w w' := by
  have := mNum_any h
  rw [rd_num n h1 h2] at this
  exact this
theorem back_text {w : World} {g B : Nat} {v : Value} {s : ByteArray} {t : List UInt8} (h1 : s.size ≤ 65536) (h : Rd w g B (textL s ++ t) false v) :
    Calls Try.prog 17 #[.pointer (some ⟨g, 0, none⟩)] w fun e w' => ∃ v', e = .returned (.string s) ∧ Rd w' g B t false v' ∧ Only g w w' := by
  have := mText_any h
  rw [rd_text s h1] at this
  exact this
theorem back_flag {w : World} {g B : Nat} {v : Value} {b : Bool} {t : List UInt8} (h : Rd w g B (flagL b ++ t) false v) :
    Calls Try.prog 19 #[.pointer (some ⟨g, 0, none⟩)] w fun e w' => ∃ v', e = .returned (.bool b) ∧ Rd w' g B t false v' ∧ Only g w w' := by
  have := mFlag_any h
  rw [rd_flag b] at this
  exact this
set_option maxRecDepth 100000 in
set_option maxHeartbeats 8000000 in
theorem blobBack_walk (v : Value) (ls : List Opv) {B : Nat} {w : World} (hv : Ops w B v ls) :
    Calls Try.prog 7 #[v] w (LawPost w) := by
  have hlight := light_any v ls w B hv
  obtain ⟨A, c, rfl, hc, hm, hr⟩ := hv.heap
  unfold maxLen at hm
  have HR := Lib.hid hr
  clear hr hv
  go_enter Try.func7, Try.ntmps7
  go_wp2_with (first
    | (go_at_call 8; refine hlight.mono ?_; rintro e w1 ⟨b, rfl, hb100, hb1⟩; cases b)
    | (go_at_call 9; refine (lives_any _).mono ?_; rintro e w9 ⟨rfl, hb9⟩)
    | (go_at_call 10; refine (new_any _).mono ?_; rintro e w2 ⟨rfl, hw2, hb2⟩))
  · go_ret
    exact ⟨rfl, hb1.trans (hb9.mono hb1.size)⟩
  · have h100 := hb100 trivial
    have hs1 := hb1.size
    have hs2 := hb2.size
    have hb12 := hb1.trans (hb2.mono hs1)
    generalize w1.heap.size = g at *
    go_loopg [3, 19] ls.length (fun gk x3 x19 wr => ∃ (k : Nat) (s' : Value), k ≤ ls.length ∧ gk = ls.length - k ∧ x3 = .pointer (some ⟨g, 0, none⟩) ∧ x19 = .int .i64 (k : Int) ∧
      Wr wr g (allB (ls.take k)) (anyBad (ls.take k)) s' ∧ Below w.heap.size w wr ∧ (allB (ls.take k)).length ≤ 65600 * k)
    case atStart => exact ⟨0, _, Nat.zero_le _, rfl, rfl, rfl, hw2, hb12, by simp [allB]⟩
    case round =>
      obtain ⟨k, s', hk, hgk, rfl, rfl, hwr, hbel, hlen⟩ := hrel
      have HG := Lib.hid hgk
      clear hgk
      by_cases h : k < ls.length
      · obtain ⟨ad, rfl, hadB, hrow⟩ := HR.out (by omega)
        obtain ⟨hok, hat⟩ := hrow k ls[k] (List.getElem?_eq_getElem h)
        have hat' := hat.keep fun q hq => hbel.cell (p := q) (by rw [hq, addr_add_block]; exact hadB)
        have HBN := Lib.hid (allB_snoc ls k h)
        have HAN := Lib.hid (anyBad_snoc ls k h)
        clear hrow hat
        generalize ls[k] = o at *
        generalize allB (ls.take k) = L at *
        generalize anyBad (ls.take k) = bad at *
        obtain ⟨c0, c1, c2, c3⟩ := hat'
        have hbl := o.bytes_len hok
        have hwa : Wr (wr.alloc (.cells #[.int .i64 o.kind, .int .i64 o.n, .string o.s, .bool o.b] 29)) g L bad s' := hwr.below ((Below.refl _ _).alloc (Nat.le_refl _) _)
        have hput := put_any o hok hwa (by omega)
        unfold Opv.val ptr at hput
        go_wp2_with (first
          | (go_at_call 11; refine hput.mono ?_; rintro e w3 ⟨s3, rfl, hw3, hst3⟩))
        go_roundg (ls.length - (k + 1))
        case measure => have := HG.out; omega
        case rel =>
          refine ⟨k + 1, s3, by omega, rfl, rfl, by go_num, by rw [HBN.out, HAN.out]; exact hw3, ?_, by rw [HBN.out, List.length_append]; omega⟩
          exact (hbel.alloc hbel.size _).trans ((Step.below hst3 hwa (Nat.le_refl _)).mono (by have := hbel.size; omega))
      · obtain rfl : k = ls.length := by omega
        rw [List.take_length] at *
        have hl : (allB ls).length ≤ 2000000000 := by omega
        clear hlen
        cases hbad : anyBad ls with
        | true =>
          rw [hbad] at hwr
          clear hbad
          go_wp2_with (first
            | (go_at_call 9; refine (lives_any _).mono ?_; rintro e w9 ⟨rfl, hb9⟩)
            | (go_at_call 13; refine (bytes_spoilt hwr).mono ?_; rintro e w6 ⟨rfl, rfl⟩))
          go_ret
          exact ⟨rfl, hbel.trans (hb9.mono hbel.size)⟩
        | false =>
          rw [hbad] at hwr
          have HB := Lib.hid (bad_false ls hbad)
          clear hbad
          go_wp2_with (first
            | (go_at_call 13; refine (bytes_any hwr hl).mono ?_; rintro e w6 ⟨r6, rfl, hown6, hb6⟩)
            | (go_at_call 14; refine (open_any _ _ _ _ hown6.byt (Nat.le_refl _)).mono ?_; rintro e w7 ⟨rfl, hrd, hb7⟩))
          have hgr : w.heap.size ≤ w6.heap.size := Nat.le_trans hbel.size hb6.size
          have hb8 : Below w.heap.size w w7 := (hbel.trans (hb6.mono hbel.size)).trans (hb7.mono hgr)
          obtain ⟨gr, hgre⟩ : ∃ g, g = w6.heap.size := ⟨_, rfl⟩
          rw [← hgre] at hrd hgr ⊢
          clear hgre hown6 hb6 hb7 hwr
          go_loopg [48] ls.length (fun gk x wr => ∃ (k : Nat) (v' : Value), k ≤ ls.length ∧ gk = ls.length - k ∧ x = .int .i64 (k : Int) ∧ Rd wr gr gr (allB (ls.drop k)) false v' ∧ Below w.heap.size w wr)
          case atStart => exact ⟨0, _, Nat.zero_le _, rfl, rfl, hrd, hb8⟩
          case round =>
            clear hrd hb8
            obtain ⟨k, v', hk2, hgk, rfl, hrdk, hbel2⟩ := hrel
            have HG2 := Lib.hid hgk
            clear hgk
            by_cases hkk : k < ls.length
            · obtain ⟨ad, rfl, hadB, hrow⟩ := HR.out (by omega)
              obtain ⟨hok, hat⟩ := hrow k ls[k] (List.getElem?_eq_getElem hkk)
              have hat' := hat.keep fun q hq => hbel2.cell (p := q) (by rw [hq, addr_add_block]; exact hadB)
              have hnb := HB.out k hkk
              rw [allB_drop ls k hkk] at hrdk
              clear hrow hat
              generalize ls[k] = o at *
              generalize hrest : allB (ls.drop (k + 1)) = rest at hrdk
              have HRE := Lib.hid hrest
              clear hrest
              obtain ⟨kind, n, t, b⟩ := o
              obtain ⟨c0, c1, c2, c3⟩ := hat'
              obtain ⟨k1, k2, n1, n2, sl⟩ := hok
              simp only at c0 c1 c2 c3 n1 n2 sl
              have hra := hrdk.below (w' := (wr.alloc (.cells #[.int .i64 kind, .int .i64 n, .string t, .bool b] 29)).drew) (((Below.refl _ _).alloc (Nat.le_refl _) _).drew)
              have hbx : (wr.alloc (.cells #[.int .i64 kind, .int .i64 n, .string t, .bool b] 29)).drew.heap[wr.heap.size]? = some (.cells #[.int .i64 kind, .int .i64 n, .string t, .bool b] 29 (0, 0)) := heap_alloc_new wr _
              have hbg : wr.heap.size ≠ gr := by have := hrdk.lt; omega
              clear hrdk
              by_cases q0 : kind = 0
              · subst q0
                have hn : n ≠ -9223372036854775808 := fun e => by simp [Opv.bad, e] at hnb
                have hby : Opv.bytes ⟨0, n, t, b⟩ = numL n := by simp [Opv.bytes, hnb]
                rw [hby] at hra
                clear hby hnb
                go_wp2_with fail
                go_region_with ((go_at_call 15; refine (back_num (by omega) n2 hra).mono ?_; rintro e w8 ⟨v8, rfl, hrd8, ho8⟩; have hx8 := (ho8.heap hbx hbg); have d1 := cells_of hx8 1 _ rfl))
                all_goals go_wp2
                all_goals go_roundg (ls.length - (k + 1))
                all_goals first
                  | (have := HG2.out; omega)
                  | exact ⟨k + 1, _, by omega, rfl, by go_num, by rw [HRE.out]; exact hrd8, ((hbel2.alloc hbel2.size _).drew).trans ((ho8.below hra.lt).mono (by omega))⟩
              have z0 : (kind == 0) = false := by rw [beq_eq_false_iff_ne]; exact q0
              by_cases q1 : kind = 1
              · subst q1
                have hn : t.size ≤ 65536 := by simpa [Opv.bad] using hnb
                have hby : Opv.bytes ⟨1, n, t, b⟩ = textL t := by simp [Opv.bytes, hnb]
                rw [hby] at hra
                clear hby hnb
                go_wp2_with fail
                go_region_with ((go_at_call 17; refine (back_text hn hra).mono ?_; rintro e w8 ⟨v8, rfl, hrd8, ho8⟩; have hx8 := (ho8.heap hbx hbg); have d2 := cells_of hx8 2 _ rfl))
                all_goals go_wp2
                all_goals go_roundg (ls.length - (k + 1))
                all_goals first
                  | (have := HG2.out; omega)
                  | exact ⟨k + 1, _, by omega, rfl, by go_num, by rw [HRE.out]; exact hrd8, ((hbel2.alloc hbel2.size _).drew).trans ((ho8.below hra.lt).mono (by omega))⟩
              have z1 : (kind == 1) = false := by rw [beq_eq_false_iff_ne]; exact q1
              have hby : Opv.bytes ⟨kind, n, t, b⟩ = flagL b := by simp [Opv.bytes, hnb, q0, q1]
              rw [hby] at hra
              clear hby hnb
              go_wp2_with fail
              go_region_with ((go_at_call 19; refine (back_flag hra).mono ?_; rintro e w8 ⟨v8, rfl, hrd8, ho8⟩; have hx8 := (ho8.heap hbx hbg); have d3 := cells_of hx8 3 _ rfl))
              all_goals go_wp2
              all_goals go_roundg (ls.length - (k + 1))
              all_goals first
                | (have := HG2.out; omega)
                | exact ⟨k + 1, _, by omega, rfl, by go_num, by rw [HRE.out]; exact hrd8, ((hbel2.alloc hbel2.size _).drew).trans ((ho8.below hra.lt).mono (by omega))⟩
            · obtain rfl : k = ls.length := by omega
              rw [List.drop_length] at hrdk
              have hdone := mdone_any hrdk
              have hleft := mleft_any hrdk
              go_wp2_with (first
                | (go_at_call 23; refine hdone.mono ?_; rintro e w8 ⟨rfl, rfl⟩)
                | (go_at_call 21; refine hleft.mono ?_; rintro e w8 ⟨rfl, rfl⟩)
                | (go_at_call 9; refine (lives_any _).mono ?_; rintro e w9 ⟨rfl, hb9⟩))
              go_ret
              exact ⟨rfl, hbel2.trans (hb9.mono hbel2.size)⟩
end Go.Proofs.Ytnmiodjkomgfcaa
