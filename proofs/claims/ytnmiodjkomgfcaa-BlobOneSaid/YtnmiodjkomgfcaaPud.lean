/- THE WALKS OF octroilaw05's put, doc AND lives. -/
import Derived.Test.YtnmiodjkomgfcaaOpv
namespace Go.Proofs.Ytnmiodjkomgfcaa
open Go.RowKit
/-- has the document no bytes for it? -/
def Opv.bad (o : Opv) : Bool := (o.kind == 0 && o.n == -9223372036854775808) || (o.kind == 1 && decide (65536 < o.s.size))
def Opv.bytes (o : Opv) : List UInt8 := if o.bad then [] else if o.kind = 0 then numL o.n else if o.kind = 1 then textL o.s else flagL o.b
theorem Opv.bytes_len (o : Opv) (h : o.ok) : o.bytes.length ≤ 65600 := by
  obtain ⟨k1, k2, n1, n2, sl⟩ := h
  unfold Opv.bytes
  split
  · simp
  · rename_i hb
    split
    · have := numL_len o.n n1 n2; omega
    · split
      · rename_i h1
        have hs : o.s.size ≤ 65536 := by
          simp [Opv.bad, h1] at hb; exact hb
        unfold textL
        rw [List.length_append]
        have := numL_len (o.s.size : Int) (by omega) (by omega)
        have e : o.s.data.toList.length = o.s.size := Array.length_toList
        omega
      · simp [flagL]
set_option maxHeartbeats 2000000 in
theorem put_any {w : World} {g : Nat} {l : List UInt8} {sp : Bool} {s : Value} (o : Opv) (hok : o.ok) (h : Wr w g l sp s) (hl : l.length ≤ 800000000) :
    Calls Try.prog 11 #[ptr g, o.val] w (WPost w g (l ++ o.bytes) (sp || o.bad) s) := by
  obtain ⟨kind, n, t, b⟩ := o
  obtain ⟨k1, k2, n1, n2, sl⟩ := hok
  simp only at k1 k2 n1 n2 sl
  have hW : Wr (w.alloc (.cells #[.int .i64 kind, .int .i64 n, .string t, .bool b] 29)) g l sp s := h.below ((Below.refl _ _).alloc (Nat.le_refl _) _)
  have hS : Step w (w.alloc (.cells #[.int .i64 kind, .int .i64 n, .string t, .bool b] 29)) g s s := Step.ofBelow ((Below.refl _ _).alloc (Nat.le_refl _) _)
  have HS := Lib.hid hS
  clear hS
  unfold Opv.val ptr
  by_cases hk0 : kind = 0
  · subst hk0
    by_cases hm : n = -9223372036854775808
    · subst hm
      have hbad : Opv.bad ⟨0, -9223372036854775808, t, b⟩ = true := rfl
      have hby : Opv.bytes ⟨0, -9223372036854775808, t, b⟩ = [] := rfl
      rw [hbad, hby, Bool.or_true, List.append_nil]
      have hc := num_least hW
      clear hbad hby
      go_enter Try.func11, Try.ntmps11
      go_wp2_with (go_at_call 25; refine hc.mono ?_; rintro e w1 ⟨s1, rfl, hw1, hs1⟩)
      go_ret
      exact ⟨_, rfl, hw1, HS.out.trans hs1⟩
    · have hbad : Opv.bad ⟨0, n, t, b⟩ = false := by simp [Opv.bad, hm]
      have hby : Opv.bytes ⟨0, n, t, b⟩ = numL n := by simp [Opv.bytes, hbad]
      rw [hbad, hby, Bool.or_false]
      have hc := num_any n (by omega) n2 hW (by omega)
      clear hbad hby
      go_enter Try.func11, Try.ntmps11
      go_wp2_with (go_at_call 25; refine hc.mono ?_; rintro e w1 ⟨s1, rfl, hw1, hs1⟩)
      go_ret
      exact ⟨_, rfl, hw1, HS.out.trans hs1⟩
  · have hq0 : (kind == 0) = false := by rw [beq_eq_false_iff_ne]; exact hk0
    by_cases hk1 : kind = 1
    · subst hk1
      by_cases hm : 65536 < t.size
      · have hbad : Opv.bad ⟨1, n, t, b⟩ = true := by simp [Opv.bad, hm]
        have hby : Opv.bytes ⟨1, n, t, b⟩ = [] := by simp [Opv.bytes, hbad]
        rw [hbad, hby, Bool.or_true, List.append_nil]
        have hc := text_long t hm sl hW
        clear hbad hby
        go_enter Try.func11, Try.ntmps11
        go_wp2_with (go_at_call 26; refine hc.mono ?_; rintro e w1 ⟨s1, rfl, hw1, hs1⟩)
        go_ret
        exact ⟨_, rfl, hw1, HS.out.trans hs1⟩
      · have hbad : Opv.bad ⟨1, n, t, b⟩ = false := by simp [Opv.bad]; omega
        have hby : Opv.bytes ⟨1, n, t, b⟩ = textL t := by simp [Opv.bytes, hbad]
        rw [hbad, hby, Bool.or_false]
        have hc := text_any t (by omega) hW (by omega)
        clear hbad hby
        go_enter Try.func11, Try.ntmps11
        go_wp2_with (go_at_call 26; refine hc.mono ?_; rintro e w1 ⟨s1, rfl, hw1, hs1⟩)
        go_ret
        exact ⟨_, rfl, hw1, HS.out.trans hs1⟩
    · have hq1 : (kind == 1) = false := by rw [beq_eq_false_iff_ne]; exact hk1
      have hbad : Opv.bad ⟨kind, n, t, b⟩ = false := by simp [Opv.bad, hk0, hk1]
      have hby : Opv.bytes ⟨kind, n, t, b⟩ = flagL b := by simp [Opv.bytes, hbad, hk0, hk1]
      rw [hbad, hby, Bool.or_false]
      have hc := flag_any b hW (by omega)
      clear hbad hby
      go_enter Try.func11, Try.ntmps11
      go_wp2_with (go_at_call 27; refine hc.mono ?_; rintro e w1 ⟨s1, rfl, hw1, hs1⟩)
      go_ret
      exact ⟨_, rfl, hw1, HS.out.trans hs1⟩
def DocPost (w : World) (o : Opv) (e : Ending) (w' : World) : Prop := ∃ r, e = .returned (.tuple #[r, .bool (!o.bad)]) ∧ Own w' w.heap.size r o.bytes ∧ Below w.heap.size w w'
theorem docPost_of {w : World} {o : Opv} {ob : Obj} {r : Value} {w1 : World} (hown : Own w1 (w.alloc ob).heap.size r o.bytes) (hb : Below (w.alloc ob).heap.size (w.alloc ob) w1) : DocPost w o (.returned (.tuple #[r, .bool (!o.bad)])) w1 :=
  ⟨r, rfl, hown.more (by simp), ((Below.refl _ _).alloc (Nat.le_refl _) ob).trans (hb.mono (by simp))⟩
set_option maxHeartbeats 2000000 in
theorem doc_any {w : World} (o : Opv) (hok : o.ok) : Calls Try.prog 12 #[o.val] w (DocPost w o) := by
  obtain ⟨kind, n, t, b⟩ := o
  obtain ⟨k1, k2, n1, n2, sl⟩ := hok
  simp only at k1 k2 n1 n2 sl
  unfold Opv.val
  by_cases hk0 : kind = 0
  · subst hk0
    by_cases hm : n = -9223372036854775808
    · subst hm
      go_enter Try.func12, Try.ntmps12
      go_wp2_with (go_at_call 28; refine rnum_least.mono ?_; rintro e w1 ⟨rfl, rfl⟩)
      go_ret2
      exact docPost_of (o := ⟨0, _, t, b⟩) (Own.nil_ _ _) (Below.refl _ _)
    · have hbad : Opv.bad ⟨0, n, t, b⟩ = false := by simp [Opv.bad, hm]
      have hby : Opv.bytes ⟨0, n, t, b⟩ = numL n := by simp [Opv.bytes, hbad]
      have HB := Lib.hid hbad
      have HY := Lib.hid hby
      clear hbad hby
      go_enter Try.func12, Try.ntmps12
      go_wp2_with (go_at_call 28; refine (rnum_any n (by omega) n2).mono ?_; rintro e w1 ⟨r, rfl, hown, hb⟩)
      go_ret2
      rw [show true = !Opv.bad ⟨0, n, t, b⟩ by rw [HB.out]; rfl]
      exact docPost_of (by rw [HY.out]; exact hown) hb
  · have hq0 : (kind == 0) = false := by rw [beq_eq_false_iff_ne]; exact hk0
    by_cases hk1 : kind = 1
    · subst hk1
      by_cases hm : 65536 < t.size
      · have hbad : Opv.bad ⟨1, n, t, b⟩ = true := by simp [Opv.bad, hm]
        have hby : Opv.bytes ⟨1, n, t, b⟩ = [] := by simp [Opv.bytes, hbad]
        have HB := Lib.hid hbad
        have HY := Lib.hid hby
        clear hbad hby
        go_enter Try.func12, Try.ntmps12
        go_wp2_with (go_at_call 29; refine (rtext_long t hm sl).mono ?_; rintro e w1 ⟨rfl, rfl⟩)
        go_ret2
        rw [show false = !Opv.bad ⟨1, n, t, b⟩ by rw [HB.out]; rfl]
        exact docPost_of (by rw [HY.out]; exact Own.nil_ _ _) (Below.refl _ _)
      · have hbad : Opv.bad ⟨1, n, t, b⟩ = false := by simp [Opv.bad]; omega
        have hby : Opv.bytes ⟨1, n, t, b⟩ = textL t := by simp [Opv.bytes, hbad]
        have HB := Lib.hid hbad
        have HY := Lib.hid hby
        clear hbad hby
        go_enter Try.func12, Try.ntmps12
        go_wp2_with (go_at_call 29; refine (rtext_any t (by omega)).mono ?_; rintro e w1 ⟨r, rfl, hown, hb⟩)
        go_ret2
        rw [show true = !Opv.bad ⟨1, n, t, b⟩ by rw [HB.out]; rfl]
        exact docPost_of (by rw [HY.out]; exact hown) hb
    · have hq1 : (kind == 1) = false := by rw [beq_eq_false_iff_ne]; exact hk1
      have hbad : Opv.bad ⟨kind, n, t, b⟩ = false := by simp [Opv.bad, hk0, hk1]
      have hby : Opv.bytes ⟨kind, n, t, b⟩ = flagL b := by simp [Opv.bytes, hbad, hk0, hk1]
      have HB := Lib.hid hbad
      have HY := Lib.hid hby
      clear hbad hby
      go_enter Try.func12, Try.ntmps12
      go_wp2_with (go_at_call 30; refine (rflag_any b).mono ?_; rintro e w1 ⟨r, rfl, hown, hb⟩)
      go_ret2
      rw [show true = !Opv.bad ⟨kind, n, t, b⟩ by rw [HB.out]; rfl]
      exact docPost_of (by rw [HY.out]; exact hown) hb
end Go.Proofs.Ytnmiodjkomgfcaa
