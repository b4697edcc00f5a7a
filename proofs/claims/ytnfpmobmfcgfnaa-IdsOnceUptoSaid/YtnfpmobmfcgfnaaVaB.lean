/- THE WALKS OF THE LISTS OF COUNTRIES. -/
import Derived.Test.YtnfpmobmfcgfnaaVaA
import Derived.Deep.LoopGhost
namespace Go.Proofs.Ytnfpmobmfcgfnaa
open Go.RowKit
def bsA (l : List UInt8) : ByteArray := ⟨l.toArray⟩
theorem bsA_list (l : List UInt8) : (bsA l).data.toList = l := by simp [bsA]
theorem bsA_of (s : ByteArray) : bsA s.data.toList = s := by cases s; simp [bsA]
theorem bsA_inj {s : ByteArray} {l : List UInt8} : s = bsA l ↔ s.data.toList = l := by
  constructor
  · rintro rfl; exact bsA_list l
  · rintro rfl; exact (bsA_of s).symm
/-- a new slice of texts -/
def NewStrs (ls : List (List UInt8)) (w : World) (e : Ending) (w' : World) : Prop := ∃ v, e = .returned v ∧ Ow strK w' w.heap.size v (ls.map bsA) ∧ Below w.heap.size w w'
set_option maxRecDepth 100000 in
theorem members_any (w : World) : Calls Try.prog 84 #[] w (NewStrs mems w) := by
  have h := ow_lit strK w (mems.map bsA) (by decide)
  have H := Lib.hid h
  clear h
  go_enter Try.func84, Try.ntmps84
  go_wp2
  go_ret
  exact ⟨_, rfl, H.out, (Below.refl _ _).alloc (Nat.le_refl _) _⟩
theorem str_eq (s t : ByteArray) : (s.toList == t.toList) = decide (s = t) := by
  rw [ByteArray.toList_eq, ByteArray.toList_eq, Bool.eq_iff_iff, beq_iff_eq, decide_eq_true_eq]
  constructor
  · intro h; rw [← bsA_of s, ← bsA_of t, h]
  · rintro rfl; rfl
theorem str_t {s t : ByteArray} (h : (s.toList == t.toList) = true) : s = t := by rw [str_eq, decide_eq_true_eq] at h; exact h
theorem str_f {s t : ByteArray} (h : (s.toList == t.toList) = false) : s ≠ t := by rw [str_eq, decide_eq_false_iff_not] at h; exact h
/-- is it in there? -/
def hasS (ls : List ByteArray) (c : ByteArray) : Bool := ls.any fun x => decide (x = c)
theorem has_t {ls : List ByteArray} {c : ByteArray} {k : Nat} (h : ls[k]? = some c) : hasS ls c = true := by
  unfold hasS; rw [List.any_eq_true]; exact ⟨c, List.mem_of_getElem? h, by simp⟩
theorem has_f {ls : List ByteArray} {c : ByteArray} (h : ∀ j, j < ls.length → ls[j]? ≠ some c) : hasS ls c = false := by
  unfold hasS; rw [List.any_eq_false]
  intro x hx
  rw [decide_eq_true_eq]
  rintro rfl
  obtain ⟨j, hj, e⟩ := List.mem_iff_getElem.1 hx
  exact h j hj (by rw [List.getElem?_eq_getElem hj, e])
def IdxPost (ls : List ByteArray) (c : ByteArray) (w : World) (e : Ending) (w' : World) : Prop := ∃ n : Int, e = .returned (.int .i64 n) ∧ decide (0 ≤ n) = hasS ls c ∧ w = w'
set_option maxHeartbeats 1000000 in
theorem index_any (v : Value) (ls : List ByteArray) (c : ByteArray) (w : World) (B : Nat) (hv : Sl strK w B v ls) :
    Calls Try.prog 108 #[v, .string c] w (IdxPost ls c w) := by
  obtain ⟨A, cp, rfl, hc, hm, hr⟩ := hv
  unfold maxLen at hm
  have HR := Lib.hid hr
  clear hr
  go_enter Try.func108, Try.ntmps108
  go_wp2
  go_loopg [5, 8] ls.length (fun g x5 x8 wr => w = wr ∧ ∃ k : Nat, k ≤ ls.length ∧ g = ls.length - k ∧ x8 = .int .i64 (k : Int) ∧ (∀ j, j < k → ls[j]? ≠ some c))
  case atStart => exact ⟨rfl, 0, Nat.zero_le _, rfl, rfl, fun j hj => by omega⟩
  case round =>
    obtain ⟨rfl, k, hk, hg, rfl, hno⟩ := hrel
    have HG := Lib.hid hg
    have HN := Lib.hid hno
    clear hg hno
    by_cases h : k < ls.length
    · obtain ⟨ad, rfl, hadB, hrow⟩ := HR.out (by omega)
      have hat : w.cell? (ad.add k) = some (.string ls[k]) := hrow k ls[k] (List.getElem?_eq_getElem h)
      have HK := Lib.hid (List.getElem?_eq_getElem h)
      clear hrow
      generalize ls[k] = x at *
      go_wp2
      · have hx := str_t (by assumption : (c.toList == x.toList) = true)
        go_ret
        exact ⟨k, rfl, by rw [decide_eq_true (by omega : (0 : Int) ≤ (k : Int))]; exact (has_t (hx ▸ HK.out)).symm, rfl⟩
      · have hx := str_f (by assumption : (c.toList == x.toList) = false)
        go_roundg (ls.length - (k + 1))
        case measure => have := HG.out; omega
        case rel =>
          refine ⟨rfl, k + 1, by omega, rfl, by go_num, fun j hj e => ?_⟩
          by_cases hjk : j = k
          · subst hjk
            rw [HK.out] at e
            exact hx (Option.some.inj e).symm
          · exact HN.out j (by omega) e
    · obtain rfl : k = ls.length := by omega
      go_wp2
      go_ret
      exact ⟨-1, rfl, (has_f HN.out).symm, rfl⟩
theorem contains_any (v : Value) (ls : List ByteArray) (c : ByteArray) (w : World) (B : Nat) (hv : Sl strK w B v ls) :
    Calls Try.prog 83 #[v, .string c] w fun e w' => e = .returned (.bool (hasS ls c)) ∧ w = w' := by
  have hi := index_any v ls c w B hv
  obtain ⟨A, cp, rfl, hc, hm, hr⟩ := hv
  clear hr
  go_enter Try.func83, Try.ntmps83
  go_wp2_with (go_at_call 108; refine hi.mono ?_; rintro e w' ⟨n, rfl, hn, rfl⟩)
  go_ret
  exact ⟨rfl, rfl⟩
theorem has_mems (c : ByteArray) : hasS (mems.map bsA) c = memB c.data.toList := by
  unfold hasS memB
  rw [List.any_map, Bool.eq_iff_iff, List.any_eq_true, List.contains_iff_mem]
  constructor
  · rintro ⟨x, hx, h⟩
    have := of_decide_eq_true h
    rw [← this, bsA_list]; exact hx
  · intro h
    exact ⟨_, h, decide_eq_true (bsA_of c)⟩
theorem member_any (c : ByteArray) (w : World) : Calls Try.prog 49 #[.string c] w fun e w' => e = .returned (.bool (memB c.data.toList)) ∧ Below w.heap.size w w' := by
  rw [← has_mems]
  go_enter Try.func49, Try.ntmps49
  go_wp2_with (first
    | (go_at_call 84; refine (members_any _).mono ?_; rintro e w1 ⟨v1, rfl, hv1, hb1⟩)
    | (go_at_call 83; refine (contains_any _ _ _ _ _ hv1.sl).mono ?_; rintro e w2 ⟨rfl, rfl⟩))
  go_ret
  exact ⟨rfl, hb1⟩
end Go.Proofs.Ytnfpmobmfcgfnaa
