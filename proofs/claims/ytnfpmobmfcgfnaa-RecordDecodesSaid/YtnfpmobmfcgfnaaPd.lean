/- THE WALKS OF blob.Reader's text, AND OF ITS METHODS. -/
import Derived.Test.YtnfpmobmfcgfnaaRdm
namespace Go.Proofs.Ytnfpmobmfcgfnaa
open Go.RowKit
section
variable {w : World} {g B : Nat} {v : Value} {l : List UInt8}
set_option maxHeartbeats 2000000 in
theorem rdt_any (h : Rd w g B l false v) : Calls Try.prog 115 #[.pointer (some ⟨g, 0, none⟩)] w (RdPost (fun s : ByteArray => .string s) w g B (rdText l)) := by
 have hnum := rdn_any h
 unfold rdText
 cases hr : rdNum l with
 | none =>
  rw [hr] at hnum
  clear hr
  go_enter Try.func115, Try.ntmps115
  go_wp2_with (go_at_call 103; refine hnum.mono ?_; rintro e w1 ⟨l1, v1, rfl, hr1, ho1⟩)
  exact ⟨rfl, _, _, rfl, hr1, ho1⟩
 | some p =>
  obtain ⟨n, t⟩ := p
  obtain ⟨r1, r2⟩ := rdNum_range hr
  rw [hr] at hnum
  clear hr
  show Calls Try.prog 115 #[.pointer (some ⟨g, 0, none⟩)] w (RdPost (fun s : ByteArray => .string s) w g B (if 0 ≤ n ∧ n ≤ 65536 ∧ n ≤ t.length then some (⟨(t.take n.toNat).toArray⟩, t.drop n.toNat) else none))
  by_cases h6 : n ≤ 65536
  ·by_cases hok : 0 ≤ n ∧ n ≤ t.length
   ·rw [if_pos ⟨hok.1, h6, hok.2⟩]
    obtain ⟨k, rfl⟩ : ∃ k : Nat, n = (k : Int) := ⟨n.toNat, by omega⟩
    rw [Int.toNat_natCast]
    go_enter Try.func115, Try.ntmps115
    go_wp2_with (first
     | (go_at_call 103; refine hnum.mono ?_; rintro e w1 ⟨v1, rfl, hr1, ho1⟩)
     | (go_at_call 120; refine (must_true _).mono ?_; rintro e w' ⟨rfl, rfl⟩)
     | (go_at_call 119; refine (take_any k (by omega) hr1).mono ?_; rintro e w2 ⟨r2, v2, rfl, hb2, hr2, ho2⟩; have hstr := hb2.str))
    go_ret
    exact ⟨_, rfl, hr2, Only.trans ho1 ho2⟩
   ·rw [if_neg (fun e => hok ⟨e.1, e.2.2⟩)]
    go_enter Try.func115, Try.ntmps115
    go_wp2_with (first
     | (go_at_call 103; refine hnum.mono ?_; rintro e w1 ⟨v1, rfl, hr1, ho1⟩)
     | (go_at_call 120; refine (must_true _).mono ?_; rintro e w' ⟨rfl, rfl⟩)
     | (go_at_call 119; refine (take_short n hr1 (fun e => hok e.2)).mono ?_; rintro e w2 ⟨rfl, rfl⟩))
    exact ⟨rfl, _, _, rfl, hr1, ho1⟩
  ·rw [if_neg (fun e => h6 e.2.1)]
   have h7 : decide (n ≤ 65536) = false := decide_eq_false h6
   go_enter Try.func115, Try.ntmps115
   go_wp2_with (first
    | (go_at_call 103; refine hnum.mono ?_; rintro e w1 ⟨v1, rfl, hr1, ho1⟩)
    | (go_at_call 120; refine (must_false _).mono ?_; rintro e w' ⟨rfl, rfl⟩))
   exact ⟨rfl, _, _, rfl, hr1, ho1⟩
/-- what a method of a reader tells and leaves: zero, and the reader bad, where nothing of the kind stands -/
def RPost {α : Type} (val : α → Value) (zero : α) (w : World) (g B : Nat) (bad : Bool) (r : Option (α × List UInt8)) (e : Ending) (w' : World) : Prop :=
 match bad, r with
 | false, some (x, l') => ∃ v', e = .returned (val x) ∧ Rd w' g B l' false v' ∧ Only g w w'
 | _, _ => ∃ l' v', e = .returned (val zero) ∧ Rd w' g B l' true v' ∧ Only g w w'
end
end Go.Proofs.Ytnfpmobmfcgfnaa

/- THE WALKS OF blob.read AT ITS THREE TYPES, AND OF Num, Text, Flag (printed by genread.py). -/
namespace Go.Proofs.Ytnfpmobmfcgfnaa
open Go.RowKit
section
variable {w : World} {g B : Nat} {v : Value} {l : List UInt8}
/-- behind the panic: the deferred call sets bad, and the zero value is told -/
theorem read_int_short {bad : Bool} (h : Rd w g B l bad v) (hc : Calls Try.prog 103 #[.pointer (some ⟨g, 0, none⟩)] w fun e w' => ∃ l' v', e = .panicked shortP ∧ Rd w' g B l' bad v' ∧ Only g w w') :
  Calls Try.prog 102 #[.pointer (some ⟨g, 0, none⟩), .func (.func 103) #[.pointer (some ⟨g, 0, none⟩)] #[]] w fun e w' => ∃ l' v', e = .returned (.int .i64 0) ∧ Rd w' g B l' true v' ∧ Only g w w' := by
 have hn := rdnone_any h
 go_enter_defers Try.func102, Try.ntmps102
 go_wp2_with (first
  | (go_at_call 104; refine hn.mono ?_; rintro e w' ⟨rfl, rfl⟩)
  | (go_at_call 103; refine hc.mono ?_; rintro e w1 ⟨l1, v1, rfl, hr1, ho1⟩))
 refine leaves_cons (f := 118) (args := #[.pointer (some ⟨g, 0, none⟩)]) (by simp) (by simp [go_sem]) ?_
 refine (ends_short g w1 B l1 bad v1 hr1).mono ?_
 rintro e u' w2 ⟨rfl, rfl, hr2, ho2⟩
 simp [Leaves, settle, results, Try.results102, go_sem]
 exact ⟨⟨_, _, hr2⟩, Only.trans ho1 ho2⟩
theorem read_int_fine {x : Int} {l' : List UInt8} (h : Rd w g B l false v) (hc : Calls Try.prog 103 #[.pointer (some ⟨g, 0, none⟩)] w fun e w' => ∃ v', e = .returned ((fun n : Int => .int .i64 n) x) ∧ Rd w' g B l' false v' ∧ Only g w w') :
  Calls Try.prog 102 #[.pointer (some ⟨g, 0, none⟩), .func (.func 103) #[.pointer (some ⟨g, 0, none⟩)] #[]] w fun e w' => ∃ v', e = .returned ((fun n : Int => .int .i64 n) x) ∧ Rd w' g B l' false v' ∧ Only g w w' := by
 have hn := rdnone_any h
 go_enter_defers Try.func102, Try.ntmps102
 go_wp2_with (first
  | (go_at_call 104; refine hn.mono ?_; rintro e w' ⟨rfl, rfl⟩)
  | (go_at_call 103; refine hc.mono ?_; rintro e w1 ⟨v1, rfl, hr1, ho1⟩))
 refine leaves_cons (f := 118) (args := #[.pointer (some ⟨g, 0, none⟩)]) (by simp) (by simp [go_sem]) ?_
 refine (ends_idle g w1).mono ?_
 rintro e u' w2 ⟨rfl, rfl, rfl⟩
 exact ⟨_, results_tmp rfl _ _ _, _, rfl, hr1, ho1⟩
theorem mNum_any {bad : Bool} (h : Rd w g B l bad v) : Calls Try.prog 73 #[.pointer (some ⟨g, 0, none⟩)] w (RPost (fun n : Int => .int .i64 n) 0 w g B bad (rdNum l)) := by
 have hmf : ∀ (fn : Fn) (first cap : Array Value) (w : World), (Instr.makeFunc fn first cap).run Try.prog w = .ok (.func fn first cap) w := fun _ _ _ _ => rfl
 cases bad with
 | true =>
  have hc := read_int_short h (((rdn_bad h).mono) (by rintro e w' ⟨rfl, rfl⟩; exact ⟨_, _, rfl, h, Kept.refl _ _⟩))
  go_enter Try.func73, Try.ntmps73
  go_wp2_with (go_at_call 102; refine hc.mono ?_; rintro e w1 ⟨l1, v1, rfl, hr1, ho1⟩)
  go_ret
  exact ⟨_, _, rfl, hr1, ho1⟩
 | false =>
  have ha := rdn_any h
  cases hr : rdNum l with
  | none =>
   rw [hr] at ha
   have hc := read_int_short h ha
   clear hr ha
   go_enter Try.func73, Try.ntmps73
   go_wp2_with (go_at_call 102; refine hc.mono ?_; rintro e w1 ⟨l1, v1, rfl, hr1, ho1⟩)
   go_ret
   exact ⟨_, _, rfl, hr1, ho1⟩
  | some p =>
   obtain ⟨x, l'⟩ := p
   rw [hr] at ha
   have hc := read_int_fine h ha
   clear hr ha
   go_enter Try.func73, Try.ntmps73
   go_wp2_with (go_at_call 102; refine hc.mono ?_; rintro e w1 ⟨v1, rfl, hr1, ho1⟩)
   go_ret
   exact ⟨_, rfl, hr1, ho1⟩
/-- behind the panic: the deferred call sets bad, and the zero value is told -/
theorem read_string_short {bad : Bool} (h : Rd w g B l bad v) (hc : Calls Try.prog 115 #[.pointer (some ⟨g, 0, none⟩)] w fun e w' => ∃ l' v', e = .panicked shortP ∧ Rd w' g B l' bad v' ∧ Only g w w') :
  Calls Try.prog 114 #[.pointer (some ⟨g, 0, none⟩), .func (.func 115) #[.pointer (some ⟨g, 0, none⟩)] #[]] w fun e w' => ∃ l' v', e = .returned (.string ⟨#[]⟩) ∧ Rd w' g B l' true v' ∧ Only g w w' := by
 have hn := rdnone_any h
 go_enter_defers Try.func114, Try.ntmps114
 go_wp2_with (first
  | (go_at_call 104; refine hn.mono ?_; rintro e w' ⟨rfl, rfl⟩)
  | (go_at_call 115; refine hc.mono ?_; rintro e w1 ⟨l1, v1, rfl, hr1, ho1⟩))
 refine leaves_cons (f := 118) (args := #[.pointer (some ⟨g, 0, none⟩)]) (by simp) (by simp [go_sem]) ?_
 refine (ends_short g w1 B l1 bad v1 hr1).mono ?_
 rintro e u' w2 ⟨rfl, rfl, hr2, ho2⟩
 simp [Leaves, settle, results, Try.results114, go_sem]
 exact ⟨⟨_, _, hr2⟩, Only.trans ho1 ho2⟩
theorem read_string_fine {x : ByteArray} {l' : List UInt8} (h : Rd w g B l false v) (hc : Calls Try.prog 115 #[.pointer (some ⟨g, 0, none⟩)] w fun e w' => ∃ v', e = .returned ((fun s : ByteArray => .string s) x) ∧ Rd w' g B l' false v' ∧ Only g w w') :
  Calls Try.prog 114 #[.pointer (some ⟨g, 0, none⟩), .func (.func 115) #[.pointer (some ⟨g, 0, none⟩)] #[]] w fun e w' => ∃ v', e = .returned ((fun s : ByteArray => .string s) x) ∧ Rd w' g B l' false v' ∧ Only g w w' := by
 have hn := rdnone_any h
 go_enter_defers Try.func114, Try.ntmps114
 go_wp2_with (first
  | (go_at_call 104; refine hn.mono ?_; rintro e w' ⟨rfl, rfl⟩)
  | (go_at_call 115; refine hc.mono ?_; rintro e w1 ⟨v1, rfl, hr1, ho1⟩))
 refine leaves_cons (f := 118) (args := #[.pointer (some ⟨g, 0, none⟩)]) (by simp) (by simp [go_sem]) ?_
 refine (ends_idle g w1).mono ?_
 rintro e u' w2 ⟨rfl, rfl, rfl⟩
 exact ⟨_, results_tmp rfl _ _ _, _, rfl, hr1, ho1⟩
theorem mText_any {bad : Bool} (h : Rd w g B l bad v) : Calls Try.prog 100 #[.pointer (some ⟨g, 0, none⟩)] w (RPost (fun s : ByteArray => .string s) ⟨#[]⟩ w g B bad (rdText l)) := by
 have hmf : ∀ (fn : Fn) (first cap : Array Value) (w : World), (Instr.makeFunc fn first cap).run Try.prog w = .ok (.func fn first cap) w := fun _ _ _ _ => rfl
 cases bad with
 | true =>
  have hc := read_string_short h (((rdt_bad h).mono) (by rintro e w' ⟨rfl, rfl⟩; exact ⟨_, _, rfl, h, Kept.refl _ _⟩))
  go_enter Try.func100, Try.ntmps100
  go_wp2_with (go_at_call 114; refine hc.mono ?_; rintro e w1 ⟨l1, v1, rfl, hr1, ho1⟩)
  go_ret
  exact ⟨_, _, rfl, hr1, ho1⟩
 | false =>
  have ha := rdt_any h
  cases hr : rdText l with
  | none =>
   rw [hr] at ha
   have hc := read_string_short h ha
   clear hr ha
   go_enter Try.func100, Try.ntmps100
   go_wp2_with (go_at_call 114; refine hc.mono ?_; rintro e w1 ⟨l1, v1, rfl, hr1, ho1⟩)
   go_ret
   exact ⟨_, _, rfl, hr1, ho1⟩
  | some p =>
   obtain ⟨x, l'⟩ := p
   rw [hr] at ha
   have hc := read_string_fine h ha
   clear hr ha
   go_enter Try.func100, Try.ntmps100
   go_wp2_with (go_at_call 114; refine hc.mono ?_; rintro e w1 ⟨v1, rfl, hr1, ho1⟩)
   go_ret
   exact ⟨_, rfl, hr1, ho1⟩
/-- behind the panic: the deferred call sets bad, and the zero value is told -/
theorem read_bool_short {bad : Bool} (h : Rd w g B l bad v) (hc : Calls Try.prog 124 #[.pointer (some ⟨g, 0, none⟩)] w fun e w' => ∃ l' v', e = .panicked shortP ∧ Rd w' g B l' bad v' ∧ Only g w w') :
  Calls Try.prog 123 #[.pointer (some ⟨g, 0, none⟩), .func (.func 124) #[.pointer (some ⟨g, 0, none⟩)] #[]] w fun e w' => ∃ l' v', e = .returned (.bool false) ∧ Rd w' g B l' true v' ∧ Only g w w' := by
 have hn := rdnone_any h
 go_enter_defers Try.func123, Try.ntmps123
 go_wp2_with (first
  | (go_at_call 104; refine hn.mono ?_; rintro e w' ⟨rfl, rfl⟩)
  | (go_at_call 124; refine hc.mono ?_; rintro e w1 ⟨l1, v1, rfl, hr1, ho1⟩))
 refine leaves_cons (f := 118) (args := #[.pointer (some ⟨g, 0, none⟩)]) (by simp) (by simp [go_sem]) ?_
 refine (ends_short g w1 B l1 bad v1 hr1).mono ?_
 rintro e u' w2 ⟨rfl, rfl, hr2, ho2⟩
 simp [Leaves, settle, results, Try.results123, go_sem]
 exact ⟨⟨_, _, hr2⟩, Only.trans ho1 ho2⟩
theorem read_bool_fine {x : Bool} {l' : List UInt8} (h : Rd w g B l false v) (hc : Calls Try.prog 124 #[.pointer (some ⟨g, 0, none⟩)] w fun e w' => ∃ v', e = .returned ((fun b : Bool => .bool b) x) ∧ Rd w' g B l' false v' ∧ Only g w w') :
  Calls Try.prog 123 #[.pointer (some ⟨g, 0, none⟩), .func (.func 124) #[.pointer (some ⟨g, 0, none⟩)] #[]] w fun e w' => ∃ v', e = .returned ((fun b : Bool => .bool b) x) ∧ Rd w' g B l' false v' ∧ Only g w w' := by
 have hn := rdnone_any h
 go_enter_defers Try.func123, Try.ntmps123
 go_wp2_with (first
  | (go_at_call 104; refine hn.mono ?_; rintro e w' ⟨rfl, rfl⟩)
  | (go_at_call 124; refine hc.mono ?_; rintro e w1 ⟨v1, rfl, hr1, ho1⟩))
 refine leaves_cons (f := 118) (args := #[.pointer (some ⟨g, 0, none⟩)]) (by simp) (by simp [go_sem]) ?_
 refine (ends_idle g w1).mono ?_
 rintro e u' w2 ⟨rfl, rfl, rfl⟩
 exact ⟨_, results_tmp rfl _ _ _, _, rfl, hr1, ho1⟩
theorem mFlag_any {bad : Bool} (h : Rd w g B l bad v) : Calls Try.prog 116 #[.pointer (some ⟨g, 0, none⟩)] w (RPost (fun b : Bool => .bool b) false w g B bad (rdFlag l)) := by
 have hmf : ∀ (fn : Fn) (first cap : Array Value) (w : World), (Instr.makeFunc fn first cap).run Try.prog w = .ok (.func fn first cap) w := fun _ _ _ _ => rfl
 cases bad with
 | true =>
  have hc := read_bool_short h (((rdf_bad h).mono) (by rintro e w' ⟨rfl, rfl⟩; exact ⟨_, _, rfl, h, Kept.refl _ _⟩))
  go_enter Try.func116, Try.ntmps116
  go_wp2_with (go_at_call 123; refine hc.mono ?_; rintro e w1 ⟨l1, v1, rfl, hr1, ho1⟩)
  go_ret
  exact ⟨_, _, rfl, hr1, ho1⟩
 | false =>
  have ha := rdf_any h
  cases hr : rdFlag l with
  | none =>
   rw [hr] at ha
   have hc := read_bool_short h ha
   clear hr ha
   go_enter Try.func116, Try.ntmps116
   go_wp2_with (go_at_call 123; refine hc.mono ?_; rintro e w1 ⟨l1, v1, rfl, hr1, ho1⟩)
   go_ret
   exact ⟨_, _, rfl, hr1, ho1⟩
  | some p =>
   obtain ⟨x, l'⟩ := p
   rw [hr] at ha
   have hc := read_bool_fine h ha
   clear hr ha
   go_enter Try.func116, Try.ntmps116
   go_wp2_with (go_at_call 123; refine hc.mono ?_; rintro e w1 ⟨v1, rfl, hr1, ho1⟩)
   go_ret
   exact ⟨_, rfl, hr1, ho1⟩
end
end Go.Proofs.Ytnfpmobmfcgfnaa

/- THE WALKS OF blob.Reader's Left AND Done. -/
namespace Go.Proofs.Ytnfpmobmfcgfnaa
open Go.RowKit
section
variable {w : World} {g B : Nat} {v : Value} {l : List UInt8} {bad : Bool}
theorem mdone_any (h : Rd w g B l bad v) : Calls Try.prog 74 #[.pointer (some ⟨g, 0, none⟩)] w fun e w' => e = .returned (.int .i64 (if bad || decide (0 < l.length) then 10 else 0)) ∧ w = w' := by
 have hn := rdnone_any h
 have c0 := h.c0
 have c2 := h.c2
 obtain ⟨A, c, rfl, hc, hm, _⟩ := h.byt
 unfold maxLen at hm
 cases bad with
 | true =>
  go_enter Try.func74, Try.ntmps74
  go_wp2_with (go_at_call 104; refine hn.mono ?_; rintro e w' ⟨rfl, rfl⟩)
  go_ret
  exact ⟨rfl, rfl⟩
 | false =>
  by_cases hl : 0 < l.length
  ·rw [Bool.false_or, decide_eq_true hl]
   have d : (0 : Int) < (l.length : Int) := by omega
   go_enter Try.func74, Try.ntmps74
   go_wp2_with (go_at_call 104; refine hn.mono ?_; rintro e w' ⟨rfl, rfl⟩)
   go_ret
   exact ⟨rfl, rfl⟩
  ·rw [Bool.false_or, decide_eq_false hl]
   have d : decide ((0 : Int) < (l.length : Int)) = false := decide_eq_false (by omega)
   go_enter Try.func74, Try.ntmps74
   go_wp2_with (go_at_call 104; refine hn.mono ?_; rintro e w' ⟨rfl, rfl⟩)
   go_ret
   exact ⟨rfl, rfl⟩
end
end Go.Proofs.Ytnfpmobmfcgfnaa

