/- THE WALKS OF blob.read AT ITS THREE TYPES, AND OF Num, Text, Flag (printed by genread.py). -/
import Derived.Test.YtnmiodjkomgfcaaRdt
namespace Go.Proofs.Ytnmiodjkomgfcaa
open Go.RowKit
section
variable {w : World} {g B : Nat} {v : Value} {l : List UInt8}
/-- behind the panic: the deferred call sets bad, and the zero value is told -/
theorem read_int_short {bad : Bool} (h : Rd w g B l bad v) (hc : Calls Try.prog 33 #[.pointer (some ⟨g, 0, none⟩)] w fun e w' => ∃ l' v', e = .panicked shortP ∧ Rd w' g B l' bad v' ∧ Only g w w') :
    Calls Try.prog 32 #[.pointer (some ⟨g, 0, none⟩), .func (.func 33) #[.pointer (some ⟨g, 0, none⟩)] #[]] w fun e w' => ∃ l' v', e = .returned (.int .i64 0) ∧ Rd w' g B l' true v' ∧ Only g w w' := by
  have hn := rdnone_any h
  go_enter_defers Try.func32, Try.ntmps32
  go_wp2_with (first
    | (go_at_call 38; refine hn.mono ?_; rintro e w' ⟨rfl, rfl⟩)
    | (go_at_call 33; refine hc.mono ?_; rintro e w1 ⟨l1, v1, rfl, hr1, ho1⟩))
  refine leaves_cons (f := 40) (args := #[.pointer (some ⟨g, 0, none⟩)]) (by simp) (by simp [go_sem]) ?_
  refine (ends_short g w1 B l1 bad v1 hr1).mono ?_
  rintro e u' w2 ⟨rfl, rfl, hr2, ho2⟩
  simp [Leaves, settle, results, Try.results32, go_sem]
  exact ⟨⟨_, _, hr2⟩, Only.trans ho1 ho2⟩
theorem read_int_fine {x : Int} {l' : List UInt8} (h : Rd w g B l false v) (hc : Calls Try.prog 33 #[.pointer (some ⟨g, 0, none⟩)] w fun e w' => ∃ v', e = .returned ((fun n : Int => .int .i64 n) x) ∧ Rd w' g B l' false v' ∧ Only g w w') :
    Calls Try.prog 32 #[.pointer (some ⟨g, 0, none⟩), .func (.func 33) #[.pointer (some ⟨g, 0, none⟩)] #[]] w fun e w' => ∃ v', e = .returned ((fun n : Int => .int .i64 n) x) ∧ Rd w' g B l' false v' ∧ Only g w w' := by
  have hn := rdnone_any h
  go_enter_defers Try.func32, Try.ntmps32
  go_wp2_with (first
    | (go_at_call 38; refine hn.mono ?_; rintro e w' ⟨rfl, rfl⟩)
    | (go_at_call 33; refine hc.mono ?_; rintro e w1 ⟨v1, rfl, hr1, ho1⟩))
  refine leaves_cons (f := 40) (args := #[.pointer (some ⟨g, 0, none⟩)]) (by simp) (by simp [go_sem]) ?_
  refine (ends_idle g w1).mono ?_
  rintro e u' w2 ⟨rfl, rfl, rfl⟩
  exact ⟨_, results_tmp rfl _ _ _, _, rfl, hr1, ho1⟩
theorem mNum_any {bad : Bool} (h : Rd w g B l bad v) : Calls Try.prog 15 #[.pointer (some ⟨g, 0, none⟩)] w (RPost (fun n : Int => .int .i64 n) 0 w g B bad (rdNum l)) := by
  have hmf : ∀ (fn : Fn) (first cap : Array Value) (w : World), (Instr.makeFunc fn first cap).run Try.prog w = .ok (.func fn first cap) w := fun _ _ _ _ => rfl
  cases bad with
  | true =>
    have hc := read_int_short h (((rdn_bad h).mono) (by rintro e w' ⟨rfl, rfl⟩; exact ⟨_, _, rfl, h, Kept.refl _ _⟩))
    go_enter Try.func15, Try.ntmps15
    go_wp2_with (go_at_call 32; refine hc.mono ?_; rintro e w1 ⟨l1, v1, rfl, hr1, ho1⟩)
    go_ret
    exact ⟨_, _, rfl, hr1, ho1⟩
  | false =>
    have ha := rdn_any h
    cases hr : rdNum l with
    | none =>
      rw [hr] at ha
      have hc := read_int_short h ha
      clear hr ha
      go_enter Try.func15, Try.ntmps15
      go_wp2_with (go_at_call 32; refine hc.mono ?_; rintro e w1 ⟨l1, v1, rfl, hr1, ho1⟩)
      go_ret
      exact ⟨_, _, rfl, hr1, ho1⟩
    | some p =>
      obtain ⟨x, l'⟩ := p
      rw [hr] at ha
      have hc := read_int_fine h ha
      clear hr ha
      go_enter Try.func15, Try.ntmps15
      go_wp2_with (go_at_call 32; refine hc.mono ?_; rintro e w1 ⟨v1, rfl, hr1, ho1⟩)
      go_ret
      exact ⟨_, rfl, hr1, ho1⟩
/-- behind the panic: the deferred call sets bad, and the zero value is told -/
theorem read_string_short {bad : Bool} (h : Rd w g B l bad v) (hc : Calls Try.prog 35 #[.pointer (some ⟨g, 0, none⟩)] w fun e w' => ∃ l' v', e = .panicked shortP ∧ Rd w' g B l' bad v' ∧ Only g w w') :
    Calls Try.prog 34 #[.pointer (some ⟨g, 0, none⟩), .func (.func 35) #[.pointer (some ⟨g, 0, none⟩)] #[]] w fun e w' => ∃ l' v', e = .returned (.string ⟨#[]⟩) ∧ Rd w' g B l' true v' ∧ Only g w w' := by
  have hn := rdnone_any h
  go_enter_defers Try.func34, Try.ntmps34
  go_wp2_with (first
    | (go_at_call 38; refine hn.mono ?_; rintro e w' ⟨rfl, rfl⟩)
    | (go_at_call 35; refine hc.mono ?_; rintro e w1 ⟨l1, v1, rfl, hr1, ho1⟩))
  refine leaves_cons (f := 40) (args := #[.pointer (some ⟨g, 0, none⟩)]) (by simp) (by simp [go_sem]) ?_
  refine (ends_short g w1 B l1 bad v1 hr1).mono ?_
  rintro e u' w2 ⟨rfl, rfl, hr2, ho2⟩
  simp [Leaves, settle, results, Try.results34, go_sem]
  exact ⟨⟨_, _, hr2⟩, Only.trans ho1 ho2⟩
theorem read_string_fine {x : ByteArray} {l' : List UInt8} (h : Rd w g B l false v) (hc : Calls Try.prog 35 #[.pointer (some ⟨g, 0, none⟩)] w fun e w' => ∃ v', e = .returned ((fun s : ByteArray => .string s) x) ∧ Rd w' g B l' false v' ∧ Only g w w') :
    Calls Try.prog 34 #[.pointer (some ⟨g, 0, none⟩), .func (.func 35) #[.pointer (some ⟨g, 0, none⟩)] #[]] w fun e w' => ∃ v', e = .returned ((fun s : ByteArray => .string s) x) ∧ Rd w' g B l' false v' ∧ Only g w w' := by
  have hn := rdnone_any h
  go_enter_defers Try.func34, Try.ntmps34
  go_wp2_with (first
    | (go_at_call 38; refine hn.mono ?_; rintro e w' ⟨rfl, rfl⟩)
    | (go_at_call 35; refine hc.mono ?_; rintro e w1 ⟨v1, rfl, hr1, ho1⟩))
  refine leaves_cons (f := 40) (args := #[.pointer (some ⟨g, 0, none⟩)]) (by simp) (by simp [go_sem]) ?_
  refine (ends_idle g w1).mono ?_
  rintro e u' w2 ⟨rfl, rfl, rfl⟩
  exact ⟨_, results_tmp rfl _ _ _, _, rfl, hr1, ho1⟩
theorem mText_any {bad : Bool} (h : Rd w g B l bad v) : Calls Try.prog 17 #[.pointer (some ⟨g, 0, none⟩)] w (RPost (fun s : ByteArray => .string s) ⟨#[]⟩ w g B bad (rdText l)) := by
  have hmf : ∀ (fn : Fn) (first cap : Array Value) (w : World), (Instr.makeFunc fn first cap).run Try.prog w = .ok (.func fn first cap) w := fun _ _ _ _ => rfl
  cases bad with
  | true =>
    have hc := read_string_short h (((rdt_bad h).mono) (by rintro e w' ⟨rfl, rfl⟩; exact ⟨_, _, rfl, h, Kept.refl _ _⟩))
    go_enter Try.func17, Try.ntmps17
    go_wp2_with (go_at_call 34; refine hc.mono ?_; rintro e w1 ⟨l1, v1, rfl, hr1, ho1⟩)
    go_ret
    exact ⟨_, _, rfl, hr1, ho1⟩
  | false =>
    have ha := rdt_any h
    cases hr : rdText l with
    | none =>
      rw [hr] at ha
      have hc := read_string_short h ha
      clear hr ha
      go_enter Try.func17, Try.ntmps17
      go_wp2_with (go_at_call 34; refine hc.mono ?_; rintro e w1 ⟨l1, v1, rfl, hr1, ho1⟩)
      go_ret
      exact ⟨_, _, rfl, hr1, ho1⟩
    | some p =>
      obtain ⟨x, l'⟩ := p
      rw [hr] at ha
      have hc := read_string_fine h ha
      clear hr ha
      go_enter Try.func17, Try.ntmps17
      go_wp2_with (go_at_call 34; refine hc.mono ?_; rintro e w1 ⟨v1, rfl, hr1, ho1⟩)
      go_ret
      exact ⟨_, rfl, hr1, ho1⟩
/-- behind the panic: the deferred call sets bad, and the zero value is told -/
theorem read_bool_short {bad : Bool} (h : Rd w g B l bad v) (hc : Calls Try.prog 37 #[.pointer (some ⟨g, 0, none⟩)] w fun e w' => ∃ l' v', e = .panicked shortP ∧ Rd w' g B l' bad v' ∧ Only g w w') :
    Calls Try.prog 36 #[.pointer (some ⟨g, 0, none⟩), .func (.func 37) #[.pointer (some ⟨g, 0, none⟩)] #[]] w fun e w' => ∃ l' v', e = .returned (.bool false) ∧ Rd w' g B l' true v' ∧ Only g w w' := by
  have hn := rdnone_any h
  go_enter_defers Try.func36, Try.ntmps36
  go_wp2_with (first
    | (go_at_call 38; refine hn.mono ?_; rintro e w' ⟨rfl, rfl⟩)
    | (go_at_call 37; refine hc.mono ?_; rintro e w1 ⟨l1, v1, rfl, hr1, ho1⟩))
  refine leaves_cons (f := 40) (args := #[.pointer (some ⟨g, 0, none⟩)]) (by simp) (by simp [go_sem]) ?_
  refine (ends_short g w1 B l1 bad v1 hr1).mono ?_
  rintro e u' w2 ⟨rfl, rfl, hr2, ho2⟩
  simp [Leaves, settle, results, Try.results36, go_sem]
  exact ⟨⟨_, _, hr2⟩, Only.trans ho1 ho2⟩
theorem read_bool_fine {x : Bool} {l' : List UInt8} (h : Rd w g B l false v) (hc : Calls Try.prog 37 #[.pointer (some ⟨g, 0, none⟩)] w fun e w' => ∃ v', e = .returned ((fun b : Bool => .bool b) x) ∧ Rd w' g B l' false v' ∧ Only g w w') :
    Calls Try.prog 36 #[.pointer (some ⟨g, 0, none⟩), .func (.func 37) #[.pointer (some ⟨g, 0, none⟩)] #[]] w fun e w' => ∃ v', e = .returned ((fun b : Bool => .bool b) x) ∧ Rd w' g B l' false v' ∧ Only g w w' := by
  have hn := rdnone_any h
  go_enter_defers Try.func36, Try.ntmps36
  go_wp2_with (first
    | (go_at_call 38; refine hn.mono ?_; rintro e w' ⟨rfl, rfl⟩)
    | (go_at_call 37; refine hc.mono ?_; rintro e w1 ⟨v1, rfl, hr1, ho1⟩))
  refine leaves_cons (f := 40) (args := #[.pointer (some ⟨g, 0, none⟩)]) (by simp) (by simp [go_sem]) ?_
  refine (ends_idle g w1).mono ?_
  rintro e u' w2 ⟨rfl, rfl, rfl⟩
  exact ⟨_, results_tmp rfl _ _ _, _, rfl, hr1, ho1⟩
theorem mFlag_any {bad : Bool} (h : Rd w g B l bad v) : Calls Try.prog 19 #[.pointer (some ⟨g, 0, none⟩)] w (RPost (fun b : Bool => .bool b) false w g B bad (rdFlag l)) := by
  have hmf : ∀ (fn : Fn) (first cap : Array Value) (w : World), (Instr.makeFunc fn first cap).run Try.prog w = .ok (.func fn first cap) w := fun _ _ _ _ => rfl
  cases bad with
  | true =>
    have hc := read_bool_short h (((rdf_bad h).mono) (by rintro e w' ⟨rfl, rfl⟩; exact ⟨_, _, rfl, h, Kept.refl _ _⟩))
    go_enter Try.func19, Try.ntmps19
    go_wp2_with (go_at_call 36; refine hc.mono ?_; rintro e w1 ⟨l1, v1, rfl, hr1, ho1⟩)
    go_ret
    exact ⟨_, _, rfl, hr1, ho1⟩
  | false =>
    have ha := rdf_any h
    cases hr : rdFlag l with
    | none =>
      rw [hr] at ha
      have hc := read_bool_short h ha
      clear hr ha
      go_enter Try.func19, Try.ntmps19
      go_wp2_with (go_at_call 36; refine hc.mono ?_; rintro e w1 ⟨l1, v1, rfl, hr1, ho1⟩)
      go_ret
      exact ⟨_, _, rfl, hr1, ho1⟩
    | some p =>
      obtain ⟨x, l'⟩ := p
      rw [hr] at ha
      have hc := read_bool_fine h ha
      clear hr ha
      go_enter Try.func19, Try.ntmps19
      go_wp2_with (go_at_call 36; refine hc.mono ?_; rintro e w1 ⟨v1, rfl, hr1, ho1⟩)
      go_ret
      exact ⟨_, rfl, hr1, ho1⟩
end
end Go.Proofs.Ytnmiodjkomgfcaa
