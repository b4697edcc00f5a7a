/- NOBODY: writers and readers that no call made. -/
import Derived.Test.YtnmiodjkomgfcaaRdl
namespace Go.Proofs.Ytnmiodjkomgfcaa
open Go.RowKit
/-- a pointer that no call made: nil, or one at a struct that was never 'made' -/
def Nob (w : World) (v : Value) : Prop := v = .pointer none ∨ ∃ g, v = .pointer (some ⟨g, 0, none⟩) ∧ w.cell? ⟨g, 1, none⟩ = some (.bool false)
section
variable {w : World} {v : Value}
theorem wnone_nob (h : Nob w v) : Calls Try.prog 31 #[v] w fun e w' => e = .returned (.bool true) ∧ w = w' := by
  rcases h with rfl | ⟨g, rfl, hc⟩
  · go_enter Try.func31, Try.ntmps31
    go_wp2
    go_ret
    exact ⟨rfl, rfl⟩
  · go_enter Try.func31, Try.ntmps31
    go_wp2
    go_ret
    exact ⟨rfl, rfl⟩
theorem rnone_nob (h : Nob w v) : Calls Try.prog 38 #[v] w fun e w' => e = .returned (.bool true) ∧ w = w' := by
  rcases h with rfl | ⟨g, rfl, hc⟩
  · go_enter Try.func38, Try.ntmps38
    go_wp2
    go_ret
    exact ⟨rfl, rfl⟩
  · go_enter Try.func38, Try.ntmps38
    go_wp2
    go_ret
    exact ⟨rfl, rfl⟩
theorem num_nob (n : Int) (h : Nob w v) : Calls Try.prog 25 #[v, .int .i64 n] w fun e w' => e = .returned (.pointer none) ∧ w = w' := by
  go_enter Try.func25, Try.ntmps25
  go_wp2_with (go_at_call 31; refine (wnone_nob h).mono ?_; rintro e w' ⟨rfl, rfl⟩)
  go_ret
  exact ⟨rfl, rfl⟩
theorem text_nob (s : ByteArray) (h : Nob w v) : Calls Try.prog 26 #[v, .string s] w fun e w' => e = .returned (.pointer none) ∧ w = w' := by
  go_enter Try.func26, Try.ntmps26
  go_wp2_with (go_at_call 31; refine (wnone_nob h).mono ?_; rintro e w' ⟨rfl, rfl⟩)
  go_ret
  exact ⟨rfl, rfl⟩
theorem flag_nob (b : Bool) (h : Nob w v) : Calls Try.prog 27 #[v, .bool b] w fun e w' => e = .returned (.pointer none) ∧ w = w' := by
  go_enter Try.func27, Try.ntmps27
  go_wp2_with (go_at_call 31; refine (wnone_nob h).mono ?_; rintro e w' ⟨rfl, rfl⟩)
  go_ret
  exact ⟨rfl, rfl⟩
theorem bytes_nob (h : Nob w v) : Calls Try.prog 13 #[v] w fun e w' => e = .returned (.tuple #[.slice none 0 0, .int .i64 1]) ∧ w = w' := by
  go_enter Try.func13, Try.ntmps13
  go_wp2_with (go_at_call 31; refine (wnone_nob h).mono ?_; rintro e w' ⟨rfl, rfl⟩)
  go_ret2
  exact ⟨rfl, rfl⟩
theorem read_int_nob (f : Value) (h : Nob w v) : Calls Try.prog 32 #[v, f] w fun e w' => e = .returned (.int .i64 0) ∧ w = w' := by
  go_enter_defers Try.func32, Try.ntmps32
  go_wp2_with (go_at_call 38; refine (rnone_nob h).mono ?_; rintro e w' ⟨rfl, rfl⟩)
  exact ⟨_, results_tmp rfl _ _ _, rfl, rfl⟩
theorem read_string_nob (f : Value) (h : Nob w v) : Calls Try.prog 34 #[v, f] w fun e w' => e = .returned (.string ⟨#[]⟩) ∧ w = w' := by
  go_enter_defers Try.func34, Try.ntmps34
  go_wp2_with (go_at_call 38; refine (rnone_nob h).mono ?_; rintro e w' ⟨rfl, rfl⟩)
  exact ⟨_, results_tmp rfl _ _ _, rfl, rfl⟩
theorem read_bool_nob (f : Value) (h : Nob w v) : Calls Try.prog 36 #[v, f] w fun e w' => e = .returned (.bool false) ∧ w = w' := by
  go_enter_defers Try.func36, Try.ntmps36
  go_wp2_with (go_at_call 38; refine (rnone_nob h).mono ?_; rintro e w' ⟨rfl, rfl⟩)
  exact ⟨_, results_tmp rfl _ _ _, rfl, rfl⟩
end
section
variable {w : World} {v : Value}
theorem mNum_nob (h : Nob w v) : Calls Try.prog 15 #[v] w fun e w' => e = .returned (.int .i64 0) ∧ w = w' := by
  have hmf : ∀ (fn : Fn) (first cap : Array Value) (w : World), (Instr.makeFunc fn first cap).run Try.prog w = .ok (.func fn first cap) w := fun _ _ _ _ => rfl
  go_enter Try.func15, Try.ntmps15
  go_wp2_with (go_at_call 32; refine (read_int_nob _ h).mono ?_; rintro e w' ⟨rfl, rfl⟩)
  go_ret
  exact ⟨rfl, rfl⟩
theorem mText_nob (h : Nob w v) : Calls Try.prog 17 #[v] w fun e w' => e = .returned (.string ⟨#[]⟩) ∧ w = w' := by
  have hmf : ∀ (fn : Fn) (first cap : Array Value) (w : World), (Instr.makeFunc fn first cap).run Try.prog w = .ok (.func fn first cap) w := fun _ _ _ _ => rfl
  go_enter Try.func17, Try.ntmps17
  go_wp2_with (go_at_call 34; refine (read_string_nob _ h).mono ?_; rintro e w' ⟨rfl, rfl⟩)
  go_ret
  exact ⟨rfl, rfl⟩
theorem mFlag_nob (h : Nob w v) : Calls Try.prog 19 #[v] w fun e w' => e = .returned (.bool false) ∧ w = w' := by
  have hmf : ∀ (fn : Fn) (first cap : Array Value) (w : World), (Instr.makeFunc fn first cap).run Try.prog w = .ok (.func fn first cap) w := fun _ _ _ _ => rfl
  go_enter Try.func19, Try.ntmps19
  go_wp2_with (go_at_call 36; refine (read_bool_nob _ h).mono ?_; rintro e w' ⟨rfl, rfl⟩)
  go_ret
  exact ⟨rfl, rfl⟩
theorem mleft_nob (h : Nob w v) : Calls Try.prog 21 #[v] w fun e w' => e = .returned (.int .i64 0) ∧ w = w' := by
  go_enter Try.func21, Try.ntmps21
  go_wp2_with (go_at_call 38; refine (rnone_nob h).mono ?_; rintro e w' ⟨rfl, rfl⟩)
  go_ret
  exact ⟨rfl, rfl⟩
theorem mdone_nob (h : Nob w v) : Calls Try.prog 23 #[v] w fun e w' => e = .returned (.int .i64 1) ∧ w = w' := by
  go_enter Try.func23, Try.ntmps23
  go_wp2_with (go_at_call 38; refine (rnone_nob h).mono ?_; rintro e w' ⟨rfl, rfl⟩)
  go_ret
  exact ⟨rfl, rfl⟩
end
end Go.Proofs.Ytnmiodjkomgfcaa
