/-
  No cell of these rows narrows 'for every input' (looked for: loops, veiled, ifaces, maps, wideKeys, modest, calm, conditions, laid).
  DERIVED. THE GIVEN ROWS OF THIS SEAT. 3 by the template 'for every input the law returns true; each argument reads behind the call as it read before'; 0 by the template 'total and deterministic' (their statements: YtljaglppldmgoaaTotals.lean).
  GIVEN WITH THE SEED: the statements are not yours to turn. If you find one false, say at which input.
  Laid BY PROGRAM, IN A SANDBOX (cutbox-rows.mjs): the forced cells as the released guide's own fill.sh prints them over the translation 7eecd81f7598c4f1… (all of the seat's roots in one cut). By AI agents, Wed Nov 11 2026. No macro, syntax, notation, axiom, sorry.
-/
import Derived.Test.YtljaglppldmgoaaChecked
import GoSem.Claim
import GoSem.ClaimJoined
import GoSem.ClaimMapViews
import Derived.JoinedTies
import Derived.KernelRfl
namespace Go.Proofs.Ytljaglppldmgoaa
/- THE CELL 'sum', in the pinned program and in every row, IS THE sha256 OF THE DUMP (.gsa) THAT YtljaglppldmgoaaProg.lean LOADS. Nothing in Lean hashes anything: it is a label: what it is worth is what the hold of that sum in a sandbox is worth. -/
noncomputable def Try.pinned : Pinned := { name := "ytljaglppldmgoaa", sum := "7eecd81f7598c4f166ec137382b8ef372ece5704c2a01e8f46ffaf4d5932ad48", checked := Try.checked }
namespace Rows
def none {H : Type} : Left H := { results := [], args := [] }

/-- 'octroilaw07.VatidNumbers': WHATEVER THE INPUT: true; the input reads as it did. -/
def vatidNumbersSpec : ChangeSpec := { name := "vatidNumbers", fn := fun _ => fun
  | [d1, d2] => { results := [.lit (.bool true)], args := [d1, d2] }
  | _ => none }
def vatidNumbersRow : OpenClaim := { program := "ytljaglppldmgoaa", sum := "7eecd81f7598c4f166ec137382b8ef372ece5704c2a01e8f46ffaf4d5932ad48", func := "octroi/octroilaw07.VatidNumbers", spec := "vatidNumbers", inPlace := ["internal/bytealg.IndexByteString"], unfollowed := true, recurses := true, apart := false }
def VatidNumbersSaid : Prop := vatidNumbersRow.holds Try.pinned (OpenSpec.ofChange vatidNumbersSpec)

/-- ITS FALSE NEIGHBOUR: 'it returns false'. Refute it at one input. -/
def vatidNumbersWrong : ChangeSpec := { name := "vatidNumbers", fn := fun _ => fun
  | [d1, d2] => { results := [.lit (.bool false)], args := [d1, d2] }
  | _ => none }
def VatidNumbersWrongFalsely : Prop := vatidNumbersRow.holds Try.pinned (OpenSpec.ofChange vatidNumbersWrong)

/-- 'octroilaw07.VatidCleans': WHATEVER THE INPUT: true; the input reads as it did. -/
def vatidCleansSpec : ChangeSpec := { name := "vatidCleans", fn := fun _ => fun
  | [d] => { results := [.lit (.bool true)], args := [d] }
  | _ => none }
def vatidCleansRow : OpenClaim := { program := "ytljaglppldmgoaa", sum := "7eecd81f7598c4f166ec137382b8ef372ece5704c2a01e8f46ffaf4d5932ad48", func := "octroi/octroilaw07.VatidCleans", spec := "vatidCleans", inPlace := ["internal/bytealg.IndexByteString"], unfollowed := true, recurses := true, apart := false }
def VatidCleansSaid : Prop := vatidCleansRow.holds Try.pinned (OpenSpec.ofChange vatidCleansSpec)

/-- ITS FALSE NEIGHBOUR: 'it returns false'. Refute it at one input. -/
def vatidCleansWrong : ChangeSpec := { name := "vatidCleans", fn := fun _ => fun
  | [d] => { results := [.lit (.bool false)], args := [d] }
  | _ => none }
def VatidCleansWrongFalsely : Prop := vatidCleansRow.holds Try.pinned (OpenSpec.ofChange vatidCleansWrong)

/-- 'octroilaw07.VatidCountries': WHATEVER THE INPUT: true; the input reads as it did. -/
def vatidCountriesSpec : ChangeSpec := { name := "vatidCountries", fn := fun _ => fun
  | [d1, d2] => { results := [.lit (.bool true)], args := [d1, d2] }
  | _ => none }
def vatidCountriesRow : OpenClaim := { program := "ytljaglppldmgoaa", sum := "7eecd81f7598c4f166ec137382b8ef372ece5704c2a01e8f46ffaf4d5932ad48", func := "octroi/octroilaw07.VatidCountries", spec := "vatidCountries", inPlace := ["internal/bytealg.IndexByteString"], unfollowed := true, recurses := true, apart := false }
def VatidCountriesSaid : Prop := vatidCountriesRow.holds Try.pinned (OpenSpec.ofChange vatidCountriesSpec)

/-- ITS FALSE NEIGHBOUR: 'it returns false'. Refute it at one input. -/
def vatidCountriesWrong : ChangeSpec := { name := "vatidCountries", fn := fun _ => fun
  | [d1, d2] => { results := [.lit (.bool false)], args := [d1, d2] }
  | _ => none }
def VatidCountriesWrongFalsely : Prop := vatidCountriesRow.holds Try.pinned (OpenSpec.ofChange vatidCountriesWrong)

/- THE SECOND FORM. 'bulk': how many values and letters a reading holds, each counted each time it is reached (what is shared counts as often as it is met; a slice's spare places count too). A statement '..UptoSaid' is the law's where the arguments, and the package variables that the reading takes, are together of bulk at most 1048576: NARROWER than '..Said'. Prove '..Said' where nothing that the law and all that it calls make is longer than what came in: it says more and counts as full. Else prove '..UptoSaid'. A law counts once. -/
mutual
def uptoBulk {H : Type} : DataW H → Nat
  | .lit (.string bytes) => bytes.length + 1
  | .lit _ => 1
  | .nil => 1
  | .ptr d => uptoBulk d + 1
  | .slice elems spare => uptoBulkAll elems + uptoBulkAll spare + 1
  | .agg parts => uptoBulkAll parts + 1
  | .iface _ d => uptoBulk d + 1
  | .map entries => uptoBulkEntries entries + 1
  | .held _ => 1
def uptoBulkAll {H : Type} : List (DataW H) → Nat
  | [] => 0
  | d :: r => uptoBulk d + uptoBulkAll r
def uptoBulkEntries {H : Type} : List (Lit × DataW H) → Nat
  | [] => 0
  | x :: r => uptoBulkEntry x + uptoBulkEntries r
def uptoBulkEntry {H : Type} : Lit × DataW H → Nat
  | (.string bytes, d) => bytes.length + uptoBulk d + 1
  | (_, d) => uptoBulk d + 1
 end
def uptoSmall : (H : Type) → List (DataW H) → Bool := fun _ ds => decide (uptoBulkAll ds ≤ 1048576)
def OpenSpec.upto (s : _root_.Go.ChangeSpec) : _root_.Go.OpenSpec := { _root_.Go.OpenSpec.ofChange s with cond := some uptoSmall }

/-- 'octroilaw07.VatidNumbers', WHERE WHAT IT READS IS OF BULK AT MOST 1048576: true; the input reads as it did. -/
def vatidNumbersUptoRow : OpenClaim := { program := "ytljaglppldmgoaa", sum := "7eecd81f7598c4f166ec137382b8ef372ece5704c2a01e8f46ffaf4d5932ad48", func := "octroi/octroilaw07.VatidNumbers", spec := "vatidNumbers", inPlace := ["internal/bytealg.IndexByteString"], unfollowed := true, recurses := true, apart := false, narrowed := true }
def VatidNumbersUptoSaid : Prop := vatidNumbersUptoRow.holds Try.pinned (OpenSpec.upto vatidNumbersSpec)

/-- 'octroilaw07.VatidCleans', WHERE WHAT IT READS IS OF BULK AT MOST 1048576: true; the input reads as it did. -/
def vatidCleansUptoRow : OpenClaim := { program := "ytljaglppldmgoaa", sum := "7eecd81f7598c4f166ec137382b8ef372ece5704c2a01e8f46ffaf4d5932ad48", func := "octroi/octroilaw07.VatidCleans", spec := "vatidCleans", inPlace := ["internal/bytealg.IndexByteString"], unfollowed := true, recurses := true, apart := false, narrowed := true }
def VatidCleansUptoSaid : Prop := vatidCleansUptoRow.holds Try.pinned (OpenSpec.upto vatidCleansSpec)

/-- 'octroilaw07.VatidCountries', WHERE WHAT IT READS IS OF BULK AT MOST 1048576: true; the input reads as it did. -/
def vatidCountriesUptoRow : OpenClaim := { program := "ytljaglppldmgoaa", sum := "7eecd81f7598c4f166ec137382b8ef372ece5704c2a01e8f46ffaf4d5932ad48", func := "octroi/octroilaw07.VatidCountries", spec := "vatidCountries", inPlace := ["internal/bytealg.IndexByteString"], unfollowed := true, recurses := true, apart := false, narrowed := true }
def VatidCountriesUptoSaid : Prop := vatidCountriesUptoRow.holds Try.pinned (OpenSpec.upto vatidCountriesSpec)

end Rows
end Go.Proofs.Ytljaglppldmgoaa
