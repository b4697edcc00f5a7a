/- BEHIND A DRAWN REGION WHOSE OPERATIONS ALL HAVE KNOWN VALUES: the frame, written out. -/
import Derived.Test.YtnfpmobmfcgfnaaGrow
namespace Go.Proofs.Ytnfpmobmfcgfnaa
open Go.RowKit
/-- is every slot free, or among these? -/
def covB (ops : Array Oper) (n : Nat) (vals : List (Nat × Value)) : Bool := (List.range n).all fun t => freeB ops t || (vals.lookup t).isSome
theorem grow_frame {ops : Array Oper} {a0 a : Act} {w0 w : World} (hc : GrowCtx ops a0 w0 a w) (vals : List (Nat × Value)) (hcov : covB ops a0.tmps.size vals = true)
    (hv : ∀ p ∈ vals, a.tmps[p.1]?.getD undef = p.2) :
    a = ⟨((List.range a0.tmps.size).map fun t => (vals.lookup t).getD (a0.tmps[t]?.getD undef)).toArray, a0.defers⟩ := by
  obtain ⟨tmps, defers⟩ := a
  have h1 := hc.defers
  have h2 := hc.size
  simp only at h1 h2
  subst h1
  congr 1
  apply Array.ext
  · simp [h2]
  · intro i hi1 hi2
    simp only [List.getElem_toArray, List.getElem_map, List.getElem_range]
    have hi : i < a0.tmps.size := by rw [← h2]; exact hi1
    have hs := hc.same i
    simp only [Array.getElem?_eq_getElem hi1, Option.getD_some] at hs
    cases hl : vals.lookup i with
    | none =>
      have := List.all_eq_true.1 hcov i (List.mem_range.2 hi)
      rw [hl] at this
      simp only [Option.isSome_none, Bool.or_false] at this
      exact hs this
    | some v =>
      have hm : ∀ (l : List (Nat × Value)), l.lookup i = some v → (i, v) ∈ l := by
        intro l
        induction l with
        | nil => intro h; cases h
        | cons p t ih =>
          intro h
          rw [List.lookup_cons] at h
          split at h
          · rename_i he
            rw [beq_iff_eq] at he
            cases h
            subst he
            simp
          · exact List.mem_cons_of_mem _ (ih h)
      have := hv _ (hm vals hl)
      simp only [Array.getElem?_eq_getElem hi1, Option.getD_some] at this
      exact this
end Go.Proofs.Ytnfpmobmfcgfnaa
