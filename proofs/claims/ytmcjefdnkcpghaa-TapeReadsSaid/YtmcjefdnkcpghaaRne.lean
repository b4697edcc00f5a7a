/- A SEQUENTIAL REGION IN A ROUND: the plain walk's word serves there too. -/
import Derived.Test.YtmcjefdnkcpghaaRnd
namespace Go.Proofs.Ytmcjefdnkcpghaa
open Go.RowKit
theorem wpListIn_round {P : Program} {ops : Array Oper} {Q : Exit → Act → World → Prop} {r n : Nat} (hQ : ¬ LetsOut Q) : ∀ (l : List Oper) (_hp : l.all plainOp = true) (a : Act) (w : World), wpList P ops Q l a w → wpListIn (Fence.wide.inRound r) n P ops Q l a w := by
  intro l
  induction l with
  | nil => exact fun _ _ _ h => h
  | cons o rest ih =>
    intro hp a w h
    rw [List.all_cons, Bool.and_eq_true] at hp
    unfold wpList at h
    unfold wpListIn
    split at h
    · rename_i hw
      rw [if_pos hw]
      rcases h with h | h
      · exact Oper.wpIn_mono (fun a w => ih hp.2 a w) (wp_round hp.1 h)
      · exact absurd h.2 hQ
    · rename_i hw
      rw [if_neg hw]
      exact ⟨fun _ _ => trivial, ih hp.2 _ _ h⟩
theorem wpIn_round_list {P : Program} {id : Nat} {l : List Oper} {Q : Exit → Act → World → Prop} {r n : Nat} {a : Act} {w : World} (hQ : ¬ LetsOut Q) (hp : l.all plainOp = true) (h : wpList P l.toArray Q l a w) : (Code.region id l.toArray false).wpIn (Fence.wide.inRound r) n P Q a w :=
  wpIn_region_lit (wpListIn_round hQ l hp a w h)
end Go.Proofs.Ytmcjefdnkcpghaa
