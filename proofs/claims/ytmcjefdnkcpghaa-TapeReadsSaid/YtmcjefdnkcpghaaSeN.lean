/- THE WALKS OF sector's All. -/
import Derived.Test.YtmcjefdnkcpghaaSeM
import Derived.Test.YtmcjefdnkcpghaaRng
import Derived.RangeFuncBound
import Derived.RangeFuncLeaves
import Derived.Shelf.Abstract
import Derived.WalkKit
import Derived.OwnWalkIn
import Derived.TacticsInMore
import Derived.LoopNIn
import Derived.LoopIn
namespace Go.Proofs.Ytmcjefdnkcpghaa
open Go.RowKit Go.Shelf
attribute [local go_sem] Oper.semAt_some
def encA (x : Nat × Value) : Array Value := #[.int .i64 (x.1 : Int), x.2]
def argA (d : Dv) (pre : List (Nat × Value)) (x : Nat × Value) (A : World) : Prop := x.1 = pre.length ∧ x.1 < d.n ∧ Byt A A.heap.size x.2 (page d.L x.1)
set_option maxRecDepth 100000 in
set_option maxHeartbeats 2000000 in
theorem all1_seq {w : World} {Z : Nat → Prop} {g : Nat} {d : Dv} (h : Dk w Z g d) (n : Nat) (hn : 1 ≤ n) {Bp : Nat} {T : Nat → Prop} (hBp : w.cell? ⟨Bp, 0, none⟩ = some (.pointer (some ⟨g, 0, none⟩))) (hBn : T Bp) (hhi : ∀ b, Z b → T b) :
    SeqK Fence.wide n Try.prog 92 #[.pointer (some ⟨Bp, 0, none⟩)] encA (fun _ => True) T (argA d) (fun xs => xs.length = d.n) (fun _ => True) w := by
  intro l J Jx W hW hJ hJx hY h0
  have hd := h.below hW
  have hno := snone_any hd
  have hgn : T g := hhi g h.gz
  obtain ⟨P, fv, c, JJ, hcap, h1, h2, hP1, _⟩ := hd.st
  have hPn : T P := hhi P hP1
  have hBl := World.block_lt_of_cell? w _ hBp
  have hBs := hW.size
  have hok := h.ok
  have b0 : W.cell? ⟨Bp, 0, none⟩ = some (.pointer (some ⟨g, 0, none⟩)) := (hW.cell (p := ⟨Bp, 0, none⟩) hBl).trans hBp
  have c0 : W.cell? ⟨g, 0, none⟩ = some (.slice (some ⟨P, 0, none⟩) d.n c) := by simp [World.cell?, h1]
  have hn2 := hok.n2
  unfold argA at hY
  generalize hdn : d.n = N at *
  have HN := Lib.hid hdn
  clear h hd
  refine callsIn_of_wp Try.func92 rfl trivial ?_ rfl
  simp only [Try.ntmps92, List.size_toArray, List.length_cons, List.length_nil, Nat.reduceAdd, Nat.reduceSub, Array.replicate_succ, Array.replicate_zero, List.push_toArray, List.append_toArray, List.nil_append, List.cons_append]
  gi_wp2_with (refine ⟨trivial, ?_⟩; gi_at_call 90; refine (callsIn_wide.2 hno).mono ?_; rintro e w' ⟨rfl, rfl⟩)
  gi_loopw [11] (fun i wr => ∃ (k : Nat) (pre : List (Nat × Value)), k ≤ N ∧ i = .int .i64 (k : Int) ∧ pre.length = k ∧ J pre wr ∧ Kept T W wr) (fun i _ => N - (intOf i).toNat)
  case atStart => exact ⟨0, [], Nat.zero_le _, rfl, rfl, h0, Kept.refl _ _⟩
  case round =>
    obtain ⟨k, pre, hk, rfl, hpre, hJs, hkp⟩ := hrel
    have h1r := hkp.heap h1 hgn
    have h2r := hkp.heap h2 hPn
    have b0r : wr.cell? ⟨Bp, 0, none⟩ = some (.pointer (some ⟨g, 0, none⟩)) := (hkp.cell (p := ⟨Bp, 0, none⟩) (Nat.lt_of_lt_of_le hBl hBs) hBn).trans b0
    have c0r : wr.cell? ⟨g, 0, none⟩ = some (.slice (some ⟨P, 0, none⟩) N c) := by simp [World.cell?, h1r]
    by_cases hlt : k < N
    · have hlen := hok.len
      have hb := Dk.page_byt h2r hlen (show k < d.n by omega)
      have hpl := page_len hlen (show k < d.n by omega)
      have hcl := bclone_any hb (by omega) (by omega)
      generalize hpg : page d.L k = pg at *
      have HPG := Lib.hid hpg
      clear hb hlen h1r h2r hpg
      gi_wp2_with (refine ⟨trivial, ?_⟩; gi_at_call 91; refine (callsIn_wide.2 hcl).mono ?_; rintro e w2 ⟨r, rfl, hown, hbel⟩; obtain ⟨fn, tmps, assign, body, hy, hR⟩ := hY pre (k, r) w2 (hJ _ _ _ hJs (Kept.ofBelow hbel)) ⟨hpre.symm, hlt, by rw [HPG.out]; exact hown.byt⟩; dsimp only [encA] at hy)
      refine hR.mono ?_
      rintro e W3 (⟨rfl, hJ3, hk3⟩ | ⟨rfl, hJx3⟩)
      · gi_wp2
        go_roundw
        case rel => exact ⟨k + 1, pre ++ [(k, r)], by omega, by simp, by simp [hpre], hJ3, (hkp.trans (Kept.ofBelow (S := T) hbel) (fun _ _ h => h)).trans hk3 (fun _ _ h => h)⟩
        case measure => simp [intOf]; omega
      · gi_wp2
        refine bodyPost_ret (results_none rfl _ _ _) rfl ?_
        exact ⟨⟨_, rfl⟩, .inr ⟨_, trivial, hJx3⟩⟩
    · obtain rfl : k = N := by omega
      gi_wp2
      go_end0
      exact ⟨⟨_, rfl⟩, .inl ⟨_, hpre, hJs⟩⟩
theorem all_any (g : Nat) (w : World) : Calls Try.prog 40 #[.pointer (some ⟨g, 0, none⟩)] w fun e w' => e = .returned (.func (.func 92) #[] #[.pointer (some ⟨w.heap.size, 0, none⟩)]) ∧ w' = w.alloc (.cells #[.pointer (some ⟨g, 0, none⟩)] 41) := by
  go_enter Try.func40, Try.ntmps40
  go_wp2
  go_ret
  exact ⟨rfl, rfl⟩
end Go.Proofs.Ytmcjefdnkcpghaa
