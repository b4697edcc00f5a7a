/- THE WALKS OF tape.cuts. -/
import Derived.Test.YtmcjefdnkcpghaaTaD
import Derived.Test.YtmcjefdnkcpghaaRng
import Derived.RangeFuncBound
import Derived.RangeFuncLeaves
import Derived.Shelf.Abstract
import Derived.WalkKit
import Derived.OwnWalkIn
import Derived.TacticsInMore
import Derived.LoopNIn
import Derived.LoopIn
import Derived.Sort.LoopGhostIn
namespace Go.Proofs.Ytmcjefdnkcpghaa
open Go.RowKit Go.Shelf
attribute [local go_sem] Oper.semAt_some
theorem cuts_any (A : Option Addr) (n c : Nat) (w : World) : Calls Try.prog 97 #[.slice A n c] w fun e w' => e = .returned (.func (.func 118) #[] #[.pointer (some ⟨w.heap.size, 0, none⟩)]) ∧ w' = w.alloc (.cells #[.slice A n c] 23) := by
  go_enter Try.func97, Try.ntmps97
  go_wp2
  go_ret
  exact ⟨rfl, rfl⟩
theorem cutsL_nil : cutsL [] = [] := by rw [cutsL]; simp
theorem cutsL_cons {l : List UInt8} (h : l ≠ []) : cutsL l = fillL (l.take 64) :: cutsL (l.drop 64) := by rw [cutsL]; simp [h]
theorem cutsL_get (k : Nat) : ∀ l : List UInt8, 64 * k < l.length → (cutsL l)[k]? = some (fillL ((l.drop (64 * k)).take 64)) := by
  induction k with
  | zero =>
    intro l h
    rw [cutsL_cons (by intro e; subst e; simp at h)]
    simp
  | succ k ih =>
    intro l h
    rw [cutsL_cons (by intro e; subst e; simp at h), List.getElem?_cons_succ, ih _ (by rw [List.length_drop]; omega), List.drop_drop, show 64 + 64 * k = 64 * (k + 1) by omega]
theorem cutsL_len (n : Nat) : ∀ l : List UInt8, l.length ≤ n → (cutsL l).length = (l.length + 63) / 64 := by
  induction n with
  | zero =>
    intro l h
    obtain rfl : l = [] := List.eq_nil_of_length_eq_zero (by omega)
    rw [cutsL_nil]; rfl
  | succ n ih =>
    intro l h
    by_cases h0 : l = []
    · subst h0; rw [cutsL_nil]; rfl
    · have hp : 0 < l.length := List.length_pos_iff.2 h0
      rw [cutsL_cons h0, List.length_cons, ih _ (by rw [List.length_drop]; omega), List.length_drop]
      omega
/-- what an iterator over a batch's bytes hands out -/
def argC (Bp : Nat) (l : List UInt8) (pre : List Value) (x : Value) (A : World) : Prop := ∃ m g, (cutsL l)[pre.length]? = some m ∧ x = .slice (some ⟨g, 0, none⟩) 64 64 ∧ Bp < g ∧ m.length = 64 ∧ A.heap[g]? = some (.cells (m.map bV).toArray 140 (0, 0))
set_option maxRecDepth 100000 in
set_option maxHeartbeats 2000000 in
theorem cuts1_seq {w : World} {Bp B0 : Nat} {v : Value} {l : List UInt8} (hBp : w.heap[Bp]? = some (.cells #[v] 23 (0, 0))) (hv : Byt w B0 v l) (hB0 : B0 ≤ Bp) (n : Nat) (hn : 1 ≤ n) {T : Nat → Prop} (hT : T Bp) (hT0 : ∀ b, b < B0 → T b) :
    SeqK Fence.wide n Try.prog 118 #[.pointer (some ⟨Bp, 0, none⟩)] (fun x => #[x]) (fun b => b ≠ Bp) T (argC Bp l) (fun xs => xs.length = (cutsL l).length) (fun _ => True) w := by
  intro L J Jx W hW hJ hJx hY h0
  have hBl := lt_of_block hBp
  have hBs := hW.size
  have hBW : W.heap[Bp]? = some (.cells #[v] 23 (0, 0)) := (hW.block Bp hBl).trans hBp
  have hvW : Byt W B0 v l := hv.keep fun p hp => hW.cell (by omega)
  have hlm := hv.len_le
  unfold maxLen at hlm
  refine callsIn_of_wp Try.func118 rfl trivial ?_ rfl
  simp only [Try.ntmps118, List.size_toArray, List.length_cons, List.length_nil, Nat.reduceAdd, Nat.reduceSub, Array.replicate_succ, Array.replicate_zero, List.push_toArray, List.append_toArray, List.nil_append, List.cons_append]
  gi_wp2
  gi_loopg [3] l.length (fun gk x3 wr => ∃ (k : Nat) (pre : List Value) (u : Value), gk = l.length - 64 * k ∧ pre.length = k ∧ 64 * k < l.length + 64 ∧ wr.heap[Bp]? = some (.cells #[u] 23 (0, 0)) ∧ Byt wr B0 u (l.drop (64 * k)) ∧ J pre wr ∧ W.heap.size ≤ wr.heap.size)
  case atStart => exact ⟨0, [], v, rfl, rfl, by omega, hBW, by simpa using hvW, h0, Nat.le_refl _⟩
  case round =>
    obtain ⟨k, pre, u, hgk, hpre, hk64, hBr, hu, hJs, hsz⟩ := hrel
    have HG := Lib.hid hgk
    have HJ := Lib.hid hJs
    have HPRE := Lib.hid hpre
    clear hgk hJs hpre hBp hv hvW hBW h0
    have c0 := cells_of hBr 0 _ rfl
    have f0 := free_of hBr 0
    have hrl : (l.drop (64 * k)).length = l.length - 64 * k := List.length_drop
    obtain ⟨A, c, rfl, hc, hm, _⟩ := id hu
    unfold maxLen at hm
    by_cases h0 : l.length ≤ 64 * k
    · have hlen : pre.length = (cutsL l).length := by rw [cutsL_len _ l (Nat.le_refl _), HPRE.out]; omega
      have HLEN := Lib.hid hlen
      have hz : l.length - 64 * k = 0 := by omega
      rw [hrl, hz] at c0
      clear hlen hrl hz hu
      gi_wp2
      go_end0
      exact ⟨⟨_, rfl⟩, .inl ⟨_, HLEN.out, HJ.out⟩⟩
    · have hcut := cutsL_get k l (by omega)
      have hdd : ∀ m, (l.drop (64 * k)).drop m = l.drop (64 * k + m) := fun m => List.drop_drop
      have hpos : 0 < (l.drop (64 * k)).length := by rw [hrl]; omega
      obtain ⟨ad, hA, _, _⟩ : ∃ ad : Addr, A = some ad ∧ True ∧ True := by
        obtain ⟨A', c', e, _, _, hr⟩ := id hu
        obtain ⟨ad, h1, _⟩ := hr hpos
        cases e
        exact ⟨ad, h1, trivial, trivial⟩
      subst hA
      clear hpos
      have HU := Lib.hid hu
      have HBR := Lib.hid hBr
      have HRL := Lib.hid hrl
      have HCUT := Lib.hid hcut
      have HDD := Lib.hid hdd
      rw [hrl] at c0 hc
      clear hu hBr hrl hcut hdd
      by_cases h64 : 64 ≤ l.length - 64 * k
      · have HTL := Lib.hid (show ((l.drop (64 * k)).take 64).length ≤ 64 from List.length_take_le _ _)
        have HTAKE := Lib.hid (byt_take 64 HU.out (by rw [HRL.out]; exact h64))
        by_cases hcm : c = 64
        · have HREST := Lib.hid (byt_end 64 HU.out (by rw [HRL.out]; exact h64) hcm)
          rw [HDD.out, HRL.out, show 64 * k + 64 = 64 * (k + 1) by omega] at HREST
          subst hcm
          gi_wp2_with fail
          refine ⟨trivial, ?_⟩
          refine (callsIn_wide.2 (tfill_any B0 _ _ HTL.out _ HTAKE.out)).mono ?_
          rintro e w2 ⟨r2, rfl, ⟨g, rfl, hg, hgl, hgh⟩, hb2⟩
          obtain ⟨fn, tmps, assign, body, hy, hR⟩ := hY pre (.slice (some ⟨g, 0, none⟩) 64 64) w2 (hJ _ _ _ HJ.out (Kept.ofBelow hb2)) ⟨_, g, by rw [HPRE.out]; exact HCUT.out, rfl, by omega, hgl, by simpa using hgh⟩
          gi_wp2
          refine hR.mono ?_
          rintro e W3 (⟨rfl, hJ3, hk3⟩ | ⟨rfl, hJx3⟩)
          · have hB2 := (hb2.block Bp (lt_of_block HBR.out)).trans HBR.out
            have hB3 := hk3.heap hB2 hT
            have hs3 := hk3.size
            have hs2 := hb2.size
            have d0 := cells_of hB3 0 _ rfl
            have df := free_of hB3 0
            rw [HRL.out] at d0
            have hrest := ((HREST.out.keep (w' := w2) fun p hp => hb2.cell (by omega)).keep (w' := W3) fun p hp => hk3.cell (by omega) (hT0 _ hp))
            have HREST3 := Lib.hid hrest
            have HB3 := Lib.hid hB3
            have HJ3 := Lib.hid hJ3
            clear hy hR hgh hJ3 hB3 hB2 hrest hk3
            gi_wp2
            go_roundg (l.length - 64 * (k + 1))
            case measure => have := HG.out; omega
            case rel =>
              refine ⟨k + 1, pre ++ [.slice (some ⟨g, 0, none⟩) 64 64], _, rfl, by simp [HPRE.out], by omega, by simpa using Lib.heap_setCell_same (i := 0) HB3.out _, ?_, ?_, by simp [World.setCell]; omega⟩
              · have hh := HREST3.out
                first
                | exact hh.setCell (p := ⟨Bp, 0, none⟩) hB0 _
                | (rw [show l.length - 64 * k - 64 = 0 by omega] at hh; exact hh.setCell (p := ⟨Bp, 0, none⟩) hB0 _)
                | (rw [show l.length - 64 * k - (l.length - 64 * k) = 0 by omega] at hh; exact hh.setCell (p := ⟨Bp, 0, none⟩) hB0 _)
              · exact hJ _ _ _ HJ3.out ((Kept.refl _ _).setCell _ _ (fun _ h => h rfl))
          · gi_wp2
            refine bodyPost_ret (results_none rfl _ _ _) rfl ?_
            exact ⟨⟨_, rfl⟩, .inr ⟨_, trivial, hJx3⟩⟩
        · have HREST := Lib.hid (byt_from 64 HU.out (by rw [HRL.out]; exact h64) (by decide) hcm)
          rw [HDD.out, HRL.out, show 64 * k + 64 = 64 * (k + 1) by omega] at HREST
          gi_wp2_with fail
          refine ⟨trivial, ?_⟩
          refine (callsIn_wide.2 (tfill_any B0 _ _ HTL.out _ HTAKE.out)).mono ?_
          rintro e w2 ⟨r2, rfl, ⟨g, rfl, hg, hgl, hgh⟩, hb2⟩
          obtain ⟨fn, tmps, assign, body, hy, hR⟩ := hY pre (.slice (some ⟨g, 0, none⟩) 64 64) w2 (hJ _ _ _ HJ.out (Kept.ofBelow hb2)) ⟨_, g, by rw [HPRE.out]; exact HCUT.out, rfl, by omega, hgl, by simpa using hgh⟩
          gi_wp2
          refine hR.mono ?_
          rintro e W3 (⟨rfl, hJ3, hk3⟩ | ⟨rfl, hJx3⟩)
          · have hB2 := (hb2.block Bp (lt_of_block HBR.out)).trans HBR.out
            have hB3 := hk3.heap hB2 hT
            have hs3 := hk3.size
            have hs2 := hb2.size
            have d0 := cells_of hB3 0 _ rfl
            have df := free_of hB3 0
            rw [HRL.out] at d0
            have hrest := ((HREST.out.keep (w' := w2) fun p hp => hb2.cell (by omega)).keep (w' := W3) fun p hp => hk3.cell (by omega) (hT0 _ hp))
            have HREST3 := Lib.hid hrest
            have HB3 := Lib.hid hB3
            have HJ3 := Lib.hid hJ3
            clear hy hR hgh hJ3 hB3 hB2 hrest hk3
            gi_wp2
            go_roundg (l.length - 64 * (k + 1))
            case measure => have := HG.out; omega
            case rel =>
              refine ⟨k + 1, pre ++ [.slice (some ⟨g, 0, none⟩) 64 64], _, rfl, by simp [HPRE.out], by omega, by simpa using Lib.heap_setCell_same (i := 0) HB3.out _, ?_, ?_, by simp [World.setCell]; omega⟩
              · have hh := HREST3.out
                first
                | exact hh.setCell (p := ⟨Bp, 0, none⟩) hB0 _
                | (rw [show l.length - 64 * k - 64 = 0 by omega] at hh; exact hh.setCell (p := ⟨Bp, 0, none⟩) hB0 _)
                | (rw [show l.length - 64 * k - (l.length - 64 * k) = 0 by omega] at hh; exact hh.setCell (p := ⟨Bp, 0, none⟩) hB0 _)
              · exact hJ _ _ _ HJ3.out ((Kept.refl _ _).setCell _ _ (fun _ h => h rfl))
          · gi_wp2
            refine bodyPost_ret (results_none rfl _ _ _) rfl ?_
            exact ⟨⟨_, rfl⟩, .inr ⟨_, trivial, hJx3⟩⟩
      · have eT : (l.drop (64 * k)).take (l.length - 64 * k) = (l.drop (64 * k)).take 64 := by
          rw [List.take_of_length_le (by rw [HRL.out]; exact Nat.le_refl _), List.take_of_length_le (by rw [HRL.out]; omega)]
        have eD : (l.drop (64 * k)).drop (l.length - 64 * k) = l.drop (64 * (k + 1)) := by
          rw [HDD.out, List.drop_of_length_le (by omega), List.drop_of_length_le (by omega)]
        have hR0 : 0 < l.length - 64 * k := by omega
        have HTL := Lib.hid (show ((l.drop (64 * k)).take 64).length ≤ 64 from List.length_take_le _ _)
        have HTAKE := Lib.hid (byt_take (l.length - 64 * k) HU.out (by rw [HRL.out]; exact Nat.le_refl _))
        rw [eT] at HTAKE
        by_cases hcm : c = l.length - 64 * k
        · have HREST := Lib.hid (byt_end (l.length - 64 * k) HU.out (by rw [HRL.out]; exact Nat.le_refl _) hcm)
          rw [eD, HRL.out] at HREST
          clear eT eD
          subst hcm
          gi_wp2_with fail
          refine ⟨trivial, ?_⟩
          refine (callsIn_wide.2 (tfill_any B0 _ _ HTL.out _ HTAKE.out)).mono ?_
          rintro e w2 ⟨r2, rfl, ⟨g, rfl, hg, hgl, hgh⟩, hb2⟩
          obtain ⟨fn, tmps, assign, body, hy, hR⟩ := hY pre (.slice (some ⟨g, 0, none⟩) 64 64) w2 (hJ _ _ _ HJ.out (Kept.ofBelow hb2)) ⟨_, g, by rw [HPRE.out]; exact HCUT.out, rfl, by omega, hgl, by simpa using hgh⟩
          gi_wp2
          refine hR.mono ?_
          rintro e W3 (⟨rfl, hJ3, hk3⟩ | ⟨rfl, hJx3⟩)
          · have hB2 := (hb2.block Bp (lt_of_block HBR.out)).trans HBR.out
            have hB3 := hk3.heap hB2 hT
            have hs3 := hk3.size
            have hs2 := hb2.size
            have d0 := cells_of hB3 0 _ rfl
            have df := free_of hB3 0
            rw [HRL.out] at d0
            have hrest := ((HREST.out.keep (w' := w2) fun p hp => hb2.cell (by omega)).keep (w' := W3) fun p hp => hk3.cell (by omega) (hT0 _ hp))
            have HREST3 := Lib.hid hrest
            have HB3 := Lib.hid hB3
            have HJ3 := Lib.hid hJ3
            clear hy hR hgh hJ3 hB3 hB2 hrest hk3
            gi_wp2
            go_roundg (l.length - 64 * (k + 1))
            case measure => have := HG.out; omega
            case rel =>
              refine ⟨k + 1, pre ++ [.slice (some ⟨g, 0, none⟩) 64 64], _, rfl, by simp [HPRE.out], by omega, by simpa using Lib.heap_setCell_same (i := 0) HB3.out _, ?_, ?_, by simp [World.setCell]; omega⟩
              · have hh := HREST3.out
                first
                | exact hh.setCell (p := ⟨Bp, 0, none⟩) hB0 _
                | (rw [show l.length - 64 * k - 64 = 0 by omega] at hh; exact hh.setCell (p := ⟨Bp, 0, none⟩) hB0 _)
                | (rw [show l.length - 64 * k - (l.length - 64 * k) = 0 by omega] at hh; exact hh.setCell (p := ⟨Bp, 0, none⟩) hB0 _)
              · exact hJ _ _ _ HJ3.out ((Kept.refl _ _).setCell _ _ (fun _ h => h rfl))
          · gi_wp2
            refine bodyPost_ret (results_none rfl _ _ _) rfl ?_
            exact ⟨⟨_, rfl⟩, .inr ⟨_, trivial, hJx3⟩⟩
        · have hrst : Byt wr B0 (.slice (some (ad.add (l.length - 64 * k))) ((l.drop (64 * k)).length - (l.length - 64 * k)) (c - (l.length - 64 * k))) ((l.drop (64 * k)).drop (l.length - 64 * k)) := by
            have h := byt_drop (l.length - 64 * k) HU.out (by rw [HRL.out]; exact Nat.le_refl _)
            rw [if_neg hcm] at h
            exact h
          have HREST := Lib.hid hrst
          clear hrst
          rw [eD, HRL.out] at HREST
          clear eT eD
          gi_wp2_with fail
          refine ⟨trivial, ?_⟩
          refine (callsIn_wide.2 (tfill_any B0 _ _ HTL.out _ HTAKE.out)).mono ?_
          rintro e w2 ⟨r2, rfl, ⟨g, rfl, hg, hgl, hgh⟩, hb2⟩
          obtain ⟨fn, tmps, assign, body, hy, hR⟩ := hY pre (.slice (some ⟨g, 0, none⟩) 64 64) w2 (hJ _ _ _ HJ.out (Kept.ofBelow hb2)) ⟨_, g, by rw [HPRE.out]; exact HCUT.out, rfl, by omega, hgl, by simpa using hgh⟩
          gi_wp2
          refine hR.mono ?_
          rintro e W3 (⟨rfl, hJ3, hk3⟩ | ⟨rfl, hJx3⟩)
          · have hB2 := (hb2.block Bp (lt_of_block HBR.out)).trans HBR.out
            have hB3 := hk3.heap hB2 hT
            have hs3 := hk3.size
            have hs2 := hb2.size
            have d0 := cells_of hB3 0 _ rfl
            have df := free_of hB3 0
            rw [HRL.out] at d0
            have hrest := ((HREST.out.keep (w' := w2) fun p hp => hb2.cell (by omega)).keep (w' := W3) fun p hp => hk3.cell (by omega) (hT0 _ hp))
            have HREST3 := Lib.hid hrest
            have HB3 := Lib.hid hB3
            have HJ3 := Lib.hid hJ3
            clear hy hR hgh hJ3 hB3 hB2 hrest hk3
            gi_wp2
            go_roundg (l.length - 64 * (k + 1))
            case measure => have := HG.out; omega
            case rel =>
              refine ⟨k + 1, pre ++ [.slice (some ⟨g, 0, none⟩) 64 64], _, rfl, by simp [HPRE.out], by omega, by simpa using Lib.heap_setCell_same (i := 0) HB3.out _, ?_, ?_, by simp [World.setCell]; omega⟩
              · have hh := HREST3.out
                first
                | exact hh.setCell (p := ⟨Bp, 0, none⟩) hB0 _
                | (rw [show l.length - 64 * k - 64 = 0 by omega] at hh; exact hh.setCell (p := ⟨Bp, 0, none⟩) hB0 _)
                | (rw [show l.length - 64 * k - (l.length - 64 * k) = 0 by omega] at hh; exact hh.setCell (p := ⟨Bp, 0, none⟩) hB0 _)
              · exact hJ _ _ _ HJ3.out ((Kept.refl _ _).setCell _ _ (fun _ h => h rfl))
          · gi_wp2
            refine bodyPost_ret (results_none rfl _ _ _) rfl ?_
            exact ⟨⟨_, rfl⟩, .inr ⟨_, trivial, hJx3⟩⟩
end Go.Proofs.Ytmcjefdnkcpghaa
