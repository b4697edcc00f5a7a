/- THE WALKS OF THE REFERENCE'S READER (octroiref05.Reader): Left, Done, Flag. -/
import Derived.Test.YtnfpmobmfcgfnaaPc
import Derived.Test.YtnfpmobmfcgfnaaRdm
import Derived.Deep.QuietTactic
import Derived.BigQuiet
namespace Go.Proofs.Ytnfpmobmfcgfnaa
open Go.RowKit
/-- g is a reader of the reference's over L, which stands at 'at' -/
structure Rr (w : World) (g B : Nat) (A : Option Addr) (c : Nat) (L : List UInt8) (pos : Nat) (bad : Bool) : Prop where
 heap : w.heap[g]? = some (.cells #[.slice A L.length c, .int .i64 (pos : Int), .bool bad] 125 (0, 0))
 byt : Byt w B (.slice A L.length c) L
 le : B ≤ g
 pos_le : pos ≤ L.length
section
variable {w w' : World} {g B : Nat} {A : Option Addr} {c : Nat} {L : List UInt8} {pos : Nat} {bad : Bool}
theorem Rr.c0 (h : Rr w g B A c L pos bad) : w.cell? ⟨g, 0, none⟩ = some (.slice A L.length c) := by simp [World.cell?, h.heap]
theorem Rr.c1 (h : Rr w g B A c L pos bad) : w.cell? ⟨g, 1, none⟩ = some (.int .i64 (pos : Int)) := by simp [World.cell?, h.heap]
theorem Rr.c2 (h : Rr w g B A c L pos bad) : w.cell? ⟨g, 2, none⟩ = some (.bool bad) := by simp [World.cell?, h.heap]
theorem Rr.f1 (h : Rr w g B A c L pos bad) : w.frozen? ⟨g, 1, none⟩ = false := by simp [World.frozen?, h.heap]
theorem Rr.f2 (h : Rr w g B A c L pos bad) : w.frozen? ⟨g, 2, none⟩ = false := by simp [World.frozen?, h.heap]
theorem Rr.lt (h : Rr w g B A c L pos bad) : g < w.heap.size := lt_of_block h.heap
theorem Rr.drewN (h : Rr w g B A c L pos bad) (n : Nat) : Rr (w.drewN n) g B A c L pos bad := ⟨h.heap, h.byt, h.le, h.pos_le⟩
theorem Rr.kept {S : Nat → Prop} (h : Rr w g B A c L pos bad) (k : Kept S w w') (hg : S g) (hs : ∀ b, b < B → S b) : Rr w' g B A c L pos bad :=
 ⟨k.heap h.heap hg, h.byt.kept k (by have := h.lt; have := h.le; omega) hs, h.le, h.pos_le⟩
theorem Rr.below (h : Rr w g B A c L pos bad) (k : Below w.heap.size w w') : Rr w' g B A c L pos bad :=
 h.kept (S := fun _ => True) (Kept.ofBelow k) trivial fun _ _ => trivial
theorem Rr.move (h : Rr w g B A c L pos bad) (p : Nat) (hp : p ≤ L.length) : Rr (w.setCell ⟨g, 1, none⟩ (.int .i64 (p : Int))) g B A c L p bad ∧ Only g w (w.setCell ⟨g, 1, none⟩ (.int .i64 (p : Int))) :=
 ⟨⟨Lib.heap_setCell_same (i := 1) h.heap _, h.byt.setCell h.le _, h.le, hp⟩, (Kept.refl _ _).setCell _ _ (fun _ hS => hS rfl)⟩
theorem Rr.spoil (h : Rr w g B A c L pos bad) : Rr (w.setCell ⟨g, 2, none⟩ (.bool true)) g B A c L pos true ∧ Only g w (w.setCell ⟨g, 2, none⟩ (.bool true)) :=
 ⟨⟨Lib.heap_setCell_same (i := 2) h.heap _, h.byt.setCell h.le _, h.le, h.pos_le⟩, (Kept.refl _ _).setCell _ _ (fun _ hS => hS rfl)⟩
/-- what a method of the reference's reader tells and leaves -/
def QPost {α : Type} (val : α → Value) (zero : α) (w : World) (g B : Nat) (A : Option Addr) (c : Nat) (L : List UInt8) (bad : Bool) (r : Option (α × List UInt8)) (e : Ending) (w' : World) : Prop :=
 match bad, r with
 | false, some (x, l') => ∃ p, e = .returned (val x) ∧ L.drop p = l' ∧ Rr w' g B A c L p false ∧ Only g w w'
 | _, _ => ∃ p, e = .returned (val zero) ∧ Rr w' g B A c L p true ∧ Only g w w'
theorem only_drewN (n : Nat) (h : Only g (w.drewN n) w') : Only g w w' := ⟨h.os, h.tape, h.output, h.size, h.block⟩
theorem Only.drewN (h : Only g w w') (n : Nat) : Only g w (w'.drewN n) := ⟨h.os, h.tape, h.output, h.size, h.block⟩
theorem Only.refl (g : Nat) (w : World) : Only g w w := Kept.refl _ _
/-- the byte at which it stands -/
theorem Rr.at_ (h : Rr w g B A c L pos bad) (k : Nat) (hk : k < L.length) : ∃ ad, A = some ad ∧ ad.block ≠ g ∧ w.cell? (ad.add k) = some (.int .u8 (L[k].toNat : Int)) := by
 obtain ⟨A', c', hv, hcl, hm, hr⟩ := h.byt
 simp only [Value.slice.injEq, true_and] at hv
 obtain ⟨rfl, rfl⟩ := hv
 obtain ⟨ad, hA, hadb, hx⟩ := hr (by omega)
 exact ⟨ad, hA, by have := h.le; omega, hx k _ (List.getElem?_eq_getElem hk)⟩
theorem Rr.cap (h : Rr w g B A c L pos bad) : L.length ≤ c ∧ c ≤ 9223372036854775807 := by
 obtain ⟨A', c', hv, hcl, hm, hr⟩ := h.byt
 simp only [Value.slice.injEq, true_and] at hv
 obtain ⟨rfl, rfl⟩ := hv
 exact ⟨hcl, hm⟩
set_option maxHeartbeats 4000000 in
theorem qflag_any (hR : Rr w g B A c L pos bad) : Calls Try.prog 121 #[.pointer (some ⟨g, 0, none⟩)] w (QPost (fun b : Bool => .bool b) false w g B A c L bad (rdFlag (L.drop pos))) := by
 have c0 := hR.c0
 have c1 := hR.c1
 have c2 := hR.c2
 have f1 := hR.f1
 have f2 := hR.f2
 have hp := hR.pos_le
 obtain ⟨hcl, hm⟩ := hR.cap
 cases bad with
 | true =>
  go_enter Try.func121, Try.ntmps121
  go_wp2_with fail
  go_quiet (fail)
  go_wp2
  go_ret
  exact ⟨_, rfl, (hR.drewN _).spoil.1, only_drewN _ (hR.drewN _).spoil.2⟩
 | false =>
  by_cases hlt : pos < L.length
  ·obtain ⟨ad, rfl, hadg, hcell⟩ := hR.at_ pos hlt
   have hd : L.drop pos = L[pos] :: L.drop (pos + 1) := List.drop_eq_getElem_cons hlt
   have i0 : (0 : Int) ≤ (pos : Int) := by omega
   have i1 : (pos : Int) < (L.length : Int) := by omega
   have i2 : (pos : Int) + 1 - 1 = (pos : Int) := by omega
   have d1 : decide ((L.length : Int) ≤ (pos : Int)) = false := decide_eq_false (by omega)
   have hb := L[pos].toNat_lt
   rw [hd]
   by_cases h1 : L[pos].toNat ≤ 1
   ·have e1 : rdFlag (L[pos] :: L.drop (pos + 1)) = some (L[pos].toNat == 1, L.drop (pos + 1)) := if_pos h1
    rw [e1]
    clear e1 hd
    have HQ := Lib.hid (show ((L[pos].toNat : Int) == 1) = (L[pos].toNat == 1) by rw [Bool.eq_iff_iff, beq_iff_eq, beq_iff_eq]; omega)
    have d2 : decide ((1 : Int) < (L[pos].toNat : Int)) = false := decide_eq_false (by omega)
    generalize hx : L[pos].toNat = x at hb hcell HQ d2 h1 ⊢
    clear hx
    have hcs : ∀ (n : Nat) (u : Value), ((w.drewN n).setCell ⟨g, 1, none⟩ u).cell? (ad.add pos) = some (.int .u8 (x : Int)) := fun n u => (World.cell?_setCell_other (w.drewN n) ⟨g, 1, none⟩ (ad.add pos) u (by intro e; exact hadg (by rw [← addr_add_block ad pos, ← e]))).trans hcell
    go_enter Try.func121, Try.ntmps121
    go_wp2_with fail
    go_quiet (fail)
    go_wp2_with fail
    go_quiet (fail)
    go_wp2
    go_ret
    refine ⟨pos + 1, congrArg (fun b => Ending.returned (.bool b)) HQ.out, rfl, ((hR.drewN _).move (pos + 1) (by omega)).1.drewN _, (only_drewN _ ((hR.drewN _).move (pos + 1) (by omega)).2).drewN _⟩
   ·have e1 : rdFlag (L[pos] :: L.drop (pos + 1)) = none := if_neg h1
    rw [e1]
    clear e1 hd
    have d2 : (1 : Int) < (L[pos].toNat : Int) := by omega
    generalize L[pos].toNat = x at *
    go_enter Try.func121, Try.ntmps121
    go_wp2_with fail
    go_quiet (fail)
    go_wp2
    go_ret
    exact ⟨_, rfl, (hR.drewN _).spoil.1, only_drewN _ (hR.drewN _).spoil.2⟩
  ·have hd : L.drop pos = [] := List.drop_eq_nil_of_le (by omega)
   rw [hd]
   clear hd
   have d1 : (L.length : Int) ≤ (pos : Int) := by omega
   go_enter Try.func121, Try.ntmps121
   go_wp2_with fail
   go_quiet (fail)
   go_wp2
   go_ret
   exact ⟨_, rfl, (hR.drewN _).spoil.1, only_drewN _ (hR.drewN _).spoil.2⟩
end
end Go.Proofs.Ytnfpmobmfcgfnaa

/- THE WALK OF octroiref05.Reader.Num (printed by gennumq.py: one leaf a case). -/
namespace Go.Proofs.Ytnfpmobmfcgfnaa
open Go.RowKit
section
theorem add_succ (ad : Addr) (n : Nat) : ad.add (n + 1) = ⟨ad.block, ad.off + (n + 1), none⟩ := by unfold Addr.add; rw [if_neg (by omega)]
variable {w w' : World} {g B : Nat} {A : Option Addr} {c : Nat} {L : List UInt8} {pos : Nat} {bad : Bool}
set_option maxRecDepth 100000 in
set_option maxHeartbeats 16000000 in
theorem qnum_any (hR : Rr w g B A c L pos bad) : Calls Try.prog 105 #[.pointer (some ⟨g, 0, none⟩)] w (QPost (fun n : Int => .int .i64 n) 0 w g B A c L bad (rdNum (L.drop pos))) := by
 have c0 := hR.c0
 have c1 := hR.c1
 have c2 := hR.c2
 have f1 := hR.f1
 have f2 := hR.f2
 have hp := hR.pos_le
 obtain ⟨hcl, hm⟩ := hR.cap
 cases bad with
 | true =>
  go_enter Try.func105, Try.ntmps105
  go_wp2_with fail
  go_quiet (fail)
  go_wp2
  go_ret
  exact ⟨_, rfl, (hR.drewN _).spoil.1, (only_drewN _ (hR.drewN _).spoil.2)⟩
 | false =>
  by_cases hlt : pos < L.length
  ·obtain ⟨ad, rfl, hadg, hcell⟩ := hR.at_ pos hlt
   have hdrop : L.drop pos = L[pos] :: L.drop (pos + 1) := List.drop_eq_getElem_cons hlt
   have i0 : (0 : Int) ≤ (pos : Int) := by omega
   have i1 : (pos : Int) < (L.length : Int) := by omega
   have d1 : decide ((L.length : Int) ≤ (pos : Int)) = false := decide_eq_false (by omega)
   have hb := L[pos].toNat_lt
   have htk : ∀ k (hk : k < (L.drop (pos + 1)).length), (L.drop (pos + 1))[k].toNat = (L[pos + 1 + k]'(by rw [List.length_drop] at hk; omega)).toNat := fun k hk => by rw [List.getElem_drop]
   have ht1 : (L.drop (pos + 1)).length = L.length - (pos + 1) := List.length_drop
   obtain ⟨many, hmany⟩ : ∃ m, L[pos].toNat % 128 = m := ⟨_, rfl⟩
   have hml : many < 128 := by omega
   have hmod : (L[pos].toNat : Int) % 128 = (many : Int) := by omega
   have w1 : IntKind.i64.wrap ((L.length : Int) - (pos : Int)) = (L.length : Int) - (pos : Int) := IntWalk.i64_in _ (by omega)
   have w2 : IntKind.i64.wrap ((L.length : Int) - (pos : Int) - 1) = (L.length : Int) - (pos : Int) - 1 := IntWalk.i64_in _ (by omega)
   have w3 : IntKind.i64.wrap ((pos : Int) + 1) = (pos : Int) + 1 := IntWalk.i64_in _ (by omega)
   by_cases hm8 : many ≤ 8
   ·by_cases hc1 : L[pos].toNat < 128
    ·by_cases hmt : many ≤ L.length - (pos + 1)
     ·by_cases hm0 : 0 < many
      ·skip
       obtain ⟨ad4, hA4, _, hcell2⟩ := hR.at_ (pos + 1) (by omega)
       cases hA4
       have ht0 : ∀ h, (L.drop (pos + 1))[0]'h = L[pos + 1] := fun h => by rw [List.getElem_drop]
       have j0 : (0 : Int) ≤ (pos : Int) + 1 := by omega
       have j1 : (pos : Int) + 1 < (L.length : Int) := by omega
       have j2 : ((pos : Int) + 1).toNat = pos + 1 := by omega
       have hb2 := L[pos + 1].toNat_lt
       obtain ⟨b0, hb0⟩ : ∃ b, L[pos + 1].toNat = b := ⟨_, rfl⟩
       rw [hb0] at hcell2 hb2
       rw [add_succ] at hcell2
       by_cases hz : b0 = 0
       ·skip
        rw [hdrop, numOk_no hmany (by rw [headD_get (by omega), ht0]; omega)]
        have d2 : decide ((8 : Int) < (many : Int)) = false := decide_eq_false (by omega)
        have d3 : decide ((128 : Int) ≤ (L[pos].toNat : Int)) = false := decide_eq_false (by omega)
        have d4 : ((many : Int) == 0) = false := by rw [beq_eq_false_iff_ne]; omega
        have d5 : (0 : Int) < (many : Int) := by omega
        have d6 : decide ((L.length : Int) - (pos : Int) - 1 < (many : Int)) = false := decide_eq_false (by omega)
        have d7 : ((b0 : Int) == 0) = true := by rw [beq_iff_eq]; omega
        go_enter Try.func105, Try.ntmps105
        go_wp2_with fail
        go_quiet (fail)
        go_wp2_with fail
        go_quiet (fail)
        go_wp2_with fail
        go_quiet (fail)
        go_wp2
        go_ret
        exact ⟨_, rfl, (hR.drewN _).spoil.1, (only_drewN _ (hR.drewN _).spoil.2)⟩
       ·by_cases h8 : many = 8
        ·by_cases hs : b0 < 128
         ·skip
          rw [hdrop, numOk_yes hmany (by rw [headD_get (by omega), ht0]; omega)]
          rw [if_pos (by omega)]
          have hbd := valL_bound (L.drop (pos + 1)) many
          have HB := Lib.hid (fun k => hbd k hm8 (by omega) (fun e hl => by rw [ht0]; omega))
          have HV := Lib.hid (valL_snoc (L.drop (pos + 1)))
          have HT := Lib.hid htk
          clear hbd htk ht0
          have d2 : decide ((8 : Int) < (many : Int)) = false := decide_eq_false (by omega)
          have d3 : decide ((128 : Int) ≤ (L[pos].toNat : Int)) = false := decide_eq_false (by omega)
          have d4 : ((many : Int) == 0) = false := by rw [beq_eq_false_iff_ne]; omega
          have d5 : (0 : Int) < (many : Int) := by omega
          have d6 : decide ((L.length : Int) - (pos : Int) - 1 < (many : Int)) = false := decide_eq_false (by omega)
          have d7 : ((b0 : Int) == 0) = false := by rw [beq_eq_false_iff_ne]; omega
          have d8 : ((many : Int) == 8) = true := by rw [beq_iff_eq]; omega
          clear h8
          have d9 : decide ((128 : Int) ≤ (b0 : Int)) = false := decide_eq_false (by omega)
          go_enter Try.func105, Try.ntmps105
          go_wp2_with fail
          go_quiet (fail)
          go_wp2_with fail
          go_quiet (fail)
          go_wp2_with fail
          go_quiet (fail)
          go_wp2
          go_loopg [6, 7] many (fun gk x6 x7 wr => ∃ k : Nat, k ≤ many ∧ gk = many - k ∧ x6 = .int .i64 ((valL ((L.drop (pos + 1)).take k) : Nat) : Int) ∧ x7 = .int .i64 ((k : Int) + 1) ∧ Rr wr g B (some ad) c L pos false ∧ Only g w wr)
          case atStart => exact ⟨0, Nat.zero_le _, rfl, rfl, rfl, by first | exact hR.drewN _ | exact (hR.drewN _).drewN _, by first | exact (Only.refl _ _).drewN _ | exact ((Only.refl _ _).drewN _).drewN _⟩
          case round =>
           obtain ⟨k, hk, hgk, rfl, rfl, hRk, hOk⟩ := hrel
           have HG := Lib.hid hgk
           have e0 := hRk.c0
           have e1 := hRk.c1
           have ef := hRk.f1
           clear hgk
           by_cases hkm : k < many
           ·have hb9 := HB.out k hkm
            have hsn := HV.out k (by omega)
            rw [HT.out k (by omega)] at hsn
            obtain ⟨ad3, hA3, _, hcx⟩ := hRk.at_ (pos + 1 + k) (by omega)
            cases hA3
            rw [hsn] at hb9
            have hbk := L[pos + 1 + k].toNat_lt
            generalize hx : valL ((L.drop (pos + 1)).take k) = x at *
            have HX := Lib.hid hsn
            generalize L[pos + 1 + k].toNat = b at *
            clear hsn hx
            have tn : ((pos : Int) + ((k : Int) + 1)).toNat = pos + 1 + k := by omega
            have tl : (0 : Int) ≤ (pos : Int) + ((k : Int) + 1) := by omega
            have tu : (pos : Int) + ((k : Int) + 1) < (L.length : Int) := by omega
            have wa : IntKind.i64.wrap ((x : Int) * 256) = (x : Int) * 256 := IntWalk.i64_in _ (by omega)
            have wb : IntKind.i64.wrap ((pos : Int) + ((k : Int) + 1)) = (pos : Int) + ((k : Int) + 1) := IntWalk.i64_in _ (by omega)
            have wc : IntKind.i64.wrap ((x : Int) * 256 + (b : Int)) = (x : Int) * 256 + (b : Int) := IntWalk.i64_in _ (by omega)
            go_wp2_with fail
            go_quiet (fail)
            go_wp2
            go_roundg (many - (k + 1))
            case measure => have := HG.out; omega
            case rel => exact ⟨k + 1, by omega, rfl, by rw [HX.out]; go_num, by go_num, hRk.drewN _, hOk.drewN _⟩
           ·obtain rfl : k = many := by omega
            have hb9 : valL ((L.drop (pos + 1)).take k) < 9223372036854775808 := by
             cases k with
             | zero => simp [valL]
             | succ j => exact HB.out j (by omega)
            have hmv := hRk.move (pos + 1 + k) (by omega)
            rw [show ((pos + 1 + k : Nat) : Int) = (pos : Int) + 1 + (k : Int) by omega] at hmv
            have hdd := Lib.hid (show L.drop (pos + 1 + k) = (L.drop (pos + 1)).drop k from (List.drop_drop ..).symm)
            generalize hx : valL ((L.drop (pos + 1)).take k) = x at hb9 ⊢
            have HX := Lib.hid hx
            clear hx
            go_wp2
            go_ret
            exact ⟨pos + 1 + k, by rw [HX.out]; rfl, hdd.out, hmv.1, Only.trans hOk hmv.2⟩
         ·skip
          rw [hdrop, numOk_no hmany (by rw [headD_get (by omega), ht0]; omega)]
          have d2 : decide ((8 : Int) < (many : Int)) = false := decide_eq_false (by omega)
          have d3 : decide ((128 : Int) ≤ (L[pos].toNat : Int)) = false := decide_eq_false (by omega)
          have d4 : ((many : Int) == 0) = false := by rw [beq_eq_false_iff_ne]; omega
          have d5 : (0 : Int) < (many : Int) := by omega
          have d6 : decide ((L.length : Int) - (pos : Int) - 1 < (many : Int)) = false := decide_eq_false (by omega)
          have d7 : ((b0 : Int) == 0) = false := by rw [beq_eq_false_iff_ne]; omega
          have d8 : ((many : Int) == 8) = true := by rw [beq_iff_eq]; omega
          clear h8
          have d9 : (128 : Int) ≤ (b0 : Int) := by omega
          go_enter Try.func105, Try.ntmps105
          go_wp2_with fail
          go_quiet (fail)
          go_wp2_with fail
          go_quiet (fail)
          go_wp2_with fail
          go_quiet (fail)
          go_wp2
          go_ret
          exact ⟨_, rfl, (hR.drewN _).spoil.1, (only_drewN _ (hR.drewN _).spoil.2)⟩
        ·skip
         rw [hdrop, numOk_yes hmany (by rw [headD_get (by omega), ht0]; omega)]
         rw [if_pos (by omega)]
         have hbd := valL_bound (L.drop (pos + 1)) many
         have HB := Lib.hid (fun k => hbd k hm8 (by omega) (fun e hl => by rw [ht0]; omega))
         have HV := Lib.hid (valL_snoc (L.drop (pos + 1)))
         have HT := Lib.hid htk
         clear hbd htk ht0
         have d2 : decide ((8 : Int) < (many : Int)) = false := decide_eq_false (by omega)
         have d3 : decide ((128 : Int) ≤ (L[pos].toNat : Int)) = false := decide_eq_false (by omega)
         have d4 : ((many : Int) == 0) = false := by rw [beq_eq_false_iff_ne]; omega
         have d5 : (0 : Int) < (many : Int) := by omega
         have d6 : decide ((L.length : Int) - (pos : Int) - 1 < (many : Int)) = false := decide_eq_false (by omega)
         have d7 : ((b0 : Int) == 0) = false := by rw [beq_eq_false_iff_ne]; omega
         have d8 : ((many : Int) == 8) = false := by rw [beq_eq_false_iff_ne]; omega
         go_enter Try.func105, Try.ntmps105
         go_wp2_with fail
         go_quiet (fail)
         go_wp2_with fail
         go_quiet (fail)
         go_wp2_with fail
         go_quiet (fail)
         go_wp2
         go_loopg [6, 7] many (fun gk x6 x7 wr => ∃ k : Nat, k ≤ many ∧ gk = many - k ∧ x6 = .int .i64 ((valL ((L.drop (pos + 1)).take k) : Nat) : Int) ∧ x7 = .int .i64 ((k : Int) + 1) ∧ Rr wr g B (some ad) c L pos false ∧ Only g w wr)
         case atStart => exact ⟨0, Nat.zero_le _, rfl, rfl, rfl, by first | exact hR.drewN _ | exact (hR.drewN _).drewN _, by first | exact (Only.refl _ _).drewN _ | exact ((Only.refl _ _).drewN _).drewN _⟩
         case round =>
          obtain ⟨k, hk, hgk, rfl, rfl, hRk, hOk⟩ := hrel
          have HG := Lib.hid hgk
          have e0 := hRk.c0
          have e1 := hRk.c1
          have ef := hRk.f1
          clear hgk
          by_cases hkm : k < many
          ·have hb9 := HB.out k hkm
           have hsn := HV.out k (by omega)
           rw [HT.out k (by omega)] at hsn
           obtain ⟨ad3, hA3, _, hcx⟩ := hRk.at_ (pos + 1 + k) (by omega)
           cases hA3
           rw [hsn] at hb9
           have hbk := L[pos + 1 + k].toNat_lt
           generalize hx : valL ((L.drop (pos + 1)).take k) = x at *
           have HX := Lib.hid hsn
           generalize L[pos + 1 + k].toNat = b at *
           clear hsn hx
           have tn : ((pos : Int) + ((k : Int) + 1)).toNat = pos + 1 + k := by omega
           have tl : (0 : Int) ≤ (pos : Int) + ((k : Int) + 1) := by omega
           have tu : (pos : Int) + ((k : Int) + 1) < (L.length : Int) := by omega
           have wa : IntKind.i64.wrap ((x : Int) * 256) = (x : Int) * 256 := IntWalk.i64_in _ (by omega)
           have wb : IntKind.i64.wrap ((pos : Int) + ((k : Int) + 1)) = (pos : Int) + ((k : Int) + 1) := IntWalk.i64_in _ (by omega)
           have wc : IntKind.i64.wrap ((x : Int) * 256 + (b : Int)) = (x : Int) * 256 + (b : Int) := IntWalk.i64_in _ (by omega)
           go_wp2_with fail
           go_quiet (fail)
           go_wp2
           go_roundg (many - (k + 1))
           case measure => have := HG.out; omega
           case rel => exact ⟨k + 1, by omega, rfl, by rw [HX.out]; go_num, by go_num, hRk.drewN _, hOk.drewN _⟩
          ·obtain rfl : k = many := by omega
           have hb9 : valL ((L.drop (pos + 1)).take k) < 9223372036854775808 := by
            cases k with
            | zero => simp [valL]
            | succ j => exact HB.out j (by omega)
           have hmv := hRk.move (pos + 1 + k) (by omega)
           rw [show ((pos + 1 + k : Nat) : Int) = (pos : Int) + 1 + (k : Int) by omega] at hmv
           have hdd := Lib.hid (show L.drop (pos + 1 + k) = (L.drop (pos + 1)).drop k from (List.drop_drop ..).symm)
           generalize hx : valL ((L.drop (pos + 1)).take k) = x at hb9 ⊢
           have HX := Lib.hid hx
           clear hx
           go_wp2
           go_ret
           exact ⟨pos + 1 + k, by rw [HX.out]; rfl, hdd.out, hmv.1, Only.trans hOk hmv.2⟩
      ·skip
       rw [hdrop, numOk_yes hmany (by omega)]
       rw [if_pos (by omega)]
       have hbd := valL_bound (L.drop (pos + 1)) many
       have HB := Lib.hid (fun k => hbd k hm8 (by omega) (fun e hl => by omega))
       have HV := Lib.hid (valL_snoc (L.drop (pos + 1)))
       have HT := Lib.hid htk
       clear hbd htk
       have d2 : decide ((8 : Int) < (many : Int)) = false := decide_eq_false (by omega)
       have d3 : decide ((128 : Int) ≤ (L[pos].toNat : Int)) = false := decide_eq_false (by omega)
       have d4 : ((many : Int) == 0) = true := by rw [beq_iff_eq]; omega
       have d5 : decide ((0 : Int) < (many : Int)) = false := decide_eq_false (by omega)
       have d6 : decide ((L.length : Int) - (pos : Int) - 1 < (many : Int)) = false := decide_eq_false (by omega)
       have d8 : ((many : Int) == 8) = false := by rw [beq_eq_false_iff_ne]; omega
       go_enter Try.func105, Try.ntmps105
       go_wp2_with fail
       go_quiet (fail)
       go_wp2_with fail
       go_quiet (fail)
       go_wp2_with fail
       go_quiet (fail)
       go_wp2
       go_loopg [6, 7] many (fun gk x6 x7 wr => ∃ k : Nat, k ≤ many ∧ gk = many - k ∧ x6 = .int .i64 ((valL ((L.drop (pos + 1)).take k) : Nat) : Int) ∧ x7 = .int .i64 ((k : Int) + 1) ∧ Rr wr g B (some ad) c L pos false ∧ Only g w wr)
       case atStart => exact ⟨0, Nat.zero_le _, rfl, rfl, rfl, by first | exact hR.drewN _ | exact (hR.drewN _).drewN _, by first | exact (Only.refl _ _).drewN _ | exact ((Only.refl _ _).drewN _).drewN _⟩
       case round =>
        obtain ⟨k, hk, hgk, rfl, rfl, hRk, hOk⟩ := hrel
        have HG := Lib.hid hgk
        have e0 := hRk.c0
        have e1 := hRk.c1
        have ef := hRk.f1
        clear hgk
        by_cases hkm : k < many
        ·omega
        ·obtain rfl : k = many := by omega
         have hb9 : valL ((L.drop (pos + 1)).take k) < 9223372036854775808 := by
          cases k with
          | zero => simp [valL]
          | succ j => exact HB.out j (by omega)
         have hmv := hRk.move (pos + 1 + k) (by omega)
         rw [show ((pos + 1 + k : Nat) : Int) = (pos : Int) + 1 + (k : Int) by omega] at hmv
         have hdd := Lib.hid (show L.drop (pos + 1 + k) = (L.drop (pos + 1)).drop k from (List.drop_drop ..).symm)
         generalize hx : valL ((L.drop (pos + 1)).take k) = x at hb9 ⊢
         have HX := Lib.hid hx
         clear hx
         go_wp2
         go_ret
         exact ⟨pos + 1 + k, by rw [HX.out]; rfl, hdd.out, hmv.1, Only.trans hOk hmv.2⟩
     ·skip
      rw [hdrop, numOk_no hmany (by omega)]
      have d2 : decide ((8 : Int) < (many : Int)) = false := decide_eq_false (by omega)
      have d3 : decide ((128 : Int) ≤ (L[pos].toNat : Int)) = false := decide_eq_false (by omega)
      have d6 : (L.length : Int) - (pos : Int) - 1 < (many : Int) := by omega
      go_enter Try.func105, Try.ntmps105
      go_wp2_with fail
      go_quiet (fail)
      go_wp2_with fail
      go_quiet (fail)
      go_wp2_with fail
      go_quiet (fail)
      go_wp2
      go_ret
      exact ⟨_, rfl, (hR.drewN _).spoil.1, (only_drewN _ (hR.drewN _).spoil.2)⟩
    ·by_cases hm0 : 0 < many
     ·by_cases hmt : many ≤ L.length - (pos + 1)
      ·skip
       obtain ⟨ad4, hA4, _, hcell2⟩ := hR.at_ (pos + 1) (by omega)
       cases hA4
       have ht0 : ∀ h, (L.drop (pos + 1))[0]'h = L[pos + 1] := fun h => by rw [List.getElem_drop]
       have j0 : (0 : Int) ≤ (pos : Int) + 1 := by omega
       have j1 : (pos : Int) + 1 < (L.length : Int) := by omega
       have j2 : ((pos : Int) + 1).toNat = pos + 1 := by omega
       have hb2 := L[pos + 1].toNat_lt
       obtain ⟨b0, hb0⟩ : ∃ b, L[pos + 1].toNat = b := ⟨_, rfl⟩
       rw [hb0] at hcell2 hb2
       rw [add_succ] at hcell2
       by_cases hz : b0 = 0
       ·skip
        rw [hdrop, numOk_no hmany (by rw [headD_get (by omega), ht0]; omega)]
        have d2 : decide ((8 : Int) < (many : Int)) = false := decide_eq_false (by omega)
        have d3 : (128 : Int) ≤ (L[pos].toNat : Int) := by omega
        have d4 : ((many : Int) == 0) = false := by rw [beq_eq_false_iff_ne]; omega
        have d5 : (0 : Int) < (many : Int) := by omega
        have d6 : decide ((L.length : Int) - (pos : Int) - 1 < (many : Int)) = false := decide_eq_false (by omega)
        have d7 : ((b0 : Int) == 0) = true := by rw [beq_iff_eq]; omega
        go_enter Try.func105, Try.ntmps105
        go_wp2_with fail
        go_quiet (fail)
        go_wp2_with fail
        go_quiet (fail)
        go_wp2_with fail
        go_quiet (fail)
        go_wp2
        go_ret
        exact ⟨_, rfl, (hR.drewN _).spoil.1, (only_drewN _ (hR.drewN _).spoil.2)⟩
       ·by_cases h8 : many = 8
        ·by_cases hs : b0 < 128
         ·skip
          rw [hdrop, numOk_yes hmany (by rw [headD_get (by omega), ht0]; omega)]
          rw [if_neg (by omega)]
          have hbd := valL_bound (L.drop (pos + 1)) many
          have HB := Lib.hid (fun k => hbd k hm8 (by omega) (fun e hl => by rw [ht0]; omega))
          have HV := Lib.hid (valL_snoc (L.drop (pos + 1)))
          have HT := Lib.hid htk
          clear hbd htk ht0
          have d2 : decide ((8 : Int) < (many : Int)) = false := decide_eq_false (by omega)
          have d3 : (128 : Int) ≤ (L[pos].toNat : Int) := by omega
          have d4 : ((many : Int) == 0) = false := by rw [beq_eq_false_iff_ne]; omega
          have d5 : (0 : Int) < (many : Int) := by omega
          have d6 : decide ((L.length : Int) - (pos : Int) - 1 < (many : Int)) = false := decide_eq_false (by omega)
          have d7 : ((b0 : Int) == 0) = false := by rw [beq_eq_false_iff_ne]; omega
          have d8 : ((many : Int) == 8) = true := by rw [beq_iff_eq]; omega
          clear h8
          have d9 : decide ((128 : Int) ≤ (b0 : Int)) = false := decide_eq_false (by omega)
          go_enter Try.func105, Try.ntmps105
          go_wp2_with fail
          go_quiet (fail)
          go_wp2_with fail
          go_quiet (fail)
          go_wp2_with fail
          go_quiet (fail)
          go_wp2
          go_loopg [6, 7] many (fun gk x6 x7 wr => ∃ k : Nat, k ≤ many ∧ gk = many - k ∧ x6 = .int .i64 ((valL ((L.drop (pos + 1)).take k) : Nat) : Int) ∧ x7 = .int .i64 ((k : Int) + 1) ∧ Rr wr g B (some ad) c L pos false ∧ Only g w wr)
          case atStart => exact ⟨0, Nat.zero_le _, rfl, rfl, rfl, by first | exact hR.drewN _ | exact (hR.drewN _).drewN _, by first | exact (Only.refl _ _).drewN _ | exact ((Only.refl _ _).drewN _).drewN _⟩
          case round =>
           obtain ⟨k, hk, hgk, rfl, rfl, hRk, hOk⟩ := hrel
           have HG := Lib.hid hgk
           have e0 := hRk.c0
           have e1 := hRk.c1
           have ef := hRk.f1
           clear hgk
           by_cases hkm : k < many
           ·have hb9 := HB.out k hkm
            have hsn := HV.out k (by omega)
            rw [HT.out k (by omega)] at hsn
            obtain ⟨ad3, hA3, _, hcx⟩ := hRk.at_ (pos + 1 + k) (by omega)
            cases hA3
            rw [hsn] at hb9
            have hbk := L[pos + 1 + k].toNat_lt
            generalize hx : valL ((L.drop (pos + 1)).take k) = x at *
            have HX := Lib.hid hsn
            generalize L[pos + 1 + k].toNat = b at *
            clear hsn hx
            have tn : ((pos : Int) + ((k : Int) + 1)).toNat = pos + 1 + k := by omega
            have tl : (0 : Int) ≤ (pos : Int) + ((k : Int) + 1) := by omega
            have tu : (pos : Int) + ((k : Int) + 1) < (L.length : Int) := by omega
            have wa : IntKind.i64.wrap ((x : Int) * 256) = (x : Int) * 256 := IntWalk.i64_in _ (by omega)
            have wb : IntKind.i64.wrap ((pos : Int) + ((k : Int) + 1)) = (pos : Int) + ((k : Int) + 1) := IntWalk.i64_in _ (by omega)
            have wc : IntKind.i64.wrap ((x : Int) * 256 + (b : Int)) = (x : Int) * 256 + (b : Int) := IntWalk.i64_in _ (by omega)
            go_wp2_with fail
            go_quiet (fail)
            go_wp2
            go_roundg (many - (k + 1))
            case measure => have := HG.out; omega
            case rel => exact ⟨k + 1, by omega, rfl, by rw [HX.out]; go_num, by go_num, hRk.drewN _, hOk.drewN _⟩
           ·obtain rfl : k = many := by omega
            have hb9 : valL ((L.drop (pos + 1)).take k) < 9223372036854775808 := by
             cases k with
             | zero => simp [valL]
             | succ j => exact HB.out j (by omega)
            have hmv := hRk.move (pos + 1 + k) (by omega)
            rw [show ((pos + 1 + k : Nat) : Int) = (pos : Int) + 1 + (k : Int) by omega] at hmv
            have hdd := Lib.hid (show L.drop (pos + 1 + k) = (L.drop (pos + 1)).drop k from (List.drop_drop ..).symm)
            generalize hx : valL ((L.drop (pos + 1)).take k) = x at hb9 ⊢
            have HX := Lib.hid hx
            clear hx
            go_wp2
            go_ret
            exact ⟨pos + 1 + k, by rw [HX.out]; rfl, hdd.out, hmv.1, Only.trans hOk hmv.2⟩
         ·skip
          rw [hdrop, numOk_no hmany (by rw [headD_get (by omega), ht0]; omega)]
          have d2 : decide ((8 : Int) < (many : Int)) = false := decide_eq_false (by omega)
          have d3 : (128 : Int) ≤ (L[pos].toNat : Int) := by omega
          have d4 : ((many : Int) == 0) = false := by rw [beq_eq_false_iff_ne]; omega
          have d5 : (0 : Int) < (many : Int) := by omega
          have d6 : decide ((L.length : Int) - (pos : Int) - 1 < (many : Int)) = false := decide_eq_false (by omega)
          have d7 : ((b0 : Int) == 0) = false := by rw [beq_eq_false_iff_ne]; omega
          have d8 : ((many : Int) == 8) = true := by rw [beq_iff_eq]; omega
          clear h8
          have d9 : (128 : Int) ≤ (b0 : Int) := by omega
          go_enter Try.func105, Try.ntmps105
          go_wp2_with fail
          go_quiet (fail)
          go_wp2_with fail
          go_quiet (fail)
          go_wp2_with fail
          go_quiet (fail)
          go_wp2
          go_ret
          exact ⟨_, rfl, (hR.drewN _).spoil.1, (only_drewN _ (hR.drewN _).spoil.2)⟩
        ·skip
         rw [hdrop, numOk_yes hmany (by rw [headD_get (by omega), ht0]; omega)]
         rw [if_neg (by omega)]
         have hbd := valL_bound (L.drop (pos + 1)) many
         have HB := Lib.hid (fun k => hbd k hm8 (by omega) (fun e hl => by rw [ht0]; omega))
         have HV := Lib.hid (valL_snoc (L.drop (pos + 1)))
         have HT := Lib.hid htk
         clear hbd htk ht0
         have d2 : decide ((8 : Int) < (many : Int)) = false := decide_eq_false (by omega)
         have d3 : (128 : Int) ≤ (L[pos].toNat : Int) := by omega
         have d4 : ((many : Int) == 0) = false := by rw [beq_eq_false_iff_ne]; omega
         have d5 : (0 : Int) < (many : Int) := by omega
         have d6 : decide ((L.length : Int) - (pos : Int) - 1 < (many : Int)) = false := decide_eq_false (by omega)
         have d7 : ((b0 : Int) == 0) = false := by rw [beq_eq_false_iff_ne]; omega
         have d8 : ((many : Int) == 8) = false := by rw [beq_eq_false_iff_ne]; omega
         go_enter Try.func105, Try.ntmps105
         go_wp2_with fail
         go_quiet (fail)
         go_wp2_with fail
         go_quiet (fail)
         go_wp2_with fail
         go_quiet (fail)
         go_wp2
         go_loopg [6, 7] many (fun gk x6 x7 wr => ∃ k : Nat, k ≤ many ∧ gk = many - k ∧ x6 = .int .i64 ((valL ((L.drop (pos + 1)).take k) : Nat) : Int) ∧ x7 = .int .i64 ((k : Int) + 1) ∧ Rr wr g B (some ad) c L pos false ∧ Only g w wr)
         case atStart => exact ⟨0, Nat.zero_le _, rfl, rfl, rfl, by first | exact hR.drewN _ | exact (hR.drewN _).drewN _, by first | exact (Only.refl _ _).drewN _ | exact ((Only.refl _ _).drewN _).drewN _⟩
         case round =>
          obtain ⟨k, hk, hgk, rfl, rfl, hRk, hOk⟩ := hrel
          have HG := Lib.hid hgk
          have e0 := hRk.c0
          have e1 := hRk.c1
          have ef := hRk.f1
          clear hgk
          by_cases hkm : k < many
          ·have hb9 := HB.out k hkm
           have hsn := HV.out k (by omega)
           rw [HT.out k (by omega)] at hsn
           obtain ⟨ad3, hA3, _, hcx⟩ := hRk.at_ (pos + 1 + k) (by omega)
           cases hA3
           rw [hsn] at hb9
           have hbk := L[pos + 1 + k].toNat_lt
           generalize hx : valL ((L.drop (pos + 1)).take k) = x at *
           have HX := Lib.hid hsn
           generalize L[pos + 1 + k].toNat = b at *
           clear hsn hx
           have tn : ((pos : Int) + ((k : Int) + 1)).toNat = pos + 1 + k := by omega
           have tl : (0 : Int) ≤ (pos : Int) + ((k : Int) + 1) := by omega
           have tu : (pos : Int) + ((k : Int) + 1) < (L.length : Int) := by omega
           have wa : IntKind.i64.wrap ((x : Int) * 256) = (x : Int) * 256 := IntWalk.i64_in _ (by omega)
           have wb : IntKind.i64.wrap ((pos : Int) + ((k : Int) + 1)) = (pos : Int) + ((k : Int) + 1) := IntWalk.i64_in _ (by omega)
           have wc : IntKind.i64.wrap ((x : Int) * 256 + (b : Int)) = (x : Int) * 256 + (b : Int) := IntWalk.i64_in _ (by omega)
           go_wp2_with fail
           go_quiet (fail)
           go_wp2
           go_roundg (many - (k + 1))
           case measure => have := HG.out; omega
           case rel => exact ⟨k + 1, by omega, rfl, by rw [HX.out]; go_num, by go_num, hRk.drewN _, hOk.drewN _⟩
          ·obtain rfl : k = many := by omega
           have hb9 : valL ((L.drop (pos + 1)).take k) < 9223372036854775808 := by
            cases k with
            | zero => simp [valL]
            | succ j => exact HB.out j (by omega)
           have hmv := hRk.move (pos + 1 + k) (by omega)
           rw [show ((pos + 1 + k : Nat) : Int) = (pos : Int) + 1 + (k : Int) by omega] at hmv
           have hdd := Lib.hid (show L.drop (pos + 1 + k) = (L.drop (pos + 1)).drop k from (List.drop_drop ..).symm)
           generalize hx : valL ((L.drop (pos + 1)).take k) = x at hb9 ⊢
           have HX := Lib.hid hx
           clear hx
           go_wp2
           go_ret
           exact ⟨pos + 1 + k, by rw [HX.out]; rfl, hdd.out, hmv.1, Only.trans hOk hmv.2⟩
      ·skip
       rw [hdrop, numOk_no hmany (by omega)]
       have d2 : decide ((8 : Int) < (many : Int)) = false := decide_eq_false (by omega)
       have d3 : (128 : Int) ≤ (L[pos].toNat : Int) := by omega
       have d4 : ((many : Int) == 0) = false := by rw [beq_eq_false_iff_ne]; omega
       have d5 : (0 : Int) < (many : Int) := by omega
       have d6 : (L.length : Int) - (pos : Int) - 1 < (many : Int) := by omega
       go_enter Try.func105, Try.ntmps105
       go_wp2_with fail
       go_quiet (fail)
       go_wp2_with fail
       go_quiet (fail)
       go_wp2_with fail
       go_quiet (fail)
       go_wp2
       go_ret
       exact ⟨_, rfl, (hR.drewN _).spoil.1, (only_drewN _ (hR.drewN _).spoil.2)⟩
     ·skip
      rw [hdrop, numOk_no hmany (by omega)]
      have d2 : decide ((8 : Int) < (many : Int)) = false := decide_eq_false (by omega)
      have d3 : (128 : Int) ≤ (L[pos].toNat : Int) := by omega
      have d4 : ((many : Int) == 0) = true := by rw [beq_iff_eq]; omega
      have d5 : decide ((0 : Int) < (many : Int)) = false := decide_eq_false (by omega)
      go_enter Try.func105, Try.ntmps105
      go_wp2_with fail
      go_quiet (fail)
      go_wp2_with fail
      go_quiet (fail)
      go_wp2_with fail
      go_quiet (fail)
      go_wp2
      go_ret
      exact ⟨_, rfl, (hR.drewN _).spoil.1, (only_drewN _ (hR.drewN _).spoil.2)⟩
   ·skip
    rw [hdrop, numOk_no hmany (by omega)]
    have d2 : (8 : Int) < (many : Int) := by omega
    go_enter Try.func105, Try.ntmps105
    go_wp2_with fail
    go_quiet (fail)
    go_wp2_with fail
    go_quiet (fail)
    go_wp2_with fail
    go_quiet (fail)
    go_wp2
    go_ret
    exact ⟨_, rfl, (hR.drewN _).spoil.1, (only_drewN _ (hR.drewN _).spoil.2)⟩
  ·have hd : L.drop pos = [] := List.drop_eq_nil_of_le (by omega)
   rw [hd]
   clear hd
   have d1 : (L.length : Int) ≤ (pos : Int) := by omega
   go_enter Try.func105, Try.ntmps105
   go_wp2_with fail
   go_quiet (fail)
   go_wp2
   go_ret
   exact ⟨_, rfl, (hR.drewN _).spoil.1, (only_drewN _ (hR.drewN _).spoil.2)⟩
end
end Go.Proofs.Ytnfpmobmfcgfnaa

/- THE WALK OF octroiref05.Reader.Text. -/
namespace Go.Proofs.Ytnfpmobmfcgfnaa
open Go.RowKit
section
variable {w w' : World} {g B : Nat} {A : Option Addr} {c : Nat} {L : List UInt8} {pos : Nat} {bad : Bool}
/-- s[i:j] of bytes -/
theorem byt_mid {w : World} {B : Nat} {A : Option Addr} {c : Nat} {l : List UInt8} (i j : Nat) (h : Byt w B (.slice A l.length c) l) (hi : i ≤ j) (hj : j ≤ l.length) :
  Byt w B (.slice (if c = i then A else A.map (·.add i)) (j - i) (c - i)) ((l.drop i).take (j - i)) := by
 have h1 := (byt_cut i h (by omega)).2
 rw [show l.length - i = (l.drop i).length by rw [List.length_drop]] at h1
 exact (byt_cut (j - i) h1 (by rw [List.length_drop]; omega)).1
set_option maxRecDepth 100000 in
set_option maxHeartbeats 4000000 in
theorem qtext_any (hR : Rr w g B A c L pos bad) : Calls Try.prog 106 #[.pointer (some ⟨g, 0, none⟩)] w (QPost (fun s : ByteArray => .string s) ⟨#[]⟩ w g B A c L bad (rdText (L.drop pos))) := by
 have hnum := qnum_any hR
 obtain ⟨hcl, hm⟩ := hR.cap
 cases bad with
 | true =>
  go_enter Try.func106, Try.ntmps106
  go_wp2_with (go_at_call 105; refine hnum.mono ?_; rintro e w1 ⟨p, rfl, hR1, hO1⟩; have c2 := hR1.c2; have f2 := hR1.f2)
  go_quiet (fail)
  go_wp2
  go_ret
  exact ⟨_, rfl, (hR1.drewN _).spoil.1, Only.trans hO1 (only_drewN _ (hR1.drewN _).spoil.2)⟩
 | false =>
  unfold rdText
  cases hr : rdNum (L.drop pos) with
  | none =>
   rw [hr] at hnum
   clear hr
   go_enter Try.func106, Try.ntmps106
   go_wp2_with (go_at_call 105; refine hnum.mono ?_; rintro e w1 ⟨p, rfl, hR1, hO1⟩; have c2 := hR1.c2; have f2 := hR1.f2)
   go_quiet (fail)
   go_wp2
   go_ret
   exact ⟨_, rfl, (hR1.drewN _).spoil.1, Only.trans hO1 (only_drewN _ (hR1.drewN _).spoil.2)⟩
  | some q =>
   obtain ⟨n, t⟩ := q
   obtain ⟨r1, r2⟩ := rdNum_range hr
   rw [hr] at hnum
   clear hr
   show Calls Try.prog 106 #[.pointer (some ⟨g, 0, none⟩)] w (QPost (fun s : ByteArray => .string s) ⟨#[]⟩ w g B A c L false (if 0 ≤ n ∧ n ≤ 65536 ∧ n ≤ t.length then some (⟨(t.take n.toNat).toArray⟩, t.drop n.toNat) else none))
   by_cases hok : 0 ≤ n ∧ n ≤ 65536 ∧ n ≤ t.length
   ·rw [if_pos hok]
    obtain ⟨k, rfl⟩ : ∃ k : Nat, n = (k : Int) := ⟨n.toNat, by omega⟩
    rw [Int.toNat_natCast]
    have d0 : decide ((k : Int) < 0) = false := decide_eq_false (by omega)
    have d1 : decide ((65536 : Int) < (k : Int)) = false := decide_eq_false (by omega)
    go_enter Try.func106, Try.ntmps106
    go_wp2_with (go_at_call 105; refine hnum.mono ?_; rintro e w1 ⟨p, rfl, hd, hR1, hO1⟩; have c0 := hR1.c0; have c1 := hR1.c1; have c2 := hR1.c2; have f1 := hR1.f1)
    have hpp := hR1.pos_le
    have htl : t.length = L.length - p := by rw [← hd, List.length_drop]
    have w1' : IntKind.i64.wrap ((L.length : Int) - (p : Int)) = (L.length : Int) - (p : Int) := IntWalk.i64_in _ (by omega)
    have w2' : IntKind.i64.wrap ((p : Int) + (k : Int)) = (p : Int) + (k : Int) := IntWalk.i64_in _ (by omega)
    have d2 : decide ((L.length : Int) - (p : Int) < (k : Int)) = false := decide_eq_false (by omega)
    have i1 : (0 : Int) ≤ (p : Int) := by omega
    have i2 : (p : Int) ≤ (p : Int) + (k : Int) := by omega
    have i3 : (p : Int) + (k : Int) ≤ (c : Int) := by omega
    have n1 : ((p : Int) + (k : Int)).toNat = p + k := by omega
    have hmid := byt_mid p (p + k) hR1.byt (by omega) (by omega)
    rw [show p + k - p = k by omega, hd] at hmid
    have hstr : ∀ n : Nat, (convert 59 9 (.slice (if c = p then A else A.map (·.add p)) k (c - p))).run Try.prog (w1.drewN n) = .ok (.string ⟨(t.take k).toArray⟩) (w1.drewN n) := fun n => Byt.str (w := w1.drewN n) hmid
    have HD := Lib.hid hd
    have hle : p + k ≤ L.length := by omega
    have HM := Lib.hid (fun n : Nat => (hR1.drewN n).move (p + k) hle)
    rw [show ((p + k : Nat) : Int) = (p : Int) + (k : Int) by omega] at HM
    clear hd htl hmid hnum hle
    have HT := Lib.hid (show L.drop (p + k) = t.drop k by rw [← HD.out, List.drop_drop])
    by_cases hcp : c = p
    ·subst hcp
     rw [if_pos rfl, Nat.sub_self] at hstr
     clear HD
     go_quiet (fail)
     go_wp2_with fail
     go_quiet (fail)
     go_wp2
     go_ret
     exact ⟨_, rfl, HT.out, (HM.out _).1, Only.trans hO1 (only_drewN _ (HM.out _).2)⟩
    ·rw [if_neg hcp] at hstr
     go_quiet (fail)
     go_wp2_with fail
     go_quiet (fail)
     go_wp2
     go_ret
     exact ⟨_, rfl, HT.out, (HM.out _).1, Only.trans hO1 (only_drewN _ (HM.out _).2)⟩
   ·rw [if_neg hok]
    by_cases h0 : n < 0
    ·go_enter Try.func106, Try.ntmps106
     go_wp2_with (go_at_call 105; refine hnum.mono ?_; rintro e w1 ⟨p, rfl, hd, hR1, hO1⟩; have c0 := hR1.c0; have c1 := hR1.c1; have c2 := hR1.c2; have f2 := hR1.f2)
     clear hd
     go_quiet (fail)
     go_wp2
     go_ret
     exact ⟨_, rfl, (hR1.drewN _).spoil.1, Only.trans hO1 (only_drewN _ (hR1.drewN _).spoil.2)⟩
    ·have d0 : decide (n < 0) = false := decide_eq_false h0
     by_cases h6 : (65536 : Int) < n
     ·go_enter Try.func106, Try.ntmps106
      go_wp2_with (go_at_call 105; refine hnum.mono ?_; rintro e w1 ⟨p, rfl, hd, hR1, hO1⟩; have c0 := hR1.c0; have c1 := hR1.c1; have c2 := hR1.c2; have f2 := hR1.f2)
      clear hd
      go_quiet (fail)
      go_wp2
      go_ret
      exact ⟨_, rfl, (hR1.drewN _).spoil.1, Only.trans hO1 (only_drewN _ (hR1.drewN _).spoil.2)⟩
     ·have d1 : decide ((65536 : Int) < n) = false := decide_eq_false h6
      have h7 : (t.length : Int) < n := by omega
      go_enter Try.func106, Try.ntmps106
      go_wp2_with (go_at_call 105; refine hnum.mono ?_; rintro e w1 ⟨p, rfl, hd, hR1, hO1⟩; have c0 := hR1.c0; have c1 := hR1.c1; have c2 := hR1.c2; have f2 := hR1.f2)
      have hpp := hR1.pos_le
      have htl : t.length = L.length - p := by rw [← hd, List.length_drop]
      have w1' : IntKind.i64.wrap ((L.length : Int) - (p : Int)) = (L.length : Int) - (p : Int) := IntWalk.i64_in _ (by omega)
      have d2 : (L.length : Int) - (p : Int) < n := by omega
      clear htl
      clear hd
      go_quiet (fail)
      go_wp2
      go_ret
      exact ⟨_, rfl, (hR1.drewN _).spoil.1, Only.trans hO1 (only_drewN _ (hR1.drewN _).spoil.2)⟩
end
end Go.Proofs.Ytnfpmobmfcgfnaa

