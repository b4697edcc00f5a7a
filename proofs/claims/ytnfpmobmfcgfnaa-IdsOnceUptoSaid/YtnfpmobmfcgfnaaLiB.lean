/- THE WALK OF octroilaw29.light. -/
import Derived.Test.YtnfpmobmfcgfnaaLiA
namespace Go.Proofs.Ytnfpmobmfcgfnaa
open Go.RowKit
def Dm.cm (o : Dm) : Cm := ⟨0, ⟨#[]⟩, ⟨#[]⟩, 0, 0, 0, 0, 0, 0, 0, 0, 0, 0, o⟩
theorem Dm.cm_ok {o : Dm} (h : o.ok) : o.cm.ok := ⟨i64_zero, len_zero, len_zero, i64_zero, i64_zero, i64_zero, i64_zero, i64_zero, i64_zero, i64_zero, i64_zero, i64_zero, i64_zero, h⟩
set_option maxRecDepth 100000 in
theorem build_cm (w : World) (o : Dm) (lv : Value) : (Instr.build 53 #[(11, .agg (o.vs lv))]).run Try.prog w = .ok (.agg (o.cm.vs lv)) w := run_build w 53 _ _ (by kernel_rfl)
def LightsPost (os : List Dm) (w : World) (e : Ending) (w' : World) : Prop :=
  ∃ b, e = .returned (.bool b) ∧ (b = true → os.length ≤ 40 ∧ ∀ o ∈ os, o.ls.length ≤ 70) ∧ Below w.heap.size w w'
theorem LightsPost.no {os : List Dm} {w w' : World} (h : Below w.heap.size w w') : LightsPost os w (.returned (.bool false)) w' := ⟨false, rfl, fun h => by simp at h, h⟩
theorem LightsPost.end_ {os : List Dm} {w w' : World} (h : Below w.heap.size w w') (hal : ∀ o ∈ os, o.ls.length ≤ 70) : LightsPost os w (.returned (.bool (decide ((os.length : Int) ≤ 40)))) w' := ⟨_, rfl, fun h => ⟨by have := of_decide_eq_true h; omega, hal⟩, h⟩
set_option maxRecDepth 100000 in
set_option maxHeartbeats 4000000 in
theorem lights_any {w : World} {B : Nat} {v : Value} {os : List Dm} (hs : Docs w B v os) (hB : B ≤ w.heap.size) : Calls Try.prog 10 #[v] w (LightsPost os w) := by
  obtain ⟨A, c, rfl, hcl, hcm⟩ := hs.form
  have HS := Lib.hid hs
  clear hs
  go_enter Try.func10, Try.ntmps10
  go_wp2
  go_loopg [4, 7] os.length (fun gk x4 x7 wr => ∃ k : Nat, gk = os.length - k ∧ k ≤ os.length ∧ x7 = .int .i64 (k : Int) ∧ (∀ j, (h : j < os.length) → j < k → os[j].ls.length ≤ 70) ∧ Below w.heap.size w wr)
  case atStart => exact ⟨0, rfl, Nat.zero_le _, rfl, fun j _ h => by omega, Below.refl _ _⟩
  case round =>
    obtain ⟨k, hgk, hk, rfl, hal, hbel⟩ := hrel
    have HG := Lib.hid hgk
    have HA := Lib.hid hal
    have hwr := hbel.size
    clear hgk hal
    by_cases h : k < os.length
    · obtain ⟨ad, c', t, hv, hadB, hat, hln, hok⟩ := (HS.out.below (hbel.mono hB)).at_ k h
      cases hv
      have i1 : (0 : Int) ≤ (k : Int) := by omega
      have i2 : (k : Int) < (os.length : Int) := by omega
      have i3 : IntKind.i64.wrap ((k : Int) + 1) = (k : Int) + 1 := by rw [IntKind.wrap_i64]; omega
      have hstep : os[k].ls.length ≤ 70 → ∀ j, (h : j < os.length) → j < k + 1 → os[j].ls.length ≤ 70 := fun h7 j hj hjk => by
        by_cases e : j = k
        · subst e; exact h7
        · exact HA.out j hj (by omega)
      have hB2 := hbel.alloc hwr (.cells (os[k].vs (triV t)) 25)
      have hlg := light8_any (w := wr.alloc (.cells (os[k].vs (triV t)) 25)) (B := wr.heap.size) (v := .agg (os[k].cm.vs (triV t))) (o := os[k].cm) ⟨triV t, rfl, (hln.more (Nat.le_trans hB hwr)).below ((Below.refl _ _).alloc (Nat.le_refl _) _), Dm.cm_ok hok⟩ (by simp)
      have hbd := fun W => build_cm W os[k] (triV t)
      generalize os[k] = o at *
      obtain ⟨id, sale, cred, ref, day, cty, num, cur, ls⟩ := o
      obtain ⟨ta, tn, tc⟩ := t
      obtain ⟨c0, c1, c2, c3, c4, c5, c6, c7, c8⟩ := hat
      simp only [triV, Dm.vs, Dm.cm] at c0 c1 c2 c3 c4 c5 c6 c7 c8 hlg hbd hB2 hstep
      simp only [Cm.vs] at hbd hlg
      have HB2 := Lib.hid hB2
      have HLG := Lib.hid hlg
      have HST := Lib.hid hstep
      clear hln hok hbel hB2 hlg hstep
      go_upto_region 4 with fail
      go_wp2_with (go_at_call 24; (with_reducible refine HLG.out.mono ?_); rintro e w2 ⟨b, rfl, hb, hb2⟩; have HBB := Lib.hid hb; have HB3 := Lib.hid (HB2.out.trans (hb2.mono HB2.out.size)); clear hb hb2; cases b)
      · go_ret
        exact LightsPost.no HB3.out
      · go_roundg (os.length - (k + 1))
        case measure => have := HG.out; omega
        case rel => exact ⟨k + 1, rfl, by omega, by simp, HST.out (HBB.out (by simp)).2.2, HB3.out⟩
    · obtain rfl : k = os.length := by omega
      go_wp2
      go_ret
      refine LightsPost.end_ hbel fun o ho => ?_
      obtain ⟨j, hj, rfl⟩ := List.getElem_of_mem ho
      exact HA.out j hj hj
end Go.Proofs.Ytnfpmobmfcgfnaa
