/- THE WALK OF octroilaw09.lives. -/
import Derived.Test.YtmcjefdnkcpghaaSeO
import Derived.Test.YtmcjefdnkcpghaaGrowB
namespace Go.Proofs.Ytmcjefdnkcpghaa
open Go.RowKit
def fA : List UInt8 := List.replicate 64 97
def fB : List UInt8 := List.replicate 64 98
def lv1 : Dv := ⟨1, fA, none, false, 1⟩
def lv2 : Dv := ⟨1, fA, some (0, 2), false, 1⟩
def lv3 : Dv := ⟨1, fB.take 2 ++ fA.drop 2, none, true, 1⟩
def lv4 : Dv := ⟨1, fB.take 2 ++ fA.drop 2, none, false, 1⟩
theorem lv_w1 : (Dv.new 1).write 0 fA = (lv1, 0) := by rfl
theorem lv_f : lv1.fuses 0 2 = (lv2, 0) := by rfl
theorem lv_w2 : lv2.write 0 fB = (lv3, 32) := by rfl
theorem lv_p : { lv3 with fuse := none, dead := false } = lv4 := by rfl
theorem lv_r : lv4.can 0 = 0 ∧ page lv4.L 0 = fB.take 2 ++ fA.drop 2 := ⟨by rfl, by rfl⟩
theorem Kept.lo {w w' : World} {Z : Nat → Prop} {B : Nat} (h : Kept (fun b => ¬ Z b) w w') (hB : ∀ b, Z b → B ≤ b) (hw : B ≤ w.heap.size) : Below B w w' := h.toBelow hw (fun b hb hz => by have := hB b hz; omega)
def lM : List UInt8 := fB.take 2 ++ fA.drop 2
theorem lv_read {w : World} {Z : Nat → Prop} {g : Nat} (h : Dk w Z g lv4) : Calls Try.prog 39 #[.pointer (some ⟨g, 0, none⟩), .int .i64 0] w fun e w' => ∃ r, e = .returned (.tuple #[r, .int .i64 0]) ∧ Own w' w.heap.size r lM ∧ Below w.heap.size w w' := by
  have := read_any h 0
  unfold ReadPost at this
  rw [lv_r.1, if_pos rfl, show page lv4.L (Int.toNat 0) = lM from lv_r.2] at this
  exact this
theorem lv_eq : bsA lM = ⟨#[98, 98]⟩ ++ bsA (fA.drop 2) := by
  rw [show (⟨#[98, 98]⟩ : ByteArray) = bsA [98, 98] from rfl, bsA_app]
  rfl
theorem run_tail2 (W : World) (ad : Addr) (n c : Nat) (h2 : 2 ≤ n) (hc : n ≤ c) (hm : c ≤ 2 ^ 63 - 1) (hcp : ¬ c = 2) : (Instr.slice 23 (.slice (some ad) n c) (some (.int .i64 2)) none none).run Try.prog W = .ok (.slice (some (ad.add 2)) (n - 2) (c - 2)) W := by
  have h3 : (2 : Int) ≤ (n : Int) := by omega
  have h4 : (2 : Int) ≤ (c : Int) := by omega
  go_simp
theorem byt_tail2 {W : World} {B : Nat} {v : Value} {l : List UInt8} (h : Byt W B v l) (h2 : 2 < l.length) : ∃ v', (Instr.slice 23 v (some (.int .i64 2)) none none).run Try.prog W = .ok v' W ∧ Byt W B v' (l.drop 2) := by
  obtain ⟨A, c, rfl, hc, hm, hx⟩ := h
  obtain ⟨ad, rfl, hb, hj⟩ := hx (by omega)
  refine ⟨_, run_tail2 W ad l.length c (by omega) hc hm (by omega), some (ad.add 2), c - 2, by rw [List.length_drop], by rw [List.length_drop]; omega, by omega, fun _ => ⟨_, rfl, by rw [addr_add_block]; exact hb, fun j x hjx => ?_⟩⟩
  rw [addr_add_add]
  rw [List.getElem?_drop] at hjx
  exact hj _ _ hjx
set_option maxRecDepth 100000 in
set_option maxHeartbeats 4000000 in
theorem lives_any (w : World) : Calls Try.prog 33 #[] w fun e w' => e = .returned (.bool true) ∧ Below w.heap.size w w' := by
  have hnew : ∀ w, Calls Try.prog 34 #[.int .i64 1] w fun e w' => ∃ g, e = .returned (.pointer (some ⟨g, 0, none⟩)) ∧ Dk w' (fun b => w.heap.size ≤ b ∧ b < w'.heap.size) g (Dv.new 1) ∧ Below w.heap.size w w' := new_any 1 (Nat.le_refl _) (by omega)
  have hfa : ∀ w, Calls Try.prog 36 #[.int .u8 97] w (FillPost w 97) := fill_any 97
  have hfb : ∀ w, Calls Try.prog 36 #[.int .u8 98] w (FillPost w 98) := fill_any 98
  go_enter Try.func33, Try.ntmps33
  go_wp2_with (first
    | (go_at_call 34; (with_reducible refine (hnew _).mono ?_); rintro e w1 ⟨g, rfl, hd1, hb1⟩)
    | (go_at_call 36; (with_reducible refine (hfa _).mono ?_); rintro e w2 ⟨v2, rfl, hv2, hb2⟩
       have hd2 := hd1.below hb2
       have B2 := hb1.trans (hb2.mono hb1.size)
       have hw3 := write_any hd2 0 hv2 (by decide))
    | (go_at_call 35; (with_reducible refine hw3.mono ?_); rintro e w3 ⟨he3, hd3, hk3⟩
       rw [show (Dv.new 1).write 0 (List.replicate 64 97) = (lv1, 0) from lv_w1] at he3 hd3
       subst he3
       have B3 := B2.trans (hk3.lo (fun _ h => h.1) B2.size)
       have hf4 := fuse_any hd3 0 2 (by decide))
    | (go_at_call 37; (with_reducible refine hf4.mono ?_); rintro e w4 ⟨he4, hd4, hk4⟩
       rw [show lv1.fuses 0 2 = (lv2, 0) from lv_f] at he4 hd4
       subst he4
       have B4 := B3.trans (hk4.lo (fun _ h => h.1) B3.size))
    | (go_at_call 36; (with_reducible refine (hfb _).mono ?_); rintro e w5 ⟨v5, rfl, hv5, hb5⟩
       have hd5 := hd4.below hb5
       have B5 := B4.trans (hb5.mono B4.size)
       have hw6 := write_any hd5 0 hv5 (by decide))
    | (go_at_call 35; (with_reducible refine hw6.mono ?_); rintro e w6 ⟨he6, hd6, hk6⟩
       rw [show lv2.write 0 (List.replicate 64 98) = (lv3, 32) from lv_w2] at he6 hd6
       subst he6
       have B6 := B5.trans (hk6.lo (fun b h => h.elim (fun h => h.1) (fun h => Nat.le_trans B3.size h.1)) B5.size)
       have hde : Calls Try.prog 88 #[.pointer (some ⟨g, 0, none⟩)] w6 fun e w' => e = .returned (.bool true) ∧ w6 = w' := sdead_any hd6)
    | (go_at_call 88; (with_reducible refine hde.mono ?_); rintro e w7 ⟨rfl, rfl⟩
       have hpo := power_any hd6)
    | (go_at_call 45; (with_reducible refine hpo.mono ?_); rintro e w8 ⟨rfl, hd8, hk8⟩
       have B8 := B6.trans (hk8.lo (fun b h => h.elim (fun h => h.1) (fun h => Nat.le_trans B3.size h.1)) B6.size)
       have hre := lv_read hd8)
    | (go_at_call 39; (with_reducible refine hre.mono ?_); rintro e w9 ⟨r, rfl, ho9, hb9⟩
       have B9 := B8.trans (hb9.mono B8.size)))
  have HO := Lib.hid ho9
  clear ho9
  -- region 5
  refine wp_region_sp (by kernel_rfl) [isS (.int .i64 0), isS (.bool true), isS (.bool true), isS (r), isS (.string (bsA lM)), bytS fA, bytS (fA.drop 2), isS (.string (bsA (fA.drop 2))), isS (.string (⟨#[98, 98]⟩ ++ bsA (fA.drop 2))), isS (.bool true), isS (.bool true), isS (.bool true)] (by kernel_rfl) (by kernel_rfl) (fun i hi => ?_) (fun a w5 hc hs => ?_)
  · match i, hi with
    | 0, _ =>
      intro a W hc hd
      have z3 := hc.same 3 (by kernel_rfl)
      simp only [List.getElem?_toArray, List.getElem?_cons_succ, List.getElem?_cons_zero, Option.getD_some] at z3
      refine obl_val rfl (wanted_none rfl) ?_ rfl
      go_simp
    | 1, _ =>
      intro a W hc hd
      have s0 : a.tmps[39]?.getD undef = (.int .i64 0) := hd 0 (by kernel_rfl)
      refine obl_val rfl (wanted_none rfl) ?_ rfl
      go_simp
    | 2, _ =>
      intro a W hc hd
      have s1 : a.tmps[40]?.getD undef = (.bool true) := hd 1 (by kernel_rfl)
      refine obl_val rfl (wanted_none rfl) ?_ rfl
      go_simp
    | 3, _ =>
      intro a W hc hd
      have z2 := hc.same 2 (by kernel_rfl)
      have s2 : a.tmps[41]?.getD undef = (.bool true) := hd 2 (by kernel_rfl)
      simp only [List.getElem?_toArray, List.getElem?_cons_succ, List.getElem?_cons_zero, Option.getD_some] at z2
      refine obl_val rfl (wanted_some rfl rfl s2) ?_ rfl
      go_simp
    | 4, _ =>
      intro a W hc hd
      have s3 : a.tmps[42]?.getD undef = (r) := hd 3 (by kernel_rfl)
      have s2 : a.tmps[41]?.getD undef = (.bool true) := hd 2 (by kernel_rfl)
      have e4 : (convert 23 9 r).run Try.prog W = .ok (.string (bsA lM)) W := (HO.out.byt.drew.below hc.below).str
      refine obl_val rfl (wanted_some rfl rfl s2) ?_ rfl
      go_simp
    | 5, _ =>
      intro a W hc hd
      have s2 : a.tmps[41]?.getD undef = (.bool true) := hd 2 (by kernel_rfl)
      refine obl_call rfl (wanted_some rfl rfl s2) (by go_simp) (hfa W) ?_
      rintro e w8 ⟨v8, rfl, hv8, hb8⟩
      exact ⟨_, rfl, hv8, hb8⟩
    | 6, _ =>
      intro a W hc hd
      have s5 : (bytS fA).f (a.tmps[44]?.getD undef) W := hd 5 (by kernel_rfl)
      have s2 : a.tmps[41]?.getD undef = (.bool true) := hd 2 (by kernel_rfl)
      obtain ⟨v6, e6, hb6⟩ := byt_tail2 (show Byt W W.heap.size _ fA from s5) (by decide)
      refine obl_val rfl (wanted_some rfl rfl s2) ?_ hb6
      go_simp
    | 7, _ =>
      intro a W hc hd
      have s6 : (bytS (fA.drop 2)).f (a.tmps[45]?.getD undef) W := hd 6 (by kernel_rfl)
      have s2 : a.tmps[41]?.getD undef = (.bool true) := hd 2 (by kernel_rfl)
      have e7 : (convert 23 9 (a.tmps[45]?.getD undef)).run Try.prog W = .ok (.string (bsA (fA.drop 2))) W := (show Byt W W.heap.size _ _ from s6).str
      refine obl_val rfl (wanted_some rfl rfl s2) ?_ rfl
      go_simp
    | 8, _ =>
      intro a W hc hd
      have s7 : a.tmps[46]?.getD undef = (.string (bsA (fA.drop 2))) := hd 7 (by kernel_rfl)
      have s2 : a.tmps[41]?.getD undef = (.bool true) := hd 2 (by kernel_rfl)
      refine obl_val rfl (wanted_some rfl rfl s2) ?_ rfl
      go_simp
      rw [bsA_size]; decide
    | 9, _ =>
      intro a W hc hd
      have s4 : a.tmps[43]?.getD undef = (.string (bsA lM)) := hd 4 (by kernel_rfl)
      have s8 : a.tmps[47]?.getD undef = (.string (⟨#[98, 98]⟩ ++ bsA (fA.drop 2))) := hd 8 (by kernel_rfl)
      have s2 : a.tmps[41]?.getD undef = (.bool true) := hd 2 (by kernel_rfl)
      refine obl_val rfl (wanted_some rfl rfl s2) ?_ rfl
      go_simp
      exact congrArg ByteArray.toList lv_eq
    | 10, _ =>
      intro a W hc hd
      have s2 : a.tmps[41]?.getD undef = (.bool true) := hd 2 (by kernel_rfl)
      have s9 : a.tmps[48]?.getD undef = (.bool true) := hd 9 (by kernel_rfl)
      refine obl_val rfl (wanted_none rfl) ?_ rfl
      go_simp
    | 11, _ =>
      intro a W hc hd
      have s10 : a.tmps[49]?.getD undef = (.bool true) := hd 10 (by kernel_rfl)
      refine obl_val rfl (wanted_none rfl) ?_ rfl
      go_simp
    | n + 12, h => exact absurd h (by simp)
  -- end 5
  · have h0 : a.tmps[0]?.getD undef = .bool true := hs 11 0 (by decide) (by kernel_rfl)
    have hB := B9.drew.trans (hc.below.mono B9.size)
    have hdf : a.defers = [] := hc.defers
    clear hs hc
    go_wp2
    refine bodyPost_ret (results_tmp rfl _ _ _) hdf ⟨?_, hB⟩
    rw [Array.getD_eq_getD_getElem?, h0]
end Go.Proofs.Ytmcjefdnkcpghaa
