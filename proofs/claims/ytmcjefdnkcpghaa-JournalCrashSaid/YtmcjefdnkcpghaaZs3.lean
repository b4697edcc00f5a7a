/- THE WALK OF octroilaw09.lives. -/
import Derived.Test.YtmcjefdnkcpghaaZs2
import Derived.Test.YtmcjefdnkcpghaaZg
import Derived.Test.YtmcjefdnkcpghaaMem
namespace Go.Proofs.Ytmcjefdnkcpghaa
open Go.RowKit
def fA : List UInt8 := List.replicate 64 97
def fB : List UInt8 := List.replicate 64 98
def lv1 : Dv := ⟨1, fA, none, false, 1⟩
def lv2 : Dv := ⟨1, fA, some (0, 2), false, 1⟩
def lv3 : Dv := ⟨1, fB.take 2 ++ fA.drop 2, none, true, 1⟩
def lv4 : Dv := ⟨1, fB.take 2 ++ fA.drop 2, none, false, 1⟩
theorem lv_w1 : (Dv.new 1).write 0 fA = (lv1, 0) := by rfl
theorem lv_f : lv1.fuses 0 2 = (lv2, 0) := by rfl
theorem lv_w2 : lv2.write 0 fB = (lv3, 32) := by rfl
theorem lv_p : { lv3 with fuse := none, dead := false } = lv4 := by rfl
theorem lv_r : lv4.can 0 = 0 ∧ page lv4.L 0 = fB.take 2 ++ fA.drop 2 := ⟨by rfl, by rfl⟩
theorem Kept.lo {w w' : World} {Z : Nat → Prop} {B : Nat} (h : Kept (fun b => ¬ Z b) w w') (hB : ∀ b, Z b → B ≤ b) (hw : B ≤ w.heap.size) : Below B w w' := h.toBelow hw (fun b hb hz => by have := hB b hz; omega)
def lM : List UInt8 := fB.take 2 ++ fA.drop 2
theorem lv_read {w : World} {Z : Nat → Prop} {g : Nat} (h : Dk w Z g lv4) : Calls Try.prog 39 #[.pointer (some ⟨g, 0, none⟩), .int .i64 0] w fun e w' => ∃ r, e = .returned (.tuple #[r, .int .i64 0]) ∧ Own w' w.heap.size r lM ∧ Below w.heap.size w w' := by
  have := read_any h 0
  unfold ReadPost at this
  rw [lv_r.1, if_pos rfl, show page lv4.L (Int.toNat 0) = lM from lv_r.2] at this
  exact this
theorem lv_eq : bsA lM = ⟨#[98, 98]⟩ ++ bsA (fA.drop 2) := by
  rw [show (⟨#[98, 98]⟩ : ByteArray) = bsA [98, 98] from rfl, bsA_app]
  rfl
theorem run_tail2 (W : World) (ad : Addr) (n c : Nat) (h2 : 2 ≤ n) (hc : n ≤ c) (hm : c ≤ 2 ^ 63 - 1) (hcp : ¬ c = 2) : (Instr.slice 23 (.slice (some ad) n c) (some (.int .i64 2)) none none).run Try.prog W = .ok (.slice (some (ad.add 2)) (n - 2) (c - 2)) W := by
  have h3 : (2 : Int) ≤ (n : Int) := by omega
  have h4 : (2 : Int) ≤ (c : Int) := by omega
  go_simp
theorem byt_tail2 {W : World} {B : Nat} {v : Value} {l : List UInt8} (h : Byt W B v l) (h2 : 2 < l.length) : ∃ v', (Instr.slice 23 v (some (.int .i64 2)) none none).run Try.prog W = .ok v' W ∧ Byt W B v' (l.drop 2) := by
  obtain ⟨A, c, rfl, hc, hm, hx⟩ := h
  obtain ⟨ad, rfl, hb, hj⟩ := hx (by omega)
  refine ⟨_, run_tail2 W ad l.length c (by omega) hc hm (by omega), some (ad.add 2), c - 2, by rw [List.length_drop], by rw [List.length_drop]; omega, by omega, fun _ => ⟨_, rfl, by rw [addr_add_block]; exact hb, fun j x hjx => ?_⟩⟩
  rw [addr_add_add]
  rw [List.getElem?_drop] at hjx
  exact hj _ _ hjx
set_option maxRecDepth 100000 in
set_option maxHeartbeats 4000000 in
theorem lives_any (w : World) : Calls Try.prog 33 #[] w fun e w' => e = .returned (.bool true) ∧ Below w.heap.size w w' := by
  have hnew : ∀ w, Calls Try.prog 34 #[.int .i64 1] w fun e w' => ∃ g, e = .returned (.pointer (some ⟨g, 0, none⟩)) ∧ Dk w' (fun b => w.heap.size ≤ b ∧ b < w'.heap.size) g (Dv.new 1) ∧ Below w.heap.size w w' := new_any 1 (Nat.le_refl _) (by omega)
  have hfa : ∀ w, Calls Try.prog 36 #[.int .u8 97] w (FillPost w 97) := fill_any 97
  have hfb : ∀ w, Calls Try.prog 36 #[.int .u8 98] w (FillPost w 98) := fill_any 98
  go_enter Try.func33, Try.ntmps33
  go_wp2_with (first
    | (go_at_call 34; (with_reducible refine (hnew _).mono ?_); rintro e w1 ⟨g, rfl, hd1, hb1⟩)
    | (go_at_call 36; (with_reducible refine (hfa _).mono ?_); rintro e w2 ⟨v2, rfl, hv2, hb2⟩
       have hd2 := hd1.below hb2
       have B2 := hb1.trans (hb2.mono hb1.size)
       have hw3 := write_any hd2 0 hv2 (by decide))
    | (go_at_call 35; (with_reducible refine hw3.mono ?_); rintro e w3 ⟨he3, hd3, hk3⟩
       rw [show (Dv.new 1).write 0 (List.replicate 64 97) = (lv1, 0) from lv_w1] at he3 hd3
       subst he3
       have B3 := B2.trans (hk3.lo (fun _ h => h.1) B2.size)
       have hf4 := fuse_any hd3 0 2 (by decide))
    | (go_at_call 37; (with_reducible refine hf4.mono ?_); rintro e w4 ⟨he4, hd4, hk4⟩
       rw [show lv1.fuses 0 2 = (lv2, 0) from lv_f] at he4 hd4
       subst he4
       have B4 := B3.trans (hk4.lo (fun _ h => h.1) B3.size))
    | (go_at_call 36; (with_reducible refine (hfb _).mono ?_); rintro e w5 ⟨v5, rfl, hv5, hb5⟩
       have hd5 := hd4.below hb5
       have B5 := B4.trans (hb5.mono B4.size)
       have hw6 := write_any hd5 0 hv5 (by decide))
    | (go_at_call 35; (with_reducible refine hw6.mono ?_); rintro e w6 ⟨he6, hd6, hk6⟩
       rw [show lv2.write 0 (List.replicate 64 98) = (lv3, 32) from lv_w2] at he6 hd6
       subst he6
       have B6 := B5.trans (hk6.lo (fun b h => h.elim (fun h => h.1) (fun h => Nat.le_trans B3.size h.1)) B5.size)
       have hde : Calls Try.prog 88 #[.pointer (some ⟨g, 0, none⟩)] w6 fun e w' => e = .returned (.bool true) ∧ w6 = w' := sdead_any hd6)
    | (go_at_call 88; (with_reducible refine hde.mono ?_); rintro e w7 ⟨rfl, rfl⟩
       have hpo := power_any hd6)
    | (go_at_call 45; (with_reducible refine hpo.mono ?_); rintro e w8 ⟨rfl, hd8, hk8⟩
       have B8 := B6.trans (hk8.lo (fun b h => h.elim (fun h => h.1) (fun h => Nat.le_trans B3.size h.1)) B6.size)
       have hre := lv_read hd8)
    | (go_at_call 39; (with_reducible refine hre.mono ?_); rintro e w9 ⟨r, rfl, ho9, hb9⟩
       have B9 := B8.trans (hb9.mono B8.size)))
  have HO := Lib.hid ho9
  clear ho9
  -- region 5
  refine wp_region_sp (by kernel_rfl) [isS (.int .i64 0), isS (.bool true), isS (.bool true), isS (r), isS (.string (bsA lM)), bytS fA, bytS (fA.drop 2), isS (.string (bsA (fA.drop 2))), isS (.string (⟨#[98, 98]⟩ ++ bsA (fA.drop 2))), isS (.bool true), isS (.bool true), isS (.bool true)] (by kernel_rfl) (by kernel_rfl) (fun i hi => ?_) (fun a w5 hc hs => ?_)
  · match i, hi with
    | 0, _ =>
      intro a W hc hd
      have z3 := hc.same 3 (by kernel_rfl)
      simp only [List.getElem?_toArray, List.getElem?_cons_succ, List.getElem?_cons_zero, Option.getD_some] at z3
      refine obl_val rfl (wanted_none rfl) ?_ rfl
      go_simp
    | 1, _ =>
      intro a W hc hd
      have s0 : a.tmps[39]?.getD undef = (.int .i64 0) := hd 0 (by kernel_rfl)
      refine obl_val rfl (wanted_none rfl) ?_ rfl
      go_simp
    | 2, _ =>
      intro a W hc hd
      have s1 : a.tmps[40]?.getD undef = (.bool true) := hd 1 (by kernel_rfl)
      refine obl_val rfl (wanted_none rfl) ?_ rfl
      go_simp
    | 3, _ =>
      intro a W hc hd
      have z2 := hc.same 2 (by kernel_rfl)
      have s2 : a.tmps[41]?.getD undef = (.bool true) := hd 2 (by kernel_rfl)
      simp only [List.getElem?_toArray, List.getElem?_cons_succ, List.getElem?_cons_zero, Option.getD_some] at z2
      refine obl_val rfl (wanted_some rfl rfl s2) ?_ rfl
      go_simp
    | 4, _ =>
      intro a W hc hd
      have s3 : a.tmps[42]?.getD undef = (r) := hd 3 (by kernel_rfl)
      have s2 : a.tmps[41]?.getD undef = (.bool true) := hd 2 (by kernel_rfl)
      have e4 : (convert 23 9 r).run Try.prog W = .ok (.string (bsA lM)) W := (HO.out.byt.drew.below hc.below).str
      refine obl_val rfl (wanted_some rfl rfl s2) ?_ rfl
      go_simp
    | 5, _ =>
      intro a W hc hd
      have s2 : a.tmps[41]?.getD undef = (.bool true) := hd 2 (by kernel_rfl)
      refine obl_call rfl (wanted_some rfl rfl s2) (by go_simp) (hfa W) ?_
      rintro e w8 ⟨v8, rfl, hv8, hb8⟩
      exact ⟨_, rfl, hv8, hb8⟩
    | 6, _ =>
      intro a W hc hd
      have s5 : (bytS fA).f (a.tmps[44]?.getD undef) W := hd 5 (by kernel_rfl)
      have s2 : a.tmps[41]?.getD undef = (.bool true) := hd 2 (by kernel_rfl)
      obtain ⟨v6, e6, hb6⟩ := byt_tail2 (show Byt W W.heap.size _ fA from s5) (by decide)
      refine obl_val rfl (wanted_some rfl rfl s2) ?_ hb6
      go_simp
    | 7, _ =>
      intro a W hc hd
      have s6 : (bytS (fA.drop 2)).f (a.tmps[45]?.getD undef) W := hd 6 (by kernel_rfl)
      have s2 : a.tmps[41]?.getD undef = (.bool true) := hd 2 (by kernel_rfl)
      have e7 : (convert 23 9 (a.tmps[45]?.getD undef)).run Try.prog W = .ok (.string (bsA (fA.drop 2))) W := (show Byt W W.heap.size _ _ from s6).str
      refine obl_val rfl (wanted_some rfl rfl s2) ?_ rfl
      go_simp
    | 8, _ =>
      intro a W hc hd
      have s7 : a.tmps[46]?.getD undef = (.string (bsA (fA.drop 2))) := hd 7 (by kernel_rfl)
      have s2 : a.tmps[41]?.getD undef = (.bool true) := hd 2 (by kernel_rfl)
      refine obl_val rfl (wanted_some rfl rfl s2) ?_ rfl
      go_simp
      rw [bsA_size]; decide
    | 9, _ =>
      intro a W hc hd
      have s4 : a.tmps[43]?.getD undef = (.string (bsA lM)) := hd 4 (by kernel_rfl)
      have s8 : a.tmps[47]?.getD undef = (.string (⟨#[98, 98]⟩ ++ bsA (fA.drop 2))) := hd 8 (by kernel_rfl)
      have s2 : a.tmps[41]?.getD undef = (.bool true) := hd 2 (by kernel_rfl)
      refine obl_val rfl (wanted_some rfl rfl s2) ?_ rfl
      go_simp
      exact congrArg ByteArray.toList lv_eq
    | 10, _ =>
      intro a W hc hd
      have s2 : a.tmps[41]?.getD undef = (.bool true) := hd 2 (by kernel_rfl)
      have s9 : a.tmps[48]?.getD undef = (.bool true) := hd 9 (by kernel_rfl)
      refine obl_val rfl (wanted_none rfl) ?_ rfl
      go_simp
    | 11, _ =>
      intro a W hc hd
      have s10 : a.tmps[49]?.getD undef = (.bool true) := hd 10 (by kernel_rfl)
      refine obl_val rfl (wanted_none rfl) ?_ rfl
      go_simp
    | n + 12, h => exact absurd h (by simp)
  -- end 5
  · have h0 : a.tmps[0]?.getD undef = .bool true := hs 11 0 (by decide) (by kernel_rfl)
    have hB := B9.drew.trans (hc.below.mono B9.size)
    have hdf : a.defers = [] := hc.defers
    clear hs hc
    go_wp2
    refine bodyPost_ret (results_tmp rfl _ _ _) hdf ⟨?_, hB⟩
    rw [Array.getD_eq_getD_getElem?, h0]
end Go.Proofs.Ytmcjefdnkcpghaa
/- A SLICE OF octroilaw09.Step AS A LIST. -/
namespace Go.Proofs.Ytmcjefdnkcpghaa
open Go.RowKit
/-- a step: what it does, two numbers, the slice of bytes (the value, and what it reads as) -/
structure Stv where
  kind : Int
  i : Int
  n : Int
  bv : Value
  b : List UInt8
structure Stv.ok (o : Stv) : Prop where
  k1 : -9223372036854775808 ≤ o.kind
  k2 : o.kind ≤ 9223372036854775807
  i1 : -9223372036854775808 ≤ o.i
  i2 : o.i ≤ 9223372036854775807
  n1 : -9223372036854775808 ≤ o.n
  n2 : o.n ≤ 9223372036854775807
structure StAt (w : World) (B : Nat) (p : Addr) (o : Stv) : Prop where
  c0 : w.cell? p = some (.int .i64 o.kind)
  c1 : w.cell? ⟨p.block, p.off + 1, none⟩ = some (.int .i64 o.i)
  c2 : w.cell? ⟨p.block, p.off + 2, none⟩ = some (.int .i64 o.n)
  c3 : w.cell? ⟨p.block, p.off + 3, none⟩ = some o.bv
  by_ : Byt w B o.bv o.b
def Steps (w : World) (B : Nat) (v : Value) (ls : List Stv) : Prop :=
  ∃ (A : Option Addr) (c : Nat), v = .slice A ls.length c ∧ ls.length ≤ c ∧ c ≤ maxLen ∧
    (0 < ls.length → ∃ ad : Addr, A = some ad ∧ ad.block < B ∧ ∀ (j : Nat) (o : Stv), ls[j]? = some o → o.ok ∧ StAt w B (ad.add (j * 4)) o)
section
variable {w w' : World} {B : Nat} {v : Value} {ls : List Stv}
theorem Steps.keep (h : Steps w B v ls) (hk : ∀ p : Addr, p.block < B → w'.cell? p = w.cell? p) : Steps w' B v ls := by
  obtain ⟨A, c, hv, hc, hm, hr⟩ := h
  refine ⟨A, c, hv, hc, hm, fun h0 => ?_⟩
  obtain ⟨ad, hA, hb, hx⟩ := hr h0
  refine ⟨ad, hA, hb, fun j x hj => ⟨(hx j x hj).1, ?_⟩⟩
  have h := (hx j x hj).2
  have hp : (ad.add (j * 4)).block < B := by rw [addr_add_block]; exact hb
  exact ⟨(hk _ hp).trans h.c0, (hk ⟨_, _, none⟩ hp).trans h.c1, (hk ⟨_, _, none⟩ hp).trans h.c2, (hk ⟨_, _, none⟩ hp).trans h.c3, h.by_.keep hk⟩
theorem Steps.below (h : Steps w B v ls) (hb : Below B w w') : Steps w' B v ls := h.keep fun _ hp => hb.cell hp
end
end Go.Proofs.Ytmcjefdnkcpghaa
/- WHAT STANDS BETWEEN TWO STEPS OF SectorPlays. -/
namespace Go.Proofs.Ytmcjefdnkcpghaa
open Go.RowKit
/-- a block of a disk -/
def KindD (w : World) (b : Nat) : Prop := ∃ cs t, w.heap[b]? = some (.cells cs t (0, 0)) ∧ (t = 102 ∨ t = 141 ∨ t = 139)
theorem KindD.lt {w : World} {b : Nat} (h : KindD w b) : b < w.heap.size := by obtain ⟨cs, t, h, _⟩ := h; exact lt_of_block h
theorem KindD.ne {w : World} {b x : Nat} {cs : Array Value} {t : TypeId} {fr : Nat × Nat} (h : KindD w b) (hx : w.heap[x]? = some (.cells cs t fr)) (h1 : t ≠ 102) (h2 : t ≠ 141) (h3 : t ≠ 139) : b ≠ x := by
  obtain ⟨cs', t', h, ht⟩ := h
  refine kind_ne h hx ?_
  rcases ht with rfl | rfl | rfl
  · exact h1.symm
  · exact h2.symm
  · exact h3.symm
/-- a disk's own blocks, no others -/
theorem Dk.tight {w : World} {Z : Nat → Prop} {g : Nat} {d : Dv} (h : Dk w Z g d) : ∃ Z0 : Nat → Prop, Dk w Z0 g d ∧ (∀ b, Z0 b → Z b) ∧ (∀ b, Z0 b → KindD w b) := by
  obtain ⟨P, fv, c, J, hcap, h1, h2, h3, h4⟩ := h.st
  refine ⟨fun b => Z b ∧ KindD w b, ⟨h.ok, ⟨h.gz, _, _, h1, .inl rfl⟩, P, fv, c, J, hcap, h1, h2, ⟨h3, _, _, h2, .inr (.inl rfl)⟩, ?_⟩, fun b hb => hb.1, fun b hb => hb.2⟩
  cases hf : d.fuse with
  | none => rw [hf] at h4; exact h4
  | some p =>
    obtain ⟨a, t⟩ := p
    rw [hf] at h4
    obtain ⟨F, e, k1, k2⟩ := h4
    exact ⟨F, e, ⟨k1, _, _, k2, .inr (.inr rfl)⟩, k2⟩
theorem KindD.below {w w' : World} {b : Nat} (h : KindD w b) (hb : Below w.heap.size w w') : KindD w' b := by
  obtain ⟨cs, t, hh, ht⟩ := h
  exact ⟨cs, t, (hb.block b (lt_of_block hh)).trans hh, ht⟩
/-- the rows of the document's disk stand, whatever the disk's blocks turn to -/
theorem SlS.kept {w w' : World} {B : Nat} {v : Value} {l : List ByteArray} {Z : Nat → Prop} (h : SlS w B v l) (hZ : ∀ b, Z b → KindD w b) (k : Kept (fun b => ¬ Z b) w w') : SlS w' w'.heap.size v l := by
  obtain ⟨⟨A, c, hv, hc, hm, hr⟩, h2⟩ := h
  by_cases h0 : 0 < l.length
  · obtain ⟨ad, hA, hb, hx⟩ := hr h0
    subst hA hv
    obtain ⟨cs, hcs⟩ := h2 ad l.length c rfl h0
    have hn : ¬ Z ad.block := fun hz => (hZ _ hz).ne hcs (by decide) (by decide) (by decide) rfl
    have hlt := lt_of_block hcs
    have hk := (k.block _ hlt hn).trans hcs
    refine ⟨⟨some ad, c, rfl, hc, hm, fun _ => ⟨ad, rfl, lt_of_block hk, fun j x hj => ?_⟩⟩, fun ad' n' c' e _ => ?_⟩
    · exact (k.cell (p := ad.add j) (by rw [addr_add_block]; exact hlt) (by rw [addr_add_block]; exact hn)).trans (hx j x hj)
    · cases e; exact ⟨cs, hk⟩
  · exact ⟨⟨A, c, hv, hc, hm, fun h => absurd h h0⟩, fun ad n' c' e h => absurd h h0⟩
theorem Rv.kept {w w' : World} {B : Nat} {v : Value} {d : Dv} {Z : Nat → Prop} (h : Rv w B v d) (hZ : ∀ b, Z b → KindD w b) (k : Kept (fun b => ¬ Z b) w w') : Rv w' w'.heap.size v d := by
  obtain ⟨A, c, a, t, e, hs, hf, ht⟩ := h; exact ⟨A, c, a, t, e, hs.kept hZ k, hf, ht⟩
/-- the box of the document's disk -/
def RBox (w : World) (b : Nat) (v : Value) : Prop := ∃ v0 v1 v2 v3 v4, v = .agg #[v0, v1, v2, v3, v4] ∧ w.heap[b]? = some (.cells #[v0, v1, v2, v3, v4] 55 (0, 0))
theorem RBox.kept {w w' : World} {b : Nat} {v : Value} {Z : Nat → Prop} (h : RBox w b v) (hZ : ∀ b, Z b → KindD w b) (k : Kept (fun b => ¬ Z b) w w') : RBox w' b v := by
  obtain ⟨v0, v1, v2, v3, v4, e, hb⟩ := h
  exact ⟨v0, v1, v2, v3, v4, e, k.heap hb (fun hz => (hZ _ hz).ne hb (by decide) (by decide) (by decide) rfl)⟩
theorem RBox.below {w w' : World} {b : Nat} {v : Value} (h : RBox w b v) (k : Below w.heap.size w w') : RBox w' b v := by
  obtain ⟨v0, v1, v2, v3, v4, e, hb⟩ := h
  exact ⟨v0, v1, v2, v3, v4, e, (k.block b (lt_of_block hb)).trans hb⟩
theorem RBox.set {w : World} {b : Nat} {v : Value} (h : RBox w b v) (v0 v1 v2 v3 v4 : Value) :
    RBox (((((w.setCell ⟨b, 0, none⟩ v0).setCell ⟨b, 1, none⟩ v1).setCell ⟨b, 2, none⟩ v2).setCell ⟨b, 3, none⟩ v3).setCell ⟨b, 4, none⟩ v4) b (.agg #[v0, v1, v2, v3, v4]) ∧
    Kept (fun x => x ≠ b) w (((((w.setCell ⟨b, 0, none⟩ v0).setCell ⟨b, 1, none⟩ v1).setCell ⟨b, 2, none⟩ v2).setCell ⟨b, 3, none⟩ v3).setCell ⟨b, 4, none⟩ v4) := by
  obtain ⟨u0, u1, u2, u3, u4, e, hb⟩ := h
  have s0 := Lib.heap_setCell_same (i := 0) hb v0
  have s1 := Lib.heap_setCell_same (i := 1) s0 v1
  have s2 := Lib.heap_setCell_same (i := 2) s1 v2
  have s3 := Lib.heap_setCell_same (i := 3) s2 v3
  have s4 := Lib.heap_setCell_same (i := 4) s3 v4
  refine ⟨⟨v0, v1, v2, v3, v4, rfl, by simpa using s4⟩, ?_⟩
  exact (((((Kept.refl _ w).setCell _ _ (fun _ h => h rfl)).setCell _ _ (fun _ h => h rfl)).setCell _ _ (fun _ h => h rfl)).setCell _ _ (fun _ h => h rfl)).setCell _ _ (fun _ h => h rfl)
/-- between two steps: the disk g, the box b6; S: the heap's size when the law began -/
structure Pl (w0 : World) (b6 g : Nat) (d : Dv) (Z : Nat → Prop) (v : Value) (w : World) : Prop where
  dk : Dk w Z g d
  hi : ∀ b, Z b → w0.heap.size ≤ b
  kd : ∀ b, Z b → KindD w b
  box : RBox w b6 v
  lo : w0.heap.size ≤ b6
  rv : Rv w w.heap.size v d
  below : Below w0.heap.size w0 w
theorem Pl.grow {w0 w w' : World} {b6 g : Nat} {d : Dv} {Z : Nat → Prop} {v : Value} (h : Pl w0 b6 g d Z v w) (hb : Below w.heap.size w w') : Pl w0 b6 g d Z v w' :=
  ⟨h.dk.below hb, h.hi, fun b hz => (h.kd b hz).below hb, h.box.below hb, h.lo, (h.rv.below hb).heap, h.below.trans (hb.mono h.below.size)⟩
/-- behind a call that wrote the disk: all but the disk and the document's are alike; the old document's disk still reads so -/
structure Pm (w0 : World) (b6 g : Nat) (d' : Dv) (Z : Nat → Prop) (v : Value) (d : Dv) (w : World) : Prop where
  dk : Dk w Z g d'
  hi : ∀ b, Z b → w0.heap.size ≤ b
  kd : ∀ b, Z b → KindD w b
  box : RBox w b6 v
  lo : w0.heap.size ≤ b6
  rv : Rv w w.heap.size v d
  below : Below w0.heap.size w0 w
theorem Pm.grow {w0 w w' : World} {b6 g : Nat} {d d' : Dv} {Z : Nat → Prop} {v : Value} (h : Pm w0 b6 g d' Z v d w) (hb : Below w.heap.size w w') : Pm w0 b6 g d' Z v d w' :=
  ⟨h.dk.below hb, h.hi, fun b hz => (h.kd b hz).below hb, h.box.below hb, h.lo, (h.rv.below hb).heap, h.below.trans (hb.mono h.below.size)⟩
theorem Pl.wrote {w0 w w' : World} {b6 g g' : Nat} {d d' : Dv} {Z Z' : Nat → Prop} {v : Value} (h : Pl w0 b6 g d Z v w) (hd : Dk w' Z' g' d') (hk : Kept (fun b => ¬ Z b) w w') (hz : ∀ b, Z' b → Z b ∨ w.heap.size ≤ b) : ∃ Z2, Pm w0 b6 g' d' Z2 v d w' := by
  obtain ⟨Z2, h2, h3, h4⟩ := hd.tight
  refine ⟨Z2, h2, fun b hb => ?_, h4, h.box.kept h.kd hk, h.lo, h.rv.kept h.kd hk, ?_⟩
  · rcases hz b (h3 b hb) with h5 | h5
    · exact h.hi b h5
    · exact Nat.le_trans h.below.size h5
  · exact h.below.trans (hk.toBelow (B := w0.heap.size) h.below.size (fun b hb hz => by have := h.hi b hz; omega))
theorem Pm.same {w0 w : World} {b6 g : Nat} {d : Dv} {Z : Nat → Prop} {v : Value} (h : Pm w0 b6 g d Z v d w) : Pl w0 b6 g d Z v w := ⟨h.dk, h.hi, h.kd, h.box, h.lo, h.rv, h.below⟩
theorem Pl.toPm {w0 w : World} {b6 g : Nat} {d : Dv} {Z : Nat → Prop} {v : Value} (h : Pl w0 b6 g d Z v w) : Pm w0 b6 g d Z v d w := ⟨h.dk, h.hi, h.kd, h.box, h.lo, h.rv, h.below⟩
theorem Rv.other {w w' : World} {B b6 : Nat} {v : Value} {d : Dv} (h : Rv w B v d) {u : Value} (hb : RBox w b6 u) (k : Kept (fun x => x ≠ b6) w w') : Rv w' w'.heap.size v d := by
  obtain ⟨A, c, a, t, e, hs, hf, ht⟩ := h
  refine ⟨A, c, a, t, e, ?_, hf, ht⟩
  obtain ⟨⟨A', c', hv, hc, hm, hr⟩, h2⟩ := hs
  obtain ⟨u0, u1, u2, u3, u4, _, hbx⟩ := hb
  by_cases h0 : 0 < (pagesS d.L d.n).length
  · obtain ⟨ad, hA, hlt, hx⟩ := hr h0
    rw [pagesS_len] at hv
    cases hv
    subst hA
    obtain ⟨cs, hcs⟩ := h2 ad _ c rfl h0
    have hn : ad.block ≠ b6 := kind_ne hcs hbx (by decide)
    have hl := lt_of_block hcs
    have hk := (k.block _ hl hn).trans hcs
    refine ⟨⟨some ad, c, by rw [pagesS_len], by rw [pagesS_len] at *; exact hc, hm, fun _ => ⟨ad, rfl, lt_of_block hk, fun j x hj => ?_⟩⟩, fun ad' n' c' e _ => ?_⟩
    · exact (k.cell (p := ad.add j) (by rw [addr_add_block]; exact hl) (by rw [addr_add_block]; exact hn)).trans (hx j x hj)
    · cases e; exact ⟨cs, hk⟩
  · exact ⟨⟨A', c', hv, hc, hm, fun h => absurd h h0⟩, fun ad n' c' e h => absurd h h0⟩
/-- the document's disk is put into its box -/
theorem Pm.put {w0 w : World} {b6 g : Nat} {d d' : Dv} {Z : Nat → Prop} {v : Value} {v0 v1 v2 v3 v4 : Value} (h : Pm w0 b6 g d' Z v d w) (hr : Rv w w.heap.size (.agg #[v0, v1, v2, v3, v4]) d') :
    Pl w0 b6 g d' Z (.agg #[v0, v1, v2, v3, v4]) (((((w.setCell ⟨b6, 0, none⟩ v0).setCell ⟨b6, 1, none⟩ v1).setCell ⟨b6, 2, none⟩ v2).setCell ⟨b6, 3, none⟩ v3).setCell ⟨b6, 4, none⟩ v4) := by
  obtain ⟨hs, hk⟩ := h.box.set v0 v1 v2 v3 v4
  obtain ⟨u0, u1, u2, u3, u4, _, hbx⟩ := id h.box
  have hne : ∀ b, Z b → b ≠ b6 := fun b hz => (h.kd b hz).ne hbx (by decide) (by decide) (by decide)
  refine ⟨h.dk.kept hk hne, h.hi, fun b hz => ?_, hs, h.lo, hr.other h.box hk, ?_⟩
  · obtain ⟨cs, t, hh, ht⟩ := h.kd b hz
    exact ⟨cs, t, hk.heap hh (hne b hz), ht⟩
  · exact h.below.trans (hk.toBelow (B := w0.heap.size) h.below.size (fun b hb e => by have := h.lo; omega))
theorem Rv.form {w : World} {B : Nat} {v : Value} {d : Dv} (h : Rv w B v d) : ∃ A c After Torn, v = .agg #[.slice A d.n c, .int .i64 After, .int .i64 Torn, .bool d.dead, .int .i64 (d.writes : Int)] := by
  obtain ⟨A, c, a, t, e, _⟩ := h; exact ⟨A, c, a, t, e⟩
/-- the box's cells -/
theorem RBox.cells {w : World} {b : Nat} {v0 v1 v2 v3 v4 : Value} (h : RBox w b (.agg #[v0, v1, v2, v3, v4])) : w.cell? ⟨b, 0, none⟩ = some v0 ∧ w.cell? ⟨b, 1, none⟩ = some v1 ∧ w.cell? ⟨b, 2, none⟩ = some v2 ∧ w.cell? ⟨b, 3, none⟩ = some v3 ∧ w.cell? ⟨b, 4, none⟩ = some v4 ∧
    w.frozen? ⟨b, 0, none⟩ = false ∧ w.frozen? ⟨b, 1, none⟩ = false ∧ w.frozen? ⟨b, 2, none⟩ = false ∧ w.frozen? ⟨b, 3, none⟩ = false ∧ w.frozen? ⟨b, 4, none⟩ = false := by
  obtain ⟨u0, u1, u2, u3, u4, e, hb⟩ := h
  cases e
  refine ⟨by simp [World.cell?, hb], by simp [World.cell?, hb], by simp [World.cell?, hb], by simp [World.cell?, hb], by simp [World.cell?, hb], free_of hb 0, free_of hb 1, free_of hb 2, free_of hb 3, free_of hb 4⟩
theorem Byt.strA {w : World} {B : Nat} {v : Value} {l : List UInt8} (h : Byt w B v l) : (convert 23 9 v).run Try.prog w = .ok (.string (bsA l)) w := h.str
theorem write_writes (d : Dv) (i : Int) (m : List UInt8) : (d.write i m).1.writes ≤ d.writes + 1 := by
  unfold Dv.write
  split
  · exact Nat.le_succ _
  · split
    · exact Nat.le_succ _
    · split <;> simp
theorem fuses_writes (d : Dv) (a t : Int) : (d.fuses a t).1.writes = d.writes := by unfold Dv.fuses; split <;> rfl
set_option maxRecDepth 100000 in
theorem new_bad (n : Int) (h : n < 1 ∨ 4096 < n) (w : World) : Calls Try.prog 34 #[.int .i64 n] w fun e w' => e = .returned (.pointer none) ∧ w = w' := by
  rcases h with h | h
  · go_enter Try.func34, Try.ntmps34
    go_wp2
    go_ret
    exact ⟨rfl, rfl⟩
  · have e1 : decide (n < 1) = false := decide_eq_false (by omega)
    go_enter Try.func34, Try.ntmps34
    go_wp2
    go_ret
    exact ⟨rfl, rfl⟩
end Go.Proofs.Ytmcjefdnkcpghaa
