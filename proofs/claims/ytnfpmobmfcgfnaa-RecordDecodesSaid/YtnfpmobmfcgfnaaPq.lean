/- THE WALK OF octroiref08.bare (printed by gen/genbar.py). -/
import Derived.Test.YtnfpmobmfcgfnaaReG
namespace Go.Proofs.Ytnfpmobmfcgfnaa
open Go.RowKit
def BarePost (c : Cm) (lv : Value) (w : World) (e : Ending) (w' : World) : Prop :=
 ∃ lv', e = .returned (.agg ((bareC c).vs lv')) ∧ ((lv' = lv ∧ (bareC c).doc = c.doc) ∨ (lv' = .slice none 0 0 ∧ (bareC c).doc = Dm.zero)) ∧ Below w.heap.size w w'
def kindC (k : Int) : Cm := { Cm.zero with kind := k }
set_option maxRecDepth 100000 in
set_option maxHeartbeats 16000000 in
theorem bare_any (c : Cm) (A0 : Option Addr) (n0 m0 : Nat) (w : World) : Calls Try.prog 57 #[.agg (c.vs (.slice A0 n0 m0))] w (BarePost c (.slice A0 n0 m0) w) := by
 have hb1 := (Below.refl w.heap.size w).alloc (Nat.le_refl _) (.cells (c.vs (.slice A0 n0 m0)) 53)
 have hx1 := CBlk.made w c (.slice A0 n0 m0)
 have hb2 := (Below.refl (w.alloc (.cells (c.vs (.slice A0 n0 m0)) 53)).heap.size (w.alloc (.cells (c.vs (.slice A0 n0 m0)) 53))).alloc (Nat.le_refl _) (.cells (Cm.zero.vs (.slice none 0 0)) 53)
 have hz2 := CBlk.made (w.alloc (.cells (c.vs (.slice A0 n0 m0)) 53)) Cm.zero (.slice none 0 0)
 rw [World.size_alloc] at hz2
 have hx2 := hx1.below hb2
 have HB2 := Lib.hid (hb1.trans (hb2.mono hb1.size))
 have HX2 := Lib.hid hx2
 have HZ2 := Lib.hid hz2
 clear hb1 hx1 hb2 hz2 hx2
 generalize hV : c.vs (.slice A0 n0 m0) = V at *
 have HV := Lib.hid hV
 clear hV
 go_enter Try.func57, Try.ntmps57
 go_upto_region 1 with fail
 have hzl : #[.int .i64 0, .string ⟨#[]⟩, .string ⟨#[]⟩, .int .i64 0, .int .i64 0, .int .i64 0, .int .i64 0, .int .i64 0, .int .i64 0, .int .i64 0, .int .i64 0, .int .i64 0, .int .i64 0, .string ⟨#[]⟩, .bool false, .bool false, .string ⟨#[]⟩, .int .i64 0, .string ⟨#[]⟩, .string ⟨#[]⟩, .string ⟨#[]⟩, .slice none 0 0] = Cm.zero.vs (.slice none 0 0) := rfl
 rw [hzl]
 clear hzl
 generalize World.alloc (World.alloc w _) _ = w2 at *
 generalize hb : w.heap.size = b1 at *
 have HBB := Lib.hid hb
 clear hb
 have c0 := HX2.out.box.c0
 generalize hV' : (kindC c.kind).vs (.slice none 0 0) = V' at *
 have HV' := Lib.hid hV'
 have HV1 := Lib.hid (show V'.all (·.oneCell') = true by rw [← hV']; exact cm_one _ _ _ _)
 have HV2 := Lib.hid (show V'.size = 22 by rw [← hV']; rfl)
 have HVI := Lib.hid (show (Try.prog.info? 53).map (·.size) = some V'.size by rw [HV2.out, cm_info])
 clear hV'
 go_upto_region 2 with ((with_reducible show wpList _ _ _ (⟨none, .store _ _ _, _, _, _, _⟩ :: _) _ _); go_must (refine wpList_store_row rfl 53 (.tmp 3) (.tmp 6) rfl w2.heap.size V' rfl (by rw [← HV'.out]; rfl) 53 _ (heap_alloc_new w2 _) HVI.out (by rw [HV2.out]; rfl) HV1.out ?_))
 clear c0
 have hw4 := CBlk.row (heap_alloc_new w2 (.cells #[.int .i64 0, .string ⟨#[]⟩, .string ⟨#[]⟩, .int .i64 0, .int .i64 0, .int .i64 0, .int .i64 0, .int .i64 0, .int .i64 0, .int .i64 0, .int .i64 0, .int .i64 0, .int .i64 0, .string ⟨#[]⟩, .bool false, .bool false, .string ⟨#[]⟩, .int .i64 0, .string ⟨#[]⟩, .string ⟨#[]⟩, .string ⟨#[]⟩, .slice none 0 0] 53 (0, 0))) (kindC c.kind) (.slice none 0 0)
 rw [HV'.out] at hw4
 have hb3 := (Below.refl w2.heap.size w2).alloc (Nat.le_refl _) (.cells #[.int .i64 0, .string ⟨#[]⟩, .string ⟨#[]⟩, .int .i64 0, .int .i64 0, .int .i64 0, .int .i64 0, .int .i64 0, .int .i64 0, .int .i64 0, .int .i64 0, .int .i64 0, .int .i64 0, .string ⟨#[]⟩, .bool false, .bool false, .string ⟨#[]⟩, .int .i64 0, .string ⟨#[]⟩, .string ⟨#[]⟩, .string ⟨#[]⟩, .slice none 0 0] 53)
 have hb4 : Below w2.heap.size w2 ((w2.alloc (.cells #[.int .i64 0, .string ⟨#[]⟩, .string ⟨#[]⟩, .int .i64 0, .int .i64 0, .int .i64 0, .int .i64 0, .int .i64 0, .int .i64 0, .int .i64 0, .int .i64 0, .int .i64 0, .int .i64 0, .string ⟨#[]⟩, .bool false, .bool false, .string ⟨#[]⟩, .int .i64 0, .string ⟨#[]⟩, .string ⟨#[]⟩, .string ⟨#[]⟩, .slice none 0 0] 53)).setRow w2.heap.size V') := hb3.trans (hw4.2.toBelow hb3.size (fun b hb => Nat.ne_of_lt hb))
 have HO4 := Lib.hid hw4.1
 have HX4 := Lib.hid (HX2.out.below hb4)
 have HZ4 := Lib.hid (HZ2.out.below hb4)
 have HB4 := Lib.hid (HB2.out.trans (hb4.mono (Nat.le_trans (Nat.le_of_eq HBB.out.symm) HB2.out.size)))
 have HN1 := Lib.hid (show b1 ≠ w2.heap.size from Nat.ne_of_lt (lt_of_blk HX2.out))
 have HN2 := Lib.hid (show b1 + 1 ≠ w2.heap.size from Nat.ne_of_lt (lt_of_blk HZ2.out))
 have HN3 := Lib.hid (show b1 ≤ w2.heap.size from Nat.le_of_lt (lt_of_blk HX2.out))
 clear hw4 hb3 hb4 HX2 HZ2 HB2
 generalize World.setRow (World.alloc w2 _) w2.heap.size V' = w4 at *
 generalize w2.heap.size = b3 at *
 have HO5 := HO4
 have HX5 := HX4
 have HZ5 := HZ4
 have HB5 := HB4
 clear HO4 HX4 HZ4 HB4
 generalize w4 = w5 at *
 obtain ⟨c0, c1, c2, c3, c4, c5, c6, c7, c8, c9, c10, c11, c12, c13, c14, c15, c16, c17, c18, c19, c20, c21⟩ := HX5.out.box
 obtain ⟨y0, y1, y2, y3, y4, y5, y6, y7, y8, y9, y10, y11, y12, y13, y14, y15, y16, y17, y18, y19, y20, y21⟩ := HO5.out.box
 obtain ⟨k0, k1, k2, k3, k4, k5, k6, k7, k8, k9, k10, k11, k12, k13, k14, k15, k16, k17, k18, k19, k20, k21⟩ := HO5.out.free
 simp only [kindC, Cm.zero, Dm.zero] at y0 y1 y2 y3 y4 y5 y6 y7 y8 y9 y10 y11 y12 y13 y14 y15 y16 y17 y18 y19 y20 y21
 by_cases hk : c.kind = 1
 ·rw [hk] at c0
  have s0 := HO5.out
  have q0 := Kept.refl (fun x => x ≠ b3) w5
  obtain ⟨s1, r1⟩ := s0.set 1 (.string c.cty) (o' := { Cm.zero with kind := c.kind, cty := c.cty }) (lv' := .slice none 0 0) rfl
  have q1 := q0.trans r1 (fun _ _ h => h)
  obtain ⟨s2, r2⟩ := s1.set 9 (.int .i64 c.ix) (o' := { Cm.zero with kind := c.kind, cty := c.cty, ix := c.ix }) (lv' := .slice none 0 0) rfl
  have q2 := q1.trans r2 (fun _ _ h => h)
  obtain ⟨s3, r3⟩ := s2.set 5 (.int .i64 c.day) (o' := { Cm.zero with kind := c.kind, cty := c.cty, ix := c.ix, day := c.day }) (lv' := .slice none 0 0) rfl
  have q3 := q2.trans r3 (fun _ _ h => h)
  have hp : bareC c = { Cm.zero with kind := c.kind, cty := c.cty, ix := c.ix, day := c.day } := by unfold bareC; simp only [hk]; rfl
  have HP := Lib.hid hp
  have HS := Lib.hid (show CBlk _ b3 (bareC c) (.slice none 0 0) by rw [hp]; exact s3)
  have HQ := Lib.hid q3
  clear hp s0 s1 s2 s3 q0 q1 q2 q3 r1 r2 r3
  go_upto_region 37 with fail
  generalize hw6 : World.setCell _ _ _ = w6 at HS HQ ⊢
  have HZ6 := Lib.hid (HZ5.out.kept HQ.out HN2.out)
  have HB6 := Lib.hid (HB5.out.trans (HQ.out.toBelow (B := b1) (Nat.le_trans (Nat.le_of_eq HBB.out.symm) HB5.out.size) (fun b hb => by have := HN3.out; omega)))
  clear hw6
  generalize hV6 : (bareC c).vs (.slice none 0 0) = V6
  have H1 := Lib.hid (show w6.heap[b3]? = some (.cells V6 53 (0, 0)) by rw [← hV6]; exact HS.out)
  have H2 := Lib.hid (show V6.all (·.oneCell') = true by rw [← hV6]; exact cm_one _ _ _ _)
  have H3 := Lib.hid (show V6.size = 22 by rw [← hV6]; rfl)
  have H4 := Lib.hid (show (Try.prog.info? 53).map (·.size) = some V6.size by rw [H3.out, cm_info])
  have HV6 := Lib.hid hV6
  clear hV6 c0 c1 c2 c3 c4 c5 c6 c7 c8 c9 c10 c11 c12 c13 c14 c15 c16 c17 c18 c19 c20 c21 y0 y1 y2 y3 y4 y5 y6 y7 y8 y9 y10 y11 y12 y13 y14 y15 y16 y17 y18 y19 y20 y21 k0 k1 k2 k3 k4 k5 k6 k7 k8 k9 k10 k11 k12 k13 k14 k15 k16 k17 k18 k19 k20 k21
  go_wp2_with (first
   | (with_reducible refine wpList_load_row rfl 53 (.tmp 3) rfl b3 rfl 53 V6 (0, 0) _ H1.out Try.underlying53 rfl H4.out ?_)
   | ((with_reducible show wpList _ _ _ (⟨none, .store _ _ _, _, _, _, _⟩ :: _) _ _); go_must (refine wpList_store_row rfl 53 (.tmp 2) (.tmp 98) rfl (b1 + 1) V6 rfl rfl 53 _ HZ6.out H4.out (by rw [H3.out]; rfl) H2.out ?_)))
  exact bodyPost_ret (results_cell_row rfl _ _ (b1 + 1) 53 _ (0, 0) _ rfl (setRow_heap _ _ _ _ _ _ HZ6.out) Try.underlying53 rfl H4.out) rfl ⟨_, by rw [HV6.out], .inr ⟨rfl, by rw [HP.out]; rfl⟩, by have h := below_row HB6.out (Nat.le_succ b1) V6; rw [HBB.out]; exact h⟩
 have h1 := hk
 clear hk
 by_cases hk : c.kind = 2
 ·rw [hk] at c0
  have s0 := HO5.out
  have q0 := Kept.refl (fun x => x ≠ b3) w5
  obtain ⟨s1, r1⟩ := s0.set 1 (.string c.cty) (o' := { Cm.zero with kind := c.kind, cty := c.cty }) (lv' := .slice none 0 0) rfl
  have q1 := q0.trans r1 (fun _ _ h => h)
  obtain ⟨s2, r2⟩ := s1.set 3 (.int .i64 c.cat) (o' := { Cm.zero with kind := c.kind, cty := c.cty, cat := c.cat }) (lv' := .slice none 0 0) rfl
  have q2 := q1.trans r2 (fun _ _ h => h)
  obtain ⟨s3, r3⟩ := s2.set 5 (.int .i64 c.day) (o' := { Cm.zero with kind := c.kind, cty := c.cty, cat := c.cat, day := c.day }) (lv' := .slice none 0 0) rfl
  have q3 := q2.trans r3 (fun _ _ h => h)
  obtain ⟨s4, r4⟩ := s3.set 6 (.int .i64 c.til) (o' := { Cm.zero with kind := c.kind, cty := c.cty, cat := c.cat, day := c.day, til := c.til }) (lv' := .slice none 0 0) rfl
  have q4 := q3.trans r4 (fun _ _ h => h)
  obtain ⟨s5, r5⟩ := s4.set 4 (.int .i64 c.bp) (o' := { Cm.zero with kind := c.kind, cty := c.cty, cat := c.cat, day := c.day, til := c.til, bp := c.bp }) (lv' := .slice none 0 0) rfl
  have q5 := q4.trans r5 (fun _ _ h => h)
  have hp : bareC c = { Cm.zero with kind := c.kind, cty := c.cty, cat := c.cat, day := c.day, til := c.til, bp := c.bp } := by unfold bareC; simp only [hk]; rfl
  have HP := Lib.hid hp
  have HS := Lib.hid (show CBlk _ b3 (bareC c) (.slice none 0 0) by rw [hp]; exact s5)
  have HQ := Lib.hid q5
  clear hp s0 s1 s2 s3 s4 s5 q0 q1 q2 q3 q4 q5 r1 r2 r3 r4 r5
  go_upto_region 37 with fail
  generalize hw6 : World.setCell _ _ _ = w6 at HS HQ ⊢
  have HZ6 := Lib.hid (HZ5.out.kept HQ.out HN2.out)
  have HB6 := Lib.hid (HB5.out.trans (HQ.out.toBelow (B := b1) (Nat.le_trans (Nat.le_of_eq HBB.out.symm) HB5.out.size) (fun b hb => by have := HN3.out; omega)))
  clear hw6
  generalize hV6 : (bareC c).vs (.slice none 0 0) = V6
  have H1 := Lib.hid (show w6.heap[b3]? = some (.cells V6 53 (0, 0)) by rw [← hV6]; exact HS.out)
  have H2 := Lib.hid (show V6.all (·.oneCell') = true by rw [← hV6]; exact cm_one _ _ _ _)
  have H3 := Lib.hid (show V6.size = 22 by rw [← hV6]; rfl)
  have H4 := Lib.hid (show (Try.prog.info? 53).map (·.size) = some V6.size by rw [H3.out, cm_info])
  have HV6 := Lib.hid hV6
  clear hV6 c0 c1 c2 c3 c4 c5 c6 c7 c8 c9 c10 c11 c12 c13 c14 c15 c16 c17 c18 c19 c20 c21 y0 y1 y2 y3 y4 y5 y6 y7 y8 y9 y10 y11 y12 y13 y14 y15 y16 y17 y18 y19 y20 y21 k0 k1 k2 k3 k4 k5 k6 k7 k8 k9 k10 k11 k12 k13 k14 k15 k16 k17 k18 k19 k20 k21
  go_wp2_with (first
   | (with_reducible refine wpList_load_row rfl 53 (.tmp 3) rfl b3 rfl 53 V6 (0, 0) _ H1.out Try.underlying53 rfl H4.out ?_)
   | ((with_reducible show wpList _ _ _ (⟨none, .store _ _ _, _, _, _, _⟩ :: _) _ _); go_must (refine wpList_store_row rfl 53 (.tmp 2) (.tmp 98) rfl (b1 + 1) V6 rfl rfl 53 _ HZ6.out H4.out (by rw [H3.out]; rfl) H2.out ?_)))
  exact bodyPost_ret (results_cell_row rfl _ _ (b1 + 1) 53 _ (0, 0) _ rfl (setRow_heap _ _ _ _ _ _ HZ6.out) Try.underlying53 rfl H4.out) rfl ⟨_, by rw [HV6.out], .inr ⟨rfl, by rw [HP.out]; rfl⟩, by have h := below_row HB6.out (Nat.le_succ b1) V6; rw [HBB.out]; exact h⟩
 have h2 := hk
 clear hk
 by_cases hk : c.kind = 3
 ·rw [hk] at c0
  have s0 := HO5.out
  have q0 := Kept.refl (fun x => x ≠ b3) w5
  obtain ⟨s1, r1⟩ := s0.set 5 (.int .i64 c.day) (o' := { Cm.zero with kind := c.kind, day := c.day }) (lv' := .slice none 0 0) rfl
  have q1 := q0.trans r1 (fun _ _ h => h)
  obtain ⟨s2, r2⟩ := s1.set 6 (.int .i64 c.til) (o' := { Cm.zero with kind := c.kind, day := c.day, til := c.til }) (lv' := .slice none 0 0) rfl
  have q2 := q1.trans r2 (fun _ _ h => h)
  have hp : bareC c = { Cm.zero with kind := c.kind, day := c.day, til := c.til } := by unfold bareC; simp only [hk]; rfl
  have HP := Lib.hid hp
  have HS := Lib.hid (show CBlk _ b3 (bareC c) (.slice none 0 0) by rw [hp]; exact s2)
  have HQ := Lib.hid q2
  clear hp s0 s1 s2 q0 q1 q2 r1 r2
  go_upto_region 37 with fail
  generalize hw6 : World.setCell _ _ _ = w6 at HS HQ ⊢
  have HZ6 := Lib.hid (HZ5.out.kept HQ.out HN2.out)
  have HB6 := Lib.hid (HB5.out.trans (HQ.out.toBelow (B := b1) (Nat.le_trans (Nat.le_of_eq HBB.out.symm) HB5.out.size) (fun b hb => by have := HN3.out; omega)))
  clear hw6
  generalize hV6 : (bareC c).vs (.slice none 0 0) = V6
  have H1 := Lib.hid (show w6.heap[b3]? = some (.cells V6 53 (0, 0)) by rw [← hV6]; exact HS.out)
  have H2 := Lib.hid (show V6.all (·.oneCell') = true by rw [← hV6]; exact cm_one _ _ _ _)
  have H3 := Lib.hid (show V6.size = 22 by rw [← hV6]; rfl)
  have H4 := Lib.hid (show (Try.prog.info? 53).map (·.size) = some V6.size by rw [H3.out, cm_info])
  have HV6 := Lib.hid hV6
  clear hV6 c0 c1 c2 c3 c4 c5 c6 c7 c8 c9 c10 c11 c12 c13 c14 c15 c16 c17 c18 c19 c20 c21 y0 y1 y2 y3 y4 y5 y6 y7 y8 y9 y10 y11 y12 y13 y14 y15 y16 y17 y18 y19 y20 y21 k0 k1 k2 k3 k4 k5 k6 k7 k8 k9 k10 k11 k12 k13 k14 k15 k16 k17 k18 k19 k20 k21
  go_wp2_with (first
   | (with_reducible refine wpList_load_row rfl 53 (.tmp 3) rfl b3 rfl 53 V6 (0, 0) _ H1.out Try.underlying53 rfl H4.out ?_)
   | ((with_reducible show wpList _ _ _ (⟨none, .store _ _ _, _, _, _, _⟩ :: _) _ _); go_must (refine wpList_store_row rfl 53 (.tmp 2) (.tmp 98) rfl (b1 + 1) V6 rfl rfl 53 _ HZ6.out H4.out (by rw [H3.out]; rfl) H2.out ?_)))
  exact bodyPost_ret (results_cell_row rfl _ _ (b1 + 1) 53 _ (0, 0) _ rfl (setRow_heap _ _ _ _ _ _ HZ6.out) Try.underlying53 rfl H4.out) rfl ⟨_, by rw [HV6.out], .inr ⟨rfl, by rw [HP.out]; rfl⟩, by have h := below_row HB6.out (Nat.le_succ b1) V6; rw [HBB.out]; exact h⟩
 have h3 := hk
 clear hk
 by_cases hk : c.kind = 4
 ·rw [hk] at c0
  have s0 := HO5.out
  have q0 := Kept.refl (fun x => x ≠ b3) w5
  obtain ⟨s1, r1⟩ := s0.set 1 (.string c.cty) (o' := { Cm.zero with kind := c.kind, cty := c.cty }) (lv' := .slice none 0 0) rfl
  have q1 := q0.trans r1 (fun _ _ h => h)
  obtain ⟨s2, r2⟩ := s1.set 2 (.string c.txt) (o' := { Cm.zero with kind := c.kind, cty := c.cty, txt := c.txt }) (lv' := .slice none 0 0) rfl
  have q2 := q1.trans r2 (fun _ _ h => h)
  obtain ⟨s3, r3⟩ := s2.set 5 (.int .i64 c.day) (o' := { Cm.zero with kind := c.kind, cty := c.cty, txt := c.txt, day := c.day }) (lv' := .slice none 0 0) rfl
  have q3 := q2.trans r3 (fun _ _ h => h)
  obtain ⟨s4, r4⟩ := s3.set 6 (.int .i64 c.til) (o' := { Cm.zero with kind := c.kind, cty := c.cty, txt := c.txt, day := c.day, til := c.til }) (lv' := .slice none 0 0) rfl
  have q4 := q3.trans r4 (fun _ _ h => h)
  have hp : bareC c = { Cm.zero with kind := c.kind, cty := c.cty, txt := c.txt, day := c.day, til := c.til } := by unfold bareC; simp only [hk]; rfl
  have HP := Lib.hid hp
  have HS := Lib.hid (show CBlk _ b3 (bareC c) (.slice none 0 0) by rw [hp]; exact s4)
  have HQ := Lib.hid q4
  clear hp s0 s1 s2 s3 s4 q0 q1 q2 q3 q4 r1 r2 r3 r4
  go_upto_region 37 with fail
  generalize hw6 : World.setCell _ _ _ = w6 at HS HQ ⊢
  have HZ6 := Lib.hid (HZ5.out.kept HQ.out HN2.out)
  have HB6 := Lib.hid (HB5.out.trans (HQ.out.toBelow (B := b1) (Nat.le_trans (Nat.le_of_eq HBB.out.symm) HB5.out.size) (fun b hb => by have := HN3.out; omega)))
  clear hw6
  generalize hV6 : (bareC c).vs (.slice none 0 0) = V6
  have H1 := Lib.hid (show w6.heap[b3]? = some (.cells V6 53 (0, 0)) by rw [← hV6]; exact HS.out)
  have H2 := Lib.hid (show V6.all (·.oneCell') = true by rw [← hV6]; exact cm_one _ _ _ _)
  have H3 := Lib.hid (show V6.size = 22 by rw [← hV6]; rfl)
  have H4 := Lib.hid (show (Try.prog.info? 53).map (·.size) = some V6.size by rw [H3.out, cm_info])
  have HV6 := Lib.hid hV6
  clear hV6 c0 c1 c2 c3 c4 c5 c6 c7 c8 c9 c10 c11 c12 c13 c14 c15 c16 c17 c18 c19 c20 c21 y0 y1 y2 y3 y4 y5 y6 y7 y8 y9 y10 y11 y12 y13 y14 y15 y16 y17 y18 y19 y20 y21 k0 k1 k2 k3 k4 k5 k6 k7 k8 k9 k10 k11 k12 k13 k14 k15 k16 k17 k18 k19 k20 k21
  go_wp2_with (first
   | (with_reducible refine wpList_load_row rfl 53 (.tmp 3) rfl b3 rfl 53 V6 (0, 0) _ H1.out Try.underlying53 rfl H4.out ?_)
   | ((with_reducible show wpList _ _ _ (⟨none, .store _ _ _, _, _, _, _⟩ :: _) _ _); go_must (refine wpList_store_row rfl 53 (.tmp 2) (.tmp 98) rfl (b1 + 1) V6 rfl rfl 53 _ HZ6.out H4.out (by rw [H3.out]; rfl) H2.out ?_)))
  exact bodyPost_ret (results_cell_row rfl _ _ (b1 + 1) 53 _ (0, 0) _ rfl (setRow_heap _ _ _ _ _ _ HZ6.out) Try.underlying53 rfl H4.out) rfl ⟨_, by rw [HV6.out], .inr ⟨rfl, by rw [HP.out]; rfl⟩, by have h := below_row HB6.out (Nat.le_succ b1) V6; rw [HBB.out]; exact h⟩
 have h4 := hk
 clear hk
 by_cases hk : c.kind = 5
 ·rw [hk] at c0
  have s0 := HO5.out
  have q0 := Kept.refl (fun x => x ≠ b3) w5
  obtain ⟨s1, r1⟩ := s0.set 2 (.string c.txt) (o' := { Cm.zero with kind := c.kind, txt := c.txt }) (lv' := .slice none 0 0) rfl
  have q1 := q0.trans r1 (fun _ _ h => h)
  obtain ⟨s2, r2⟩ := s1.set 10 (.int .i64 c.pk) (o' := { Cm.zero with kind := c.kind, txt := c.txt, pk := c.pk }) (lv' := .slice none 0 0) rfl
  have q2 := q1.trans r2 (fun _ _ h => h)
  obtain ⟨s3, r3⟩ := s2.set 11 (.int .i64 c.py) (o' := { Cm.zero with kind := c.kind, txt := c.txt, pk := c.pk, py := c.py }) (lv' := .slice none 0 0) rfl
  have q3 := q2.trans r3 (fun _ _ h => h)
  obtain ⟨s4, r4⟩ := s3.set 12 (.int .i64 c.px) (o' := { Cm.zero with kind := c.kind, txt := c.txt, pk := c.pk, py := c.py, px := c.px }) (lv' := .slice none 0 0) rfl
  have q4 := q3.trans r4 (fun _ _ h => h)
  obtain ⟨s5, r5⟩ := s4.set 7 (.int .i64 c.nm) (o' := { Cm.zero with kind := c.kind, txt := c.txt, pk := c.pk, py := c.py, px := c.px, nm := c.nm }) (lv' := .slice none 0 0) rfl
  have q5 := q4.trans r5 (fun _ _ h => h)
  obtain ⟨s6, r6⟩ := s5.set 8 (.int .i64 c.dn) (o' := { Cm.zero with kind := c.kind, txt := c.txt, pk := c.pk, py := c.py, px := c.px, nm := c.nm, dn := c.dn }) (lv' := .slice none 0 0) rfl
  have q6 := q5.trans r6 (fun _ _ h => h)
  have hp : bareC c = { Cm.zero with kind := c.kind, txt := c.txt, pk := c.pk, py := c.py, px := c.px, nm := c.nm, dn := c.dn } := by unfold bareC; simp only [hk]; rfl
  have HP := Lib.hid hp
  have HS := Lib.hid (show CBlk _ b3 (bareC c) (.slice none 0 0) by rw [hp]; exact s6)
  have HQ := Lib.hid q6
  clear hp s0 s1 s2 s3 s4 s5 s6 q0 q1 q2 q3 q4 q5 q6 r1 r2 r3 r4 r5 r6
  go_upto_region 37 with fail
  generalize hw6 : World.setCell _ _ _ = w6 at HS HQ ⊢
  have HZ6 := Lib.hid (HZ5.out.kept HQ.out HN2.out)
  have HB6 := Lib.hid (HB5.out.trans (HQ.out.toBelow (B := b1) (Nat.le_trans (Nat.le_of_eq HBB.out.symm) HB5.out.size) (fun b hb => by have := HN3.out; omega)))
  clear hw6
  generalize hV6 : (bareC c).vs (.slice none 0 0) = V6
  have H1 := Lib.hid (show w6.heap[b3]? = some (.cells V6 53 (0, 0)) by rw [← hV6]; exact HS.out)
  have H2 := Lib.hid (show V6.all (·.oneCell') = true by rw [← hV6]; exact cm_one _ _ _ _)
  have H3 := Lib.hid (show V6.size = 22 by rw [← hV6]; rfl)
  have H4 := Lib.hid (show (Try.prog.info? 53).map (·.size) = some V6.size by rw [H3.out, cm_info])
  have HV6 := Lib.hid hV6
  clear hV6 c0 c1 c2 c3 c4 c5 c6 c7 c8 c9 c10 c11 c12 c13 c14 c15 c16 c17 c18 c19 c20 c21 y0 y1 y2 y3 y4 y5 y6 y7 y8 y9 y10 y11 y12 y13 y14 y15 y16 y17 y18 y19 y20 y21 k0 k1 k2 k3 k4 k5 k6 k7 k8 k9 k10 k11 k12 k13 k14 k15 k16 k17 k18 k19 k20 k21
  go_wp2_with (first
   | (with_reducible refine wpList_load_row rfl 53 (.tmp 3) rfl b3 rfl 53 V6 (0, 0) _ H1.out Try.underlying53 rfl H4.out ?_)
   | ((with_reducible show wpList _ _ _ (⟨none, .store _ _ _, _, _, _, _⟩ :: _) _ _); go_must (refine wpList_store_row rfl 53 (.tmp 2) (.tmp 98) rfl (b1 + 1) V6 rfl rfl 53 _ HZ6.out H4.out (by rw [H3.out]; rfl) H2.out ?_)))
  exact bodyPost_ret (results_cell_row rfl _ _ (b1 + 1) 53 _ (0, 0) _ rfl (setRow_heap _ _ _ _ _ _ HZ6.out) Try.underlying53 rfl H4.out) rfl ⟨_, by rw [HV6.out], .inr ⟨rfl, by rw [HP.out]; rfl⟩, by have h := below_row HB6.out (Nat.le_succ b1) V6; rw [HBB.out]; exact h⟩
 have h5 := hk
 clear hk
 by_cases hk : c.kind = 6
 ·rw [hk] at c0
  have s0 := HO5.out
  have q0 := Kept.refl (fun x => x ≠ b3) w5
  obtain ⟨s1, r1⟩ := s0.set 2 (.string c.txt) (o' := { Cm.zero with kind := c.kind, txt := c.txt }) (lv' := .slice none 0 0) rfl
  have q1 := q0.trans r1 (fun _ _ h => h)
  have hp : bareC c = { Cm.zero with kind := c.kind, txt := c.txt } := by unfold bareC; simp only [hk]; rfl
  have HP := Lib.hid hp
  have HS := Lib.hid (show CBlk _ b3 (bareC c) (.slice none 0 0) by rw [hp]; exact s1)
  have HQ := Lib.hid q1
  clear hp s0 s1 q0 q1 r1
  go_upto_region 37 with fail
  generalize hw6 : World.setCell _ _ _ = w6 at HS HQ ⊢
  have HZ6 := Lib.hid (HZ5.out.kept HQ.out HN2.out)
  have HB6 := Lib.hid (HB5.out.trans (HQ.out.toBelow (B := b1) (Nat.le_trans (Nat.le_of_eq HBB.out.symm) HB5.out.size) (fun b hb => by have := HN3.out; omega)))
  clear hw6
  generalize hV6 : (bareC c).vs (.slice none 0 0) = V6
  have H1 := Lib.hid (show w6.heap[b3]? = some (.cells V6 53 (0, 0)) by rw [← hV6]; exact HS.out)
  have H2 := Lib.hid (show V6.all (·.oneCell') = true by rw [← hV6]; exact cm_one _ _ _ _)
  have H3 := Lib.hid (show V6.size = 22 by rw [← hV6]; rfl)
  have H4 := Lib.hid (show (Try.prog.info? 53).map (·.size) = some V6.size by rw [H3.out, cm_info])
  have HV6 := Lib.hid hV6
  clear hV6 c0 c1 c2 c3 c4 c5 c6 c7 c8 c9 c10 c11 c12 c13 c14 c15 c16 c17 c18 c19 c20 c21 y0 y1 y2 y3 y4 y5 y6 y7 y8 y9 y10 y11 y12 y13 y14 y15 y16 y17 y18 y19 y20 y21 k0 k1 k2 k3 k4 k5 k6 k7 k8 k9 k10 k11 k12 k13 k14 k15 k16 k17 k18 k19 k20 k21
  go_wp2_with (first
   | (with_reducible refine wpList_load_row rfl 53 (.tmp 3) rfl b3 rfl 53 V6 (0, 0) _ H1.out Try.underlying53 rfl H4.out ?_)
   | ((with_reducible show wpList _ _ _ (⟨none, .store _ _ _, _, _, _, _⟩ :: _) _ _); go_must (refine wpList_store_row rfl 53 (.tmp 2) (.tmp 98) rfl (b1 + 1) V6 rfl rfl 53 _ HZ6.out H4.out (by rw [H3.out]; rfl) H2.out ?_)))
  exact bodyPost_ret (results_cell_row rfl _ _ (b1 + 1) 53 _ (0, 0) _ rfl (setRow_heap _ _ _ _ _ _ HZ6.out) Try.underlying53 rfl H4.out) rfl ⟨_, by rw [HV6.out], .inr ⟨rfl, by rw [HP.out]; rfl⟩, by have h := below_row HB6.out (Nat.le_succ b1) V6; rw [HBB.out]; exact h⟩
 have h6 := hk
 clear hk
 by_cases hk : c.kind = 7
 ·rw [hk] at c0
  have s0 := HO5.out
  have q0 := Kept.refl (fun x => x ≠ b3) w5
  obtain ⟨s1, r1⟩ := s0.set 10 (.int .i64 c.pk) (o' := { Cm.zero with kind := c.kind, pk := c.pk }) (lv' := .slice none 0 0) rfl
  have q1 := q0.trans r1 (fun _ _ h => h)
  obtain ⟨s2, r2⟩ := s1.set 11 (.int .i64 c.py) (o' := { Cm.zero with kind := c.kind, pk := c.pk, py := c.py }) (lv' := .slice none 0 0) rfl
  have q2 := q1.trans r2 (fun _ _ h => h)
  obtain ⟨s3, r3⟩ := s2.set 12 (.int .i64 c.px) (o' := { Cm.zero with kind := c.kind, pk := c.pk, py := c.py, px := c.px }) (lv' := .slice none 0 0) rfl
  have q3 := q2.trans r3 (fun _ _ h => h)
  obtain ⟨s4, r4⟩ := s3.set 7 (.int .i64 c.nm) (o' := { Cm.zero with kind := c.kind, pk := c.pk, py := c.py, px := c.px, nm := c.nm }) (lv' := .slice none 0 0) rfl
  have q4 := q3.trans r4 (fun _ _ h => h)
  have hp : bareC c = { Cm.zero with kind := c.kind, pk := c.pk, py := c.py, px := c.px, nm := c.nm } := by unfold bareC; simp only [hk]; rfl
  have HP := Lib.hid hp
  have HS := Lib.hid (show CBlk _ b3 (bareC c) (.slice none 0 0) by rw [hp]; exact s4)
  have HQ := Lib.hid q4
  clear hp s0 s1 s2 s3 s4 q0 q1 q2 q3 q4 r1 r2 r3 r4
  go_upto_region 37 with fail
  generalize hw6 : World.setCell _ _ _ = w6 at HS HQ ⊢
  have HZ6 := Lib.hid (HZ5.out.kept HQ.out HN2.out)
  have HB6 := Lib.hid (HB5.out.trans (HQ.out.toBelow (B := b1) (Nat.le_trans (Nat.le_of_eq HBB.out.symm) HB5.out.size) (fun b hb => by have := HN3.out; omega)))
  clear hw6
  generalize hV6 : (bareC c).vs (.slice none 0 0) = V6
  have H1 := Lib.hid (show w6.heap[b3]? = some (.cells V6 53 (0, 0)) by rw [← hV6]; exact HS.out)
  have H2 := Lib.hid (show V6.all (·.oneCell') = true by rw [← hV6]; exact cm_one _ _ _ _)
  have H3 := Lib.hid (show V6.size = 22 by rw [← hV6]; rfl)
  have H4 := Lib.hid (show (Try.prog.info? 53).map (·.size) = some V6.size by rw [H3.out, cm_info])
  have HV6 := Lib.hid hV6
  clear hV6 c0 c1 c2 c3 c4 c5 c6 c7 c8 c9 c10 c11 c12 c13 c14 c15 c16 c17 c18 c19 c20 c21 y0 y1 y2 y3 y4 y5 y6 y7 y8 y9 y10 y11 y12 y13 y14 y15 y16 y17 y18 y19 y20 y21 k0 k1 k2 k3 k4 k5 k6 k7 k8 k9 k10 k11 k12 k13 k14 k15 k16 k17 k18 k19 k20 k21
  go_wp2_with (first
   | (with_reducible refine wpList_load_row rfl 53 (.tmp 3) rfl b3 rfl 53 V6 (0, 0) _ H1.out Try.underlying53 rfl H4.out ?_)
   | ((with_reducible show wpList _ _ _ (⟨none, .store _ _ _, _, _, _, _⟩ :: _) _ _); go_must (refine wpList_store_row rfl 53 (.tmp 2) (.tmp 98) rfl (b1 + 1) V6 rfl rfl 53 _ HZ6.out H4.out (by rw [H3.out]; rfl) H2.out ?_)))
  exact bodyPost_ret (results_cell_row rfl _ _ (b1 + 1) 53 _ (0, 0) _ rfl (setRow_heap _ _ _ _ _ _ HZ6.out) Try.underlying53 rfl H4.out) rfl ⟨_, by rw [HV6.out], .inr ⟨rfl, by rw [HP.out]; rfl⟩, by have h := below_row HB6.out (Nat.le_succ b1) V6; rw [HBB.out]; exact h⟩
 have h7 := hk
 clear hk
 by_cases hk : c.kind = 8
 ·rw [hk] at c0
  have s0 := HO5.out
  have q0 := Kept.refl (fun x => x ≠ b3) w5
  obtain ⟨s1, r1⟩ := s0.set 13 (.string c.doc.id) (o' := { Cm.zero with kind := c.kind, doc := { Dm.zero with id := c.doc.id } }) (lv' := .slice none 0 0) rfl
  have q1 := q0.trans r1 (fun _ _ h => h)
  obtain ⟨s2, r2⟩ := s1.set 14 (.bool c.doc.sale) (o' := { Cm.zero with kind := c.kind, doc := { Dm.zero with id := c.doc.id, sale := c.doc.sale } }) (lv' := .slice none 0 0) rfl
  have q2 := q1.trans r2 (fun _ _ h => h)
  obtain ⟨s3, r3⟩ := s2.set 15 (.bool c.doc.cred) (o' := { Cm.zero with kind := c.kind, doc := { Dm.zero with id := c.doc.id, sale := c.doc.sale, cred := c.doc.cred } }) (lv' := .slice none 0 0) rfl
  have q3 := q2.trans r3 (fun _ _ h => h)
  obtain ⟨s4, r4⟩ := s3.set 16 (.string c.doc.ref) (o' := { Cm.zero with kind := c.kind, doc := { Dm.zero with id := c.doc.id, sale := c.doc.sale, cred := c.doc.cred, ref := c.doc.ref } }) (lv' := .slice none 0 0) rfl
  have q4 := q3.trans r4 (fun _ _ h => h)
  obtain ⟨s5, r5⟩ := s4.set 17 (.int .i64 c.doc.day) (o' := { Cm.zero with kind := c.kind, doc := { Dm.zero with id := c.doc.id, sale := c.doc.sale, cred := c.doc.cred, ref := c.doc.ref, day := c.doc.day } }) (lv' := .slice none 0 0) rfl
  have q5 := q4.trans r5 (fun _ _ h => h)
  obtain ⟨s6, r6⟩ := s5.set 18 (.string c.doc.cty) (o' := { Cm.zero with kind := c.kind, doc := { Dm.zero with id := c.doc.id, sale := c.doc.sale, cred := c.doc.cred, ref := c.doc.ref, day := c.doc.day, cty := c.doc.cty } }) (lv' := .slice none 0 0) rfl
  have q6 := q5.trans r6 (fun _ _ h => h)
  obtain ⟨s7, r7⟩ := s6.set 19 (.string c.doc.num) (o' := { Cm.zero with kind := c.kind, doc := { Dm.zero with id := c.doc.id, sale := c.doc.sale, cred := c.doc.cred, ref := c.doc.ref, day := c.doc.day, cty := c.doc.cty, num := c.doc.num } }) (lv' := .slice none 0 0) rfl
  have q7 := q6.trans r7 (fun _ _ h => h)
  obtain ⟨s8, r8⟩ := s7.set 20 (.string c.doc.cur) (o' := { Cm.zero with kind := c.kind, doc := { Dm.zero with id := c.doc.id, sale := c.doc.sale, cred := c.doc.cred, ref := c.doc.ref, day := c.doc.day, cty := c.doc.cty, num := c.doc.num, cur := c.doc.cur } }) (lv' := .slice none 0 0) rfl
  have q8 := q7.trans r8 (fun _ _ h => h)
  obtain ⟨s9, r9⟩ := s8.set 21 (.slice A0 n0 m0) (o' := { Cm.zero with kind := c.kind, doc := { Dm.zero with id := c.doc.id, sale := c.doc.sale, cred := c.doc.cred, ref := c.doc.ref, day := c.doc.day, cty := c.doc.cty, num := c.doc.num, cur := c.doc.cur, ls := c.doc.ls } }) (lv' := .slice A0 n0 m0) rfl
  have q9 := q8.trans r9 (fun _ _ h => h)
  have hp : bareC c = { Cm.zero with kind := c.kind, doc := c.doc } := by unfold bareC; simp only [hk]; rfl
  have HP := Lib.hid hp
  have HS := Lib.hid (show CBlk _ b3 (bareC c) (.slice A0 n0 m0) by rw [hp]; exact s9)
  have HQ := Lib.hid q9
  clear hp s0 s1 s2 s3 s4 s5 s6 s7 s8 s9 q0 q1 q2 q3 q4 q5 q6 q7 q8 q9 r1 r2 r3 r4 r5 r6 r7 r8 r9
  go_upto_region 37 with fail
  generalize hw6 : World.setCell _ _ _ = w6 at HS HQ ⊢
  have HZ6 := Lib.hid (HZ5.out.kept HQ.out HN2.out)
  have HB6 := Lib.hid (HB5.out.trans (HQ.out.toBelow (B := b1) (Nat.le_trans (Nat.le_of_eq HBB.out.symm) HB5.out.size) (fun b hb => by have := HN3.out; omega)))
  clear hw6
  generalize hV6 : (bareC c).vs (.slice A0 n0 m0) = V6
  have H1 := Lib.hid (show w6.heap[b3]? = some (.cells V6 53 (0, 0)) by rw [← hV6]; exact HS.out)
  have H2 := Lib.hid (show V6.all (·.oneCell') = true by rw [← hV6]; exact cm_one _ _ _ _)
  have H3 := Lib.hid (show V6.size = 22 by rw [← hV6]; rfl)
  have H4 := Lib.hid (show (Try.prog.info? 53).map (·.size) = some V6.size by rw [H3.out, cm_info])
  have HV6 := Lib.hid hV6
  clear hV6 c0 c1 c2 c3 c4 c5 c6 c7 c8 c9 c10 c11 c12 c13 c14 c15 c16 c17 c18 c19 c20 c21 y0 y1 y2 y3 y4 y5 y6 y7 y8 y9 y10 y11 y12 y13 y14 y15 y16 y17 y18 y19 y20 y21 k0 k1 k2 k3 k4 k5 k6 k7 k8 k9 k10 k11 k12 k13 k14 k15 k16 k17 k18 k19 k20 k21
  go_wp2_with (first
   | (with_reducible refine wpList_load_row rfl 53 (.tmp 3) rfl b3 rfl 53 V6 (0, 0) _ H1.out Try.underlying53 rfl H4.out ?_)
   | ((with_reducible show wpList _ _ _ (⟨none, .store _ _ _, _, _, _, _⟩ :: _) _ _); go_must (refine wpList_store_row rfl 53 (.tmp 2) (.tmp 98) rfl (b1 + 1) V6 rfl rfl 53 _ HZ6.out H4.out (by rw [H3.out]; rfl) H2.out ?_)))
  exact bodyPost_ret (results_cell_row rfl _ _ (b1 + 1) 53 _ (0, 0) _ rfl (setRow_heap _ _ _ _ _ _ HZ6.out) Try.underlying53 rfl H4.out) rfl ⟨_, by rw [HV6.out], .inl ⟨rfl, by rw [HP.out]⟩, by have h := below_row HB6.out (Nat.le_succ b1) V6; rw [HBB.out]; exact h⟩
 have h8 := hk
 clear hk
 by_cases hk : c.kind = 9
 ·rw [hk] at c0
  have s0 := HO5.out
  have q0 := Kept.refl (fun x => x ≠ b3) w5
  obtain ⟨s1, r1⟩ := s0.set 10 (.int .i64 c.pk) (o' := { Cm.zero with kind := c.kind, pk := c.pk }) (lv' := .slice none 0 0) rfl
  have q1 := q0.trans r1 (fun _ _ h => h)
  obtain ⟨s2, r2⟩ := s1.set 11 (.int .i64 c.py) (o' := { Cm.zero with kind := c.kind, pk := c.pk, py := c.py }) (lv' := .slice none 0 0) rfl
  have q2 := q1.trans r2 (fun _ _ h => h)
  obtain ⟨s3, r3⟩ := s2.set 12 (.int .i64 c.px) (o' := { Cm.zero with kind := c.kind, pk := c.pk, py := c.py, px := c.px }) (lv' := .slice none 0 0) rfl
  have q3 := q2.trans r3 (fun _ _ h => h)
  have hp : bareC c = { Cm.zero with kind := c.kind, pk := c.pk, py := c.py, px := c.px } := by unfold bareC; simp only [hk]; rfl
  have HP := Lib.hid hp
  have HS := Lib.hid (show CBlk _ b3 (bareC c) (.slice none 0 0) by rw [hp]; exact s3)
  have HQ := Lib.hid q3
  clear hp s0 s1 s2 s3 q0 q1 q2 q3 r1 r2 r3
  go_upto_region 37 with fail
  generalize hw6 : World.setCell _ _ _ = w6 at HS HQ ⊢
  have HZ6 := Lib.hid (HZ5.out.kept HQ.out HN2.out)
  have HB6 := Lib.hid (HB5.out.trans (HQ.out.toBelow (B := b1) (Nat.le_trans (Nat.le_of_eq HBB.out.symm) HB5.out.size) (fun b hb => by have := HN3.out; omega)))
  clear hw6
  generalize hV6 : (bareC c).vs (.slice none 0 0) = V6
  have H1 := Lib.hid (show w6.heap[b3]? = some (.cells V6 53 (0, 0)) by rw [← hV6]; exact HS.out)
  have H2 := Lib.hid (show V6.all (·.oneCell') = true by rw [← hV6]; exact cm_one _ _ _ _)
  have H3 := Lib.hid (show V6.size = 22 by rw [← hV6]; rfl)
  have H4 := Lib.hid (show (Try.prog.info? 53).map (·.size) = some V6.size by rw [H3.out, cm_info])
  have HV6 := Lib.hid hV6
  clear hV6 c0 c1 c2 c3 c4 c5 c6 c7 c8 c9 c10 c11 c12 c13 c14 c15 c16 c17 c18 c19 c20 c21 y0 y1 y2 y3 y4 y5 y6 y7 y8 y9 y10 y11 y12 y13 y14 y15 y16 y17 y18 y19 y20 y21 k0 k1 k2 k3 k4 k5 k6 k7 k8 k9 k10 k11 k12 k13 k14 k15 k16 k17 k18 k19 k20 k21
  go_wp2_with (first
   | (with_reducible refine wpList_load_row rfl 53 (.tmp 3) rfl b3 rfl 53 V6 (0, 0) _ H1.out Try.underlying53 rfl H4.out ?_)
   | ((with_reducible show wpList _ _ _ (⟨none, .store _ _ _, _, _, _, _⟩ :: _) _ _); go_must (refine wpList_store_row rfl 53 (.tmp 2) (.tmp 98) rfl (b1 + 1) V6 rfl rfl 53 _ HZ6.out H4.out (by rw [H3.out]; rfl) H2.out ?_)))
  exact bodyPost_ret (results_cell_row rfl _ _ (b1 + 1) 53 _ (0, 0) _ rfl (setRow_heap _ _ _ _ _ _ HZ6.out) Try.underlying53 rfl H4.out) rfl ⟨_, by rw [HV6.out], .inr ⟨rfl, by rw [HP.out]; rfl⟩, by have h := below_row HB6.out (Nat.le_succ b1) V6; rw [HBB.out]; exact h⟩
 have h9 := hk
 clear hk
 by_cases hk : c.kind = 10
 ·rw [hk] at c0
  have s0 := HO5.out
  have q0 := Kept.refl (fun x => x ≠ b3) w5
  obtain ⟨s1, r1⟩ := s0.set 10 (.int .i64 c.pk) (o' := { Cm.zero with kind := c.kind, pk := c.pk }) (lv' := .slice none 0 0) rfl
  have q1 := q0.trans r1 (fun _ _ h => h)
  obtain ⟨s2, r2⟩ := s1.set 11 (.int .i64 c.py) (o' := { Cm.zero with kind := c.kind, pk := c.pk, py := c.py }) (lv' := .slice none 0 0) rfl
  have q2 := q1.trans r2 (fun _ _ h => h)
  obtain ⟨s3, r3⟩ := s2.set 12 (.int .i64 c.px) (o' := { Cm.zero with kind := c.kind, pk := c.pk, py := c.py, px := c.px }) (lv' := .slice none 0 0) rfl
  have q3 := q2.trans r3 (fun _ _ h => h)
  have hp : bareC c = { Cm.zero with kind := c.kind, pk := c.pk, py := c.py, px := c.px } := by unfold bareC; simp only [hk]; rfl
  have HP := Lib.hid hp
  have HS := Lib.hid (show CBlk _ b3 (bareC c) (.slice none 0 0) by rw [hp]; exact s3)
  have HQ := Lib.hid q3
  clear hp s0 s1 s2 s3 q0 q1 q2 q3 r1 r2 r3
  go_upto_region 37 with fail
  generalize hw6 : World.setCell _ _ _ = w6 at HS HQ ⊢
  have HZ6 := Lib.hid (HZ5.out.kept HQ.out HN2.out)
  have HB6 := Lib.hid (HB5.out.trans (HQ.out.toBelow (B := b1) (Nat.le_trans (Nat.le_of_eq HBB.out.symm) HB5.out.size) (fun b hb => by have := HN3.out; omega)))
  clear hw6
  generalize hV6 : (bareC c).vs (.slice none 0 0) = V6
  have H1 := Lib.hid (show w6.heap[b3]? = some (.cells V6 53 (0, 0)) by rw [← hV6]; exact HS.out)
  have H2 := Lib.hid (show V6.all (·.oneCell') = true by rw [← hV6]; exact cm_one _ _ _ _)
  have H3 := Lib.hid (show V6.size = 22 by rw [← hV6]; rfl)
  have H4 := Lib.hid (show (Try.prog.info? 53).map (·.size) = some V6.size by rw [H3.out, cm_info])
  have HV6 := Lib.hid hV6
  clear hV6 c0 c1 c2 c3 c4 c5 c6 c7 c8 c9 c10 c11 c12 c13 c14 c15 c16 c17 c18 c19 c20 c21 y0 y1 y2 y3 y4 y5 y6 y7 y8 y9 y10 y11 y12 y13 y14 y15 y16 y17 y18 y19 y20 y21 k0 k1 k2 k3 k4 k5 k6 k7 k8 k9 k10 k11 k12 k13 k14 k15 k16 k17 k18 k19 k20 k21
  go_wp2_with (first
   | (with_reducible refine wpList_load_row rfl 53 (.tmp 3) rfl b3 rfl 53 V6 (0, 0) _ H1.out Try.underlying53 rfl H4.out ?_)
   | ((with_reducible show wpList _ _ _ (⟨none, .store _ _ _, _, _, _, _⟩ :: _) _ _); go_must (refine wpList_store_row rfl 53 (.tmp 2) (.tmp 98) rfl (b1 + 1) V6 rfl rfl 53 _ HZ6.out H4.out (by rw [H3.out]; rfl) H2.out ?_)))
  exact bodyPost_ret (results_cell_row rfl _ _ (b1 + 1) 53 _ (0, 0) _ rfl (setRow_heap _ _ _ _ _ _ HZ6.out) Try.underlying53 rfl H4.out) rfl ⟨_, by rw [HV6.out], .inr ⟨rfl, by rw [HP.out]; rfl⟩, by have h := below_row HB6.out (Nat.le_succ b1) V6; rw [HBB.out]; exact h⟩
 have h10 := hk
 clear hk
 by_cases hk : c.kind = 11
 ·rw [hk] at c0
  have s0 := HO5.out
  have q0 := Kept.refl (fun x => x ≠ b3) w5
  obtain ⟨s1, r1⟩ := s0.set 10 (.int .i64 c.pk) (o' := { Cm.zero with kind := c.kind, pk := c.pk }) (lv' := .slice none 0 0) rfl
  have q1 := q0.trans r1 (fun _ _ h => h)
  obtain ⟨s2, r2⟩ := s1.set 11 (.int .i64 c.py) (o' := { Cm.zero with kind := c.kind, pk := c.pk, py := c.py }) (lv' := .slice none 0 0) rfl
  have q2 := q1.trans r2 (fun _ _ h => h)
  obtain ⟨s3, r3⟩ := s2.set 12 (.int .i64 c.px) (o' := { Cm.zero with kind := c.kind, pk := c.pk, py := c.py, px := c.px }) (lv' := .slice none 0 0) rfl
  have q3 := q2.trans r3 (fun _ _ h => h)
  have hp : bareC c = { Cm.zero with kind := c.kind, pk := c.pk, py := c.py, px := c.px } := by unfold bareC; simp only [hk]; rfl
  have HP := Lib.hid hp
  have HS := Lib.hid (show CBlk _ b3 (bareC c) (.slice none 0 0) by rw [hp]; exact s3)
  have HQ := Lib.hid q3
  clear hp s0 s1 s2 s3 q0 q1 q2 q3 r1 r2 r3
  go_upto_region 37 with fail
  generalize hw6 : World.setCell _ _ _ = w6 at HS HQ ⊢
  have HZ6 := Lib.hid (HZ5.out.kept HQ.out HN2.out)
  have HB6 := Lib.hid (HB5.out.trans (HQ.out.toBelow (B := b1) (Nat.le_trans (Nat.le_of_eq HBB.out.symm) HB5.out.size) (fun b hb => by have := HN3.out; omega)))
  clear hw6
  generalize hV6 : (bareC c).vs (.slice none 0 0) = V6
  have H1 := Lib.hid (show w6.heap[b3]? = some (.cells V6 53 (0, 0)) by rw [← hV6]; exact HS.out)
  have H2 := Lib.hid (show V6.all (·.oneCell') = true by rw [← hV6]; exact cm_one _ _ _ _)
  have H3 := Lib.hid (show V6.size = 22 by rw [← hV6]; rfl)
  have H4 := Lib.hid (show (Try.prog.info? 53).map (·.size) = some V6.size by rw [H3.out, cm_info])
  have HV6 := Lib.hid hV6
  clear hV6 c0 c1 c2 c3 c4 c5 c6 c7 c8 c9 c10 c11 c12 c13 c14 c15 c16 c17 c18 c19 c20 c21 y0 y1 y2 y3 y4 y5 y6 y7 y8 y9 y10 y11 y12 y13 y14 y15 y16 y17 y18 y19 y20 y21 k0 k1 k2 k3 k4 k5 k6 k7 k8 k9 k10 k11 k12 k13 k14 k15 k16 k17 k18 k19 k20 k21
  go_wp2_with (first
   | (with_reducible refine wpList_load_row rfl 53 (.tmp 3) rfl b3 rfl 53 V6 (0, 0) _ H1.out Try.underlying53 rfl H4.out ?_)
   | ((with_reducible show wpList _ _ _ (⟨none, .store _ _ _, _, _, _, _⟩ :: _) _ _); go_must (refine wpList_store_row rfl 53 (.tmp 2) (.tmp 98) rfl (b1 + 1) V6 rfl rfl 53 _ HZ6.out H4.out (by rw [H3.out]; rfl) H2.out ?_)))
  exact bodyPost_ret (results_cell_row rfl _ _ (b1 + 1) 53 _ (0, 0) _ rfl (setRow_heap _ _ _ _ _ _ HZ6.out) Try.underlying53 rfl H4.out) rfl ⟨_, by rw [HV6.out], .inr ⟨rfl, by rw [HP.out]; rfl⟩, by have h := below_row HB6.out (Nat.le_succ b1) V6; rw [HBB.out]; exact h⟩
 have h11 := hk
 clear hk
 have e1 : (c.kind == 1) = false := by rw [beq_eq_false_iff_ne]; exact h1
 have e2 : (c.kind == 2) = false := by rw [beq_eq_false_iff_ne]; exact h2
 have e3 : (c.kind == 3) = false := by rw [beq_eq_false_iff_ne]; exact h3
 have e4 : (c.kind == 4) = false := by rw [beq_eq_false_iff_ne]; exact h4
 have e5 : (c.kind == 5) = false := by rw [beq_eq_false_iff_ne]; exact h5
 have e6 : (c.kind == 6) = false := by rw [beq_eq_false_iff_ne]; exact h6
 have e7 : (c.kind == 7) = false := by rw [beq_eq_false_iff_ne]; exact h7
 have e8 : (c.kind == 8) = false := by rw [beq_eq_false_iff_ne]; exact h8
 have e9 : (c.kind == 9) = false := by rw [beq_eq_false_iff_ne]; exact h9
 have e10 : (c.kind == 10) = false := by rw [beq_eq_false_iff_ne]; exact h10
 have e11 : (c.kind == 11) = false := by rw [beq_eq_false_iff_ne]; exact h11
 have s0 := HO5.out
 have q0 := Kept.refl (fun x => x ≠ b3) w5
 have hp : bareC c = { Cm.zero with kind := c.kind } := by simp only [bareC, h1, h2, h3, h4, h5, h6, h7, h8, h9, h10, h11, if_false, or_self]
 have HP := Lib.hid hp
 have HS := Lib.hid (show CBlk _ b3 (bareC c) (.slice none 0 0) by rw [hp]; exact s0)
 have HQ := Lib.hid q0
 clear hp s0 q0
 go_upto_region 37 with fail
 have HZ6 := Lib.hid (HZ5.out.kept HQ.out HN2.out)
 have HB6 := Lib.hid (HB5.out.trans (HQ.out.toBelow (B := b1) (Nat.le_trans (Nat.le_of_eq HBB.out.symm) HB5.out.size) (fun b hb => by have := HN3.out; omega)))
 generalize hV6 : (bareC c).vs (.slice none 0 0) = V6
 have H1 := Lib.hid (show w5.heap[b3]? = some (.cells V6 53 (0, 0)) by rw [← hV6]; exact HS.out)
 have H2 := Lib.hid (show V6.all (·.oneCell') = true by rw [← hV6]; exact cm_one _ _ _ _)
 have H3 := Lib.hid (show V6.size = 22 by rw [← hV6]; rfl)
 have H4 := Lib.hid (show (Try.prog.info? 53).map (·.size) = some V6.size by rw [H3.out, cm_info])
 have HV6 := Lib.hid hV6
 clear hV6 c0 c1 c2 c3 c4 c5 c6 c7 c8 c9 c10 c11 c12 c13 c14 c15 c16 c17 c18 c19 c20 c21 y0 y1 y2 y3 y4 y5 y6 y7 y8 y9 y10 y11 y12 y13 y14 y15 y16 y17 y18 y19 y20 y21 k0 k1 k2 k3 k4 k5 k6 k7 k8 k9 k10 k11 k12 k13 k14 k15 k16 k17 k18 k19 k20 k21
 go_wp2_with (first
  | (with_reducible refine wpList_load_row rfl 53 (.tmp 3) rfl b3 rfl 53 V6 (0, 0) _ H1.out Try.underlying53 rfl H4.out ?_)
  | ((with_reducible show wpList _ _ _ (⟨none, .store _ _ _, _, _, _, _⟩ :: _) _ _); go_must (refine wpList_store_row rfl 53 (.tmp 2) (.tmp 98) rfl (b1 + 1) V6 rfl rfl 53 _ HZ6.out H4.out (by rw [H3.out]; rfl) H2.out ?_)))
 exact bodyPost_ret (results_cell_row rfl _ _ (b1 + 1) 53 _ (0, 0) _ rfl (setRow_heap _ _ _ _ _ _ HZ6.out) Try.underlying53 rfl H4.out) rfl ⟨_, by rw [HV6.out], .inr ⟨rfl, by rw [HP.out]; rfl⟩, by have h := below_row HB6.out (Nat.le_succ b1) V6; rw [HBB.out]; exact h⟩
end Go.Proofs.Ytnfpmobmfcgfnaa

/- THE TWO TESTS OF A COMMAND ARE ONE. -/
namespace Go.Proofs.Ytnfpmobmfcgfnaa
open Go.RowKit
theorem plain_bare {c : Cm} (h : kindB c = true) : (plainC c = Cm.zero) = (c = bareC c) := by
 apply propext
 rw [← Cm.eq_iff, ← Cm.eq_iff]
 by_cases h1 : c.kind = 1
 ·simp [plainC, bareC, h1, Cm.zero]
 by_cases h2 : c.kind = 2
 ·simp [plainC, bareC, h2, Cm.zero]
 by_cases h3 : c.kind = 3
 ·simp [plainC, bareC, h3, Cm.zero]
 by_cases h4 : c.kind = 4
 ·simp [plainC, bareC, h4, Cm.zero]
 by_cases h5 : c.kind = 5
 ·simp [plainC, bareC, h5, Cm.zero]
 by_cases h6 : c.kind = 6
 ·simp [plainC, bareC, h6, Cm.zero]
 by_cases h7 : c.kind = 7
 ·simp [plainC, bareC, h7, Cm.zero]
 by_cases h8 : c.kind = 8
 ·simp [plainC, bareC, h8, Cm.zero]
 by_cases h9 : c.kind = 9
 ·simp [plainC, bareC, h9, Cm.zero]
 by_cases h10 : c.kind = 10
 ·simp [plainC, bareC, h10, Cm.zero]
 by_cases h11 : c.kind = 11
 ·simp [plainC, bareC, h11, Cm.zero]
 ·unfold kindB at h
  simp [h1, h2, h3, h4, h5, h6, h7, h8, h9, h10, h11] at h
theorem good_eq (c : Cm) : (decide (plainC c = Cm.zero) && kindB c) = goodCB c := by
 unfold goodCB
 cases h : kindB c
 ·rw [Bool.and_false, Bool.and_false]
 ·simp only [plain_bare h]
theorem str_ref (d u : Int) : (inB d 0 2932896 && inB u d 2932896) = strB d u := by
 unfold strB inB
 rw [Bool.eq_iff_iff]
 simp only [Bool.and_eq_true, decide_eq_true_eq]
 omega
theorem per_two (k y x : Int) : (perB k y x && inB k 1 2) = (perB k y x && !(k == 3)) := by
 unfold perB inB manyK
 rw [Bool.eq_iff_iff]
 simp only [Bool.and_eq_true, decide_eq_true_eq, Bool.not_eq_true', beq_eq_false_iff_ne]
 constructor
 ·rintro ⟨h1, h2, h3⟩
  exact ⟨h1, by omega⟩
 ·rintro ⟨⟨⟨h0, h1⟩, h2⟩, h3⟩
  refine ⟨⟨⟨h0, h1⟩, h2⟩, ?_⟩
  by_cases h4 : k = 1
  ·omega
  by_cases h5 : k = 2
  ·omega
  rw [if_neg h4, if_neg h5, if_neg h3] at h2
  omega
/-- all documents and texts of a command that comes of another one are well -/
theorem plain_ok {c : Cm} (h : c.ok) : (plainC c).ok := by
 obtain ⟨h1, h2, h3, h4, h5, h6, h7, h8, h9, h10, h11, h12, h13, h14⟩ := h
 unfold plainC
 repeat' split
 all_goals exact ⟨by first | assumption | exact i64_zero, by first | assumption | exact len_zero, by first | assumption | exact len_zero, by first | assumption | exact i64_zero, by first | assumption | exact i64_zero, by first | assumption | exact i64_zero, by first | assumption | exact i64_zero, by first | assumption | exact i64_zero, by first | assumption | exact i64_zero, by first | assumption | exact i64_zero, by first | assumption | exact i64_zero, by first | assumption | exact i64_zero, by first | assumption | exact i64_zero, by first | assumption | exact Dm.zero_ok⟩
theorem bare_ok {c : Cm} (h : c.ok) : (bareC c).ok := by
 obtain ⟨h1, h2, h3, h4, h5, h6, h7, h8, h9, h10, h11, h12, h13, h14⟩ := h
 unfold bareC
 repeat' split
 all_goals exact ⟨by first | assumption | exact i64_zero, by first | assumption | exact len_zero, by first | assumption | exact len_zero, by first | assumption | exact i64_zero, by first | assumption | exact i64_zero, by first | assumption | exact i64_zero, by first | assumption | exact i64_zero, by first | assumption | exact i64_zero, by first | assumption | exact i64_zero, by first | assumption | exact i64_zero, by first | assumption | exact i64_zero, by first | assumption | exact i64_zero, by first | assumption | exact i64_zero, by first | assumption | exact Dm.zero_ok⟩
/-- a command that comes in, and what a walk asks of it -/
theorem cmd_pre {w : World} {B : Nat} {v : Value} {c : Cm} (hv : CmV w B v c) (hB : B ≤ w.heap.size) : ∃ (A0 : Option Addr) (m0 : Nat) (V : Array Value), v = .agg V ∧ Hid (c.vs (.slice A0 c.doc.ls.length m0) = V) ∧ Hid (V.size = 22) ∧ Hid ((Try.prog.info? 53).map (·.size) = some V.size) ∧
  Hid (Below w.heap.size w (w.alloc (.cells V 53))) ∧ Hid (CBlk (w.alloc (.cells V 53)) w.heap.size c (.slice A0 c.doc.ls.length m0)) ∧ Hid (∀ W, Below w.heap.size w W → Lns W B (.slice A0 c.doc.ls.length m0) c.doc.ls) ∧ Hid c.ok := by
 obtain ⟨lv, rfl, hls, hok⟩ := hv
 obtain ⟨A0, m0, rfl, _, _⟩ := hls.form
 exact ⟨A0, m0, _, rfl, Lib.hid rfl, Lib.hid rfl, Lib.hid (cm_szi _ _), Lib.hid ((Below.refl w.heap.size w).alloc (Nat.le_refl _) _), Lib.hid (CBlk.made w c _), Lib.hid fun W hW => hls.below (hW.mono hB), Lib.hid hok⟩
/-- the lines of a command that comes of another one -/
theorem hdoc_pre {w w1 : World} {B : Nat} {A0 : Option Addr} {m0 : Nat} {c : Cm} {D : Dm} (HLS : Hid (∀ W, Below w.heap.size w W → Lns W B (.slice A0 c.doc.ls.length m0) c.doc.ls)) (HB1 : Hid (Below w.heap.size w w1)) (hB : B ≤ w.heap.size) :
  ∀ lv' W, Below w1.heap.size w1 W → ((lv' = .slice A0 c.doc.ls.length m0 ∧ D = c.doc) ∨ (lv' = .slice none 0 0 ∧ D = Dm.zero)) → Lns W W.heap.size lv' D.ls := fun lv' W hW h => by
 rcases h with ⟨rfl, h⟩ | ⟨rfl, h⟩
 ·rw [h]; exact (HLS.out W (HB1.out.trans (hW.mono HB1.out.size))).more (Nat.le_trans hB (HB1.out.trans (hW.mono HB1.out.size)).size)
 ·rw [h]; exact Lns.nil_ _ _
end Go.Proofs.Ytnfpmobmfcgfnaa

