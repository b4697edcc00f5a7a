/- THE WALK OF record.plain (printed by gen/genpla.py). -/
import Derived.Test.YtnfpmobmfcgfnaaPp
import Derived.Test.YtnfpmobmfcgfnaaPm
namespace Go.Proofs.Ytnfpmobmfcgfnaa
open Go.RowKit
theorem CBlk.free {w : World} {b : Nat} {o : Cm} {lv : Value} (h : CBlk w b o lv) : w.frozen? ⟨b, 0, none⟩ = false ∧ w.frozen? ⟨b, 1, none⟩ = false ∧ w.frozen? ⟨b, 2, none⟩ = false ∧ w.frozen? ⟨b, 3, none⟩ = false ∧ w.frozen? ⟨b, 4, none⟩ = false ∧ w.frozen? ⟨b, 5, none⟩ = false ∧ w.frozen? ⟨b, 6, none⟩ = false ∧ w.frozen? ⟨b, 7, none⟩ = false ∧ w.frozen? ⟨b, 8, none⟩ = false ∧ w.frozen? ⟨b, 9, none⟩ = false ∧ w.frozen? ⟨b, 10, none⟩ = false ∧ w.frozen? ⟨b, 11, none⟩ = false ∧ w.frozen? ⟨b, 12, none⟩ = false ∧ w.frozen? ⟨b, 13, none⟩ = false ∧ w.frozen? ⟨b, 14, none⟩ = false ∧ w.frozen? ⟨b, 15, none⟩ = false ∧ w.frozen? ⟨b, 16, none⟩ = false ∧ w.frozen? ⟨b, 17, none⟩ = false ∧ w.frozen? ⟨b, 18, none⟩ = false ∧ w.frozen? ⟨b, 19, none⟩ = false ∧ w.frozen? ⟨b, 20, none⟩ = false ∧ w.frozen? ⟨b, 21, none⟩ = false :=
 ⟨free_of h 0, free_of h 1, free_of h 2, free_of h 3, free_of h 4, free_of h 5, free_of h 6, free_of h 7, free_of h 8, free_of h 9, free_of h 10, free_of h 11, free_of h 12, free_of h 13, free_of h 14, free_of h 15, free_of h 16, free_of h 17, free_of h 18, free_of h 19, free_of h 20, free_of h 21⟩
theorem CBlk.kept {w w' : World} {b : Nat} {o : Cm} {lv : Value} {S : Nat → Prop} (h : CBlk w b o lv) (k : Kept S w w') (hS : S b) : CBlk w' b o lv := k.heap h hS
theorem cm_size (o : Cm) (lv : Value) : (o.vs lv).size = 22 := rfl
theorem cm_one (o : Cm) (A : Option Addr) (n k : Nat) : (o.vs (.slice A n k)).all (·.oneCell') = true := by
 simp [Cm.vs, Value.oneCell']
theorem cm_szi (o : Cm) (lv : Value) : (Try.prog.info? 53).map (·.size) = some (o.vs lv).size := by rw [cm_size, cm_info]

theorem CBlk.set {w : World} {b : Nat} {o o' : Cm} {lv lv' : Value} (h : CBlk w b o lv) (i : Nat) (v : Value) (he : (o.vs lv).setIfInBounds i v = o'.vs lv') : CBlk (w.setCell ⟨b, i, none⟩ v) b o' lv' ∧ Kept (fun x => x ≠ b) w (w.setCell ⟨b, i, none⟩ v) := by
 have := Lib.heap_setCell_same (i := i) h v
 rw [he] at this
 exact ⟨this, (Kept.refl _ w).setCell _ _ (fun _ h => h rfl)⟩
theorem CBlk.row {w : World} {b : Nat} {cs : Array Value} (h : w.heap[b]? = some (.cells cs 53 (0, 0))) (o : Cm) (lv : Value) : CBlk (w.setRow b (o.vs lv)) b o lv ∧ Kept (fun x => x ≠ b) w (w.setRow b (o.vs lv)) :=
 ⟨setRow_heap w b _ _ _ _ h, ⟨rfl, rfl, rfl, by simp [World.setRow], fun k hk hne => setRow_other w b k _ hne⟩⟩
/-- what plain hands back -/
def PlainPost (c : Cm) (lv : Value) (w : World) (e : Ending) (w' : World) : Prop :=
 ∃ lv', e = .returned (.agg ((plainC c).vs lv')) ∧ ((lv' = lv ∧ (plainC c).doc = c.doc) ∨ (lv' = .slice none 0 0 ∧ (plainC c).doc = Dm.zero)) ∧ Below w.heap.size w w'
set_option maxRecDepth 100000 in
set_option maxHeartbeats 16000000 in
theorem plain_any (c : Cm) (A0 : Option Addr) (n0 m0 : Nat) (w : World) : Calls Try.prog 48 #[.agg (c.vs (.slice A0 n0 m0))] w (PlainPost c (.slice A0 n0 m0) w) := by
 have hb1 := (Below.refl w.heap.size w).alloc (Nat.le_refl _) (.cells (c.vs (.slice A0 n0 m0)) 53)
 have hx1 := CBlk.made w c (.slice A0 n0 m0)
 have hb2 := (Below.refl (w.alloc (.cells (c.vs (.slice A0 n0 m0)) 53)).heap.size (w.alloc (.cells (c.vs (.slice A0 n0 m0)) 53))).alloc (Nat.le_refl _) (.cells (Cm.zero.vs (.slice none 0 0)) 53)
 have hz2 := CBlk.made (w.alloc (.cells (c.vs (.slice A0 n0 m0)) 53)) Cm.zero (.slice none 0 0)
 rw [World.size_alloc] at hz2
 have hx2 := hx1.below hb2
 have HB2 := Lib.hid (hb1.trans (hb2.mono hb1.size))
 have HX2 := Lib.hid hx2
 have HZ2 := Lib.hid hz2
 clear hb1 hx1 hb2 hz2 hx2
 generalize hV : c.vs (.slice A0 n0 m0) = V at *
 have HV := Lib.hid hV
 clear hV
 go_enter Try.func48, Try.ntmps48
 go_upto_region 1 with fail
 have hzl : #[.int .i64 0, .string ⟨#[]⟩, .string ⟨#[]⟩, .int .i64 0, .int .i64 0, .int .i64 0, .int .i64 0, .int .i64 0, .int .i64 0, .int .i64 0, .int .i64 0, .int .i64 0, .int .i64 0, .string ⟨#[]⟩, .bool false, .bool false, .string ⟨#[]⟩, .int .i64 0, .string ⟨#[]⟩, .string ⟨#[]⟩, .string ⟨#[]⟩, .slice none 0 0] = Cm.zero.vs (.slice none 0 0) := rfl
 rw [hzl]
 clear hzl
 generalize World.alloc (World.alloc w _) _ = w2 at *
 generalize hb : w.heap.size = b1 at *
 have HBB := Lib.hid hb
 clear hb
 have HXV := Lib.hid (show w2.heap[b1]? = some (.cells V 53 (0, 0)) by rw [← HV.out]; exact HX2.out)
 have HV1 := Lib.hid (show V.all (·.oneCell') = true by rw [← HV.out]; exact cm_one c _ _ _)
 have HV2 := Lib.hid (show V.size = 22 by rw [← HV.out]; rfl)
 have HVI := Lib.hid (show (Try.prog.info? 53).map (·.size) = some V.size by rw [HV2.out, cm_info])
 go_upto_region 2 with (first
  | (with_reducible refine wpList_load_row rfl 53 (.tmp 1) rfl b1 rfl 53 V (0, 0) _ HXV.out Try.underlying53 rfl HVI.out ?_)
  | ((with_reducible show wpList _ _ _ (⟨none, .store _ _ _, _, _, _, _⟩ :: _) _ _); go_must (refine wpList_store_row rfl 53 (.tmp 3) (.tmp 4) rfl w2.heap.size V rfl rfl 53 _ (heap_alloc_new w2 _) HVI.out (by rw [HV2.out]; rfl) HV1.out ?_)))
 have hw4 := CBlk.row (heap_alloc_new w2 (.cells #[.int .i64 0, .string ⟨#[]⟩, .string ⟨#[]⟩, .int .i64 0, .int .i64 0, .int .i64 0, .int .i64 0, .int .i64 0, .int .i64 0, .int .i64 0, .int .i64 0, .int .i64 0, .int .i64 0, .string ⟨#[]⟩, .bool false, .bool false, .string ⟨#[]⟩, .int .i64 0, .string ⟨#[]⟩, .string ⟨#[]⟩, .string ⟨#[]⟩, .slice none 0 0] 53 (0, 0))) c (.slice A0 n0 m0)
 rw [HV.out] at hw4
 have hb3 := (Below.refl w2.heap.size w2).alloc (Nat.le_refl _) (.cells #[.int .i64 0, .string ⟨#[]⟩, .string ⟨#[]⟩, .int .i64 0, .int .i64 0, .int .i64 0, .int .i64 0, .int .i64 0, .int .i64 0, .int .i64 0, .int .i64 0, .int .i64 0, .int .i64 0, .string ⟨#[]⟩, .bool false, .bool false, .string ⟨#[]⟩, .int .i64 0, .string ⟨#[]⟩, .string ⟨#[]⟩, .string ⟨#[]⟩, .slice none 0 0] 53)
 have hb4 : Below w2.heap.size w2 ((w2.alloc (.cells #[.int .i64 0, .string ⟨#[]⟩, .string ⟨#[]⟩, .int .i64 0, .int .i64 0, .int .i64 0, .int .i64 0, .int .i64 0, .int .i64 0, .int .i64 0, .int .i64 0, .int .i64 0, .int .i64 0, .string ⟨#[]⟩, .bool false, .bool false, .string ⟨#[]⟩, .int .i64 0, .string ⟨#[]⟩, .string ⟨#[]⟩, .string ⟨#[]⟩, .slice none 0 0] 53)).setRow w2.heap.size V) := hb3.trans (hw4.2.toBelow hb3.size (fun b hb => Nat.ne_of_lt hb))
 have HO4 := Lib.hid hw4.1
 have HX4 := Lib.hid (HX2.out.below hb4)
 have HZ4 := Lib.hid (HZ2.out.below hb4)
 have HB4 := Lib.hid (HB2.out.trans (hb4.mono (Nat.le_trans (Nat.le_of_eq HBB.out.symm) HB2.out.size)))
 have HN1 := Lib.hid (show b1 ≠ w2.heap.size from Nat.ne_of_lt (lt_of_blk HX2.out))
 have HN2 := Lib.hid (show b1 + 1 ≠ w2.heap.size from Nat.ne_of_lt (lt_of_blk HZ2.out))
 have HN3 := Lib.hid (show b1 ≤ w2.heap.size from Nat.le_of_lt (lt_of_blk HX2.out))
 clear hw4 hb3 hb4 HX2 HZ2 HB2 HXV
 generalize World.setRow (World.alloc w2 _) w2.heap.size V = w4 at *
 generalize w2.heap.size = b3 at *
 obtain ⟨k0', _⟩ := HO4.out.free
 have y0 := HO4.out.box.c0
 obtain ⟨ho5, hk5⟩ := HO4.out.set 0 (.int .i64 0) (o' := { c with kind := 0 }) (lv' := .slice A0 n0 m0) rfl
 have HO5 := Lib.hid ho5
 have HX5 := Lib.hid (HX4.out.kept hk5 HN1.out)
 have HZ5 := Lib.hid (HZ4.out.kept hk5 HN2.out)
 have HB5 := Lib.hid (HB4.out.trans (hk5.toBelow (B := b1) (Nat.le_trans (Nat.le_of_eq HBB.out.symm) HB4.out.size) (fun b hb => by have := HN3.out; omega)))
 clear ho5 hk5 HO4 HX4 HZ4 HB4
 go_upto_region 3 with fail
 generalize World.setCell w4 _ _ = w5 at *
 clear k0' y0
 have c0 := HX5.out.box.c0
 obtain ⟨y0, y1, y2, y3, y4, y5, y6, y7, y8, y9, y10, y11, y12, y13, y14, y15, y16, y17, y18, y19, y20, y21⟩ := HO5.out.box
 obtain ⟨k0, k1, k2, k3, k4, k5, k6, k7, k8, k9, k10, k11, k12, k13, k14, k15, k16, k17, k18, k19, k20, k21⟩ := HO5.out.free
 simp only at y0 y1 y2 y3 y4 y5 y6 y7 y8 y9 y10 y11 y12 y13 y14 y15 y16 y17 y18 y19 y20 y21
 by_cases hk : c.kind = 1
 ·rw [hk] at c0
  have s0 := HO5.out
  have q0 := Kept.refl (fun x => x ≠ b3) w5
  obtain ⟨s1, r1⟩ := s0.set 9 (.int .i64 0) (o' := { c with kind := 0, ix := 0 }) (lv' := .slice A0 n0 m0) rfl
  have q1 := q0.trans r1 (fun _ _ h => h)
  obtain ⟨s2, r2⟩ := s1.set 1 (.string ⟨#[]⟩) (o' := { c with kind := 0, ix := 0, cty := eB }) (lv' := .slice A0 n0 m0) rfl
  have q2 := q1.trans r2 (fun _ _ h => h)
  obtain ⟨s3, r3⟩ := s2.set 5 (.int .i64 0) (o' := { c with kind := 0, ix := 0, cty := eB, day := 0 }) (lv' := .slice A0 n0 m0) rfl
  have q3 := q2.trans r3 (fun _ _ h => h)
  have hp : plainC c = { c with kind := 0, ix := 0, cty := eB, day := 0 } := by unfold plainC; simp only [hk]; rfl
  have HP := Lib.hid hp
  have HS := Lib.hid (show CBlk _ b3 (plainC c) (.slice A0 n0 m0) by rw [hp]; exact s3)
  have HQ := Lib.hid q3
  clear hp s0 s1 s2 s3 q0 q1 q2 q3 r1 r2 r3
  go_upto_region 26 with fail
  generalize hw6 : World.setCell _ _ _ = w6 at HS HQ ⊢
  have HZ6 := Lib.hid (HZ5.out.kept HQ.out HN2.out)
  have HB6 := Lib.hid (HB5.out.trans (HQ.out.toBelow (B := b1) (Nat.le_trans (Nat.le_of_eq HBB.out.symm) HB5.out.size) (fun b hb => by have := HN3.out; omega)))
  clear hw6
  generalize hV6 : (plainC c).vs (.slice A0 n0 m0) = V6
  have H1 := Lib.hid (show w6.heap[b3]? = some (.cells V6 53 (0, 0)) by rw [← hV6]; exact HS.out)
  have H2 := Lib.hid (show V6.all (·.oneCell') = true by rw [← hV6]; exact cm_one _ _ _ _)
  have H3 := Lib.hid (show V6.size = 22 by rw [← hV6]; rfl)
  have H4 := Lib.hid (show (Try.prog.info? 53).map (·.size) = some V6.size by rw [H3.out, cm_info])
  have HV6 := Lib.hid hV6
  clear hV6 c0 y0 y1 y2 y3 y4 y5 y6 y7 y8 y9 y10 y11 y12 y13 y14 y15 y16 y17 y18 y19 y20 y21 k0 k1 k2 k3 k4 k5 k6 k7 k8 k9 k10 k11 k12 k13 k14 k15 k16 k17 k18 k19 k20 k21
  go_wp2_with (first
   | (with_reducible refine wpList_load_row rfl 53 (.tmp 3) rfl b3 rfl 53 V6 (0, 0) _ H1.out Try.underlying53 rfl H4.out ?_)
   | ((with_reducible show wpList _ _ _ (⟨none, .store _ _ _, _, _, _, _⟩ :: _) _ _); go_must (refine wpList_store_row rfl 53 (.tmp 2) (.tmp 48) rfl (b1 + 1) V6 rfl rfl 53 _ HZ6.out H4.out (by rw [H3.out]; rfl) H2.out ?_)))
  exact bodyPost_ret (results_cell_row rfl _ _ (b1 + 1) 53 _ (0, 0) _ rfl (setRow_heap _ _ _ _ _ _ HZ6.out) Try.underlying53 rfl H4.out) rfl ⟨_, by rw [HV6.out], .inl ⟨rfl, by rw [HP.out]⟩, by have h := below_row HB6.out (Nat.le_succ b1) V6; rw [HBB.out]; exact h⟩
 have h1 := hk
 clear hk
 by_cases hk : c.kind = 2
 ·rw [hk] at c0
  have s0 := HO5.out
  have q0 := Kept.refl (fun x => x ≠ b3) w5
  obtain ⟨s1, r1⟩ := s0.set 3 (.int .i64 0) (o' := { c with kind := 0, cat := 0 }) (lv' := .slice A0 n0 m0) rfl
  have q1 := q0.trans r1 (fun _ _ h => h)
  obtain ⟨s2, r2⟩ := s1.set 4 (.int .i64 0) (o' := { c with kind := 0, cat := 0, bp := 0 }) (lv' := .slice A0 n0 m0) rfl
  have q2 := q1.trans r2 (fun _ _ h => h)
  obtain ⟨s3, r3⟩ := s2.set 6 (.int .i64 0) (o' := { c with kind := 0, cat := 0, bp := 0, til := 0 }) (lv' := .slice A0 n0 m0) rfl
  have q3 := q2.trans r3 (fun _ _ h => h)
  obtain ⟨s4, r4⟩ := s3.set 1 (.string ⟨#[]⟩) (o' := { c with kind := 0, cat := 0, bp := 0, til := 0, cty := eB }) (lv' := .slice A0 n0 m0) rfl
  have q4 := q3.trans r4 (fun _ _ h => h)
  obtain ⟨s5, r5⟩ := s4.set 5 (.int .i64 0) (o' := { c with kind := 0, cat := 0, bp := 0, til := 0, cty := eB, day := 0 }) (lv' := .slice A0 n0 m0) rfl
  have q5 := q4.trans r5 (fun _ _ h => h)
  have hp : plainC c = { c with kind := 0, cat := 0, bp := 0, til := 0, cty := eB, day := 0 } := by unfold plainC; simp only [hk]; rfl
  have HP := Lib.hid hp
  have HS := Lib.hid (show CBlk _ b3 (plainC c) (.slice A0 n0 m0) by rw [hp]; exact s5)
  have HQ := Lib.hid q5
  clear hp s0 s1 s2 s3 s4 s5 q0 q1 q2 q3 q4 q5 r1 r2 r3 r4 r5
  go_upto_region 26 with fail
  generalize hw6 : World.setCell _ _ _ = w6 at HS HQ ⊢
  have HZ6 := Lib.hid (HZ5.out.kept HQ.out HN2.out)
  have HB6 := Lib.hid (HB5.out.trans (HQ.out.toBelow (B := b1) (Nat.le_trans (Nat.le_of_eq HBB.out.symm) HB5.out.size) (fun b hb => by have := HN3.out; omega)))
  clear hw6
  generalize hV6 : (plainC c).vs (.slice A0 n0 m0) = V6
  have H1 := Lib.hid (show w6.heap[b3]? = some (.cells V6 53 (0, 0)) by rw [← hV6]; exact HS.out)
  have H2 := Lib.hid (show V6.all (·.oneCell') = true by rw [← hV6]; exact cm_one _ _ _ _)
  have H3 := Lib.hid (show V6.size = 22 by rw [← hV6]; rfl)
  have H4 := Lib.hid (show (Try.prog.info? 53).map (·.size) = some V6.size by rw [H3.out, cm_info])
  have HV6 := Lib.hid hV6
  clear hV6 c0 y0 y1 y2 y3 y4 y5 y6 y7 y8 y9 y10 y11 y12 y13 y14 y15 y16 y17 y18 y19 y20 y21 k0 k1 k2 k3 k4 k5 k6 k7 k8 k9 k10 k11 k12 k13 k14 k15 k16 k17 k18 k19 k20 k21
  go_wp2_with (first
   | (with_reducible refine wpList_load_row rfl 53 (.tmp 3) rfl b3 rfl 53 V6 (0, 0) _ H1.out Try.underlying53 rfl H4.out ?_)
   | ((with_reducible show wpList _ _ _ (⟨none, .store _ _ _, _, _, _, _⟩ :: _) _ _); go_must (refine wpList_store_row rfl 53 (.tmp 2) (.tmp 48) rfl (b1 + 1) V6 rfl rfl 53 _ HZ6.out H4.out (by rw [H3.out]; rfl) H2.out ?_)))
  exact bodyPost_ret (results_cell_row rfl _ _ (b1 + 1) 53 _ (0, 0) _ rfl (setRow_heap _ _ _ _ _ _ HZ6.out) Try.underlying53 rfl H4.out) rfl ⟨_, by rw [HV6.out], .inl ⟨rfl, by rw [HP.out]⟩, by have h := below_row HB6.out (Nat.le_succ b1) V6; rw [HBB.out]; exact h⟩
 have h2 := hk
 clear hk
 by_cases hk : c.kind = 3
 ·rw [hk] at c0
  have s0 := HO5.out
  have q0 := Kept.refl (fun x => x ≠ b3) w5
  obtain ⟨s1, r1⟩ := s0.set 5 (.int .i64 0) (o' := { c with kind := 0, day := 0 }) (lv' := .slice A0 n0 m0) rfl
  have q1 := q0.trans r1 (fun _ _ h => h)
  obtain ⟨s2, r2⟩ := s1.set 6 (.int .i64 0) (o' := { c with kind := 0, day := 0, til := 0 }) (lv' := .slice A0 n0 m0) rfl
  have q2 := q1.trans r2 (fun _ _ h => h)
  have hp : plainC c = { c with kind := 0, day := 0, til := 0 } := by unfold plainC; simp only [hk]; rfl
  have HP := Lib.hid hp
  have HS := Lib.hid (show CBlk _ b3 (plainC c) (.slice A0 n0 m0) by rw [hp]; exact s2)
  have HQ := Lib.hid q2
  clear hp s0 s1 s2 q0 q1 q2 r1 r2
  go_upto_region 26 with fail
  generalize hw6 : World.setCell _ _ _ = w6 at HS HQ ⊢
  have HZ6 := Lib.hid (HZ5.out.kept HQ.out HN2.out)
  have HB6 := Lib.hid (HB5.out.trans (HQ.out.toBelow (B := b1) (Nat.le_trans (Nat.le_of_eq HBB.out.symm) HB5.out.size) (fun b hb => by have := HN3.out; omega)))
  clear hw6
  generalize hV6 : (plainC c).vs (.slice A0 n0 m0) = V6
  have H1 := Lib.hid (show w6.heap[b3]? = some (.cells V6 53 (0, 0)) by rw [← hV6]; exact HS.out)
  have H2 := Lib.hid (show V6.all (·.oneCell') = true by rw [← hV6]; exact cm_one _ _ _ _)
  have H3 := Lib.hid (show V6.size = 22 by rw [← hV6]; rfl)
  have H4 := Lib.hid (show (Try.prog.info? 53).map (·.size) = some V6.size by rw [H3.out, cm_info])
  have HV6 := Lib.hid hV6
  clear hV6 c0 y0 y1 y2 y3 y4 y5 y6 y7 y8 y9 y10 y11 y12 y13 y14 y15 y16 y17 y18 y19 y20 y21 k0 k1 k2 k3 k4 k5 k6 k7 k8 k9 k10 k11 k12 k13 k14 k15 k16 k17 k18 k19 k20 k21
  go_wp2_with (first
   | (with_reducible refine wpList_load_row rfl 53 (.tmp 3) rfl b3 rfl 53 V6 (0, 0) _ H1.out Try.underlying53 rfl H4.out ?_)
   | ((with_reducible show wpList _ _ _ (⟨none, .store _ _ _, _, _, _, _⟩ :: _) _ _); go_must (refine wpList_store_row rfl 53 (.tmp 2) (.tmp 48) rfl (b1 + 1) V6 rfl rfl 53 _ HZ6.out H4.out (by rw [H3.out]; rfl) H2.out ?_)))
  exact bodyPost_ret (results_cell_row rfl _ _ (b1 + 1) 53 _ (0, 0) _ rfl (setRow_heap _ _ _ _ _ _ HZ6.out) Try.underlying53 rfl H4.out) rfl ⟨_, by rw [HV6.out], .inl ⟨rfl, by rw [HP.out]⟩, by have h := below_row HB6.out (Nat.le_succ b1) V6; rw [HBB.out]; exact h⟩
 have h3 := hk
 clear hk
 by_cases hk : c.kind = 4
 ·rw [hk] at c0
  have s0 := HO5.out
  have q0 := Kept.refl (fun x => x ≠ b3) w5
  obtain ⟨s1, r1⟩ := s0.set 1 (.string ⟨#[]⟩) (o' := { c with kind := 0, cty := eB }) (lv' := .slice A0 n0 m0) rfl
  have q1 := q0.trans r1 (fun _ _ h => h)
  obtain ⟨s2, r2⟩ := s1.set 2 (.string ⟨#[]⟩) (o' := { c with kind := 0, cty := eB, txt := eB }) (lv' := .slice A0 n0 m0) rfl
  have q2 := q1.trans r2 (fun _ _ h => h)
  obtain ⟨s3, r3⟩ := s2.set 5 (.int .i64 0) (o' := { c with kind := 0, cty := eB, txt := eB, day := 0 }) (lv' := .slice A0 n0 m0) rfl
  have q3 := q2.trans r3 (fun _ _ h => h)
  obtain ⟨s4, r4⟩ := s3.set 6 (.int .i64 0) (o' := { c with kind := 0, cty := eB, txt := eB, day := 0, til := 0 }) (lv' := .slice A0 n0 m0) rfl
  have q4 := q3.trans r4 (fun _ _ h => h)
  have hp : plainC c = { c with kind := 0, cty := eB, txt := eB, day := 0, til := 0 } := by unfold plainC; simp only [hk]; rfl
  have HP := Lib.hid hp
  have HS := Lib.hid (show CBlk _ b3 (plainC c) (.slice A0 n0 m0) by rw [hp]; exact s4)
  have HQ := Lib.hid q4
  clear hp s0 s1 s2 s3 s4 q0 q1 q2 q3 q4 r1 r2 r3 r4
  go_upto_region 26 with fail
  generalize hw6 : World.setCell _ _ _ = w6 at HS HQ ⊢
  have HZ6 := Lib.hid (HZ5.out.kept HQ.out HN2.out)
  have HB6 := Lib.hid (HB5.out.trans (HQ.out.toBelow (B := b1) (Nat.le_trans (Nat.le_of_eq HBB.out.symm) HB5.out.size) (fun b hb => by have := HN3.out; omega)))
  clear hw6
  generalize hV6 : (plainC c).vs (.slice A0 n0 m0) = V6
  have H1 := Lib.hid (show w6.heap[b3]? = some (.cells V6 53 (0, 0)) by rw [← hV6]; exact HS.out)
  have H2 := Lib.hid (show V6.all (·.oneCell') = true by rw [← hV6]; exact cm_one _ _ _ _)
  have H3 := Lib.hid (show V6.size = 22 by rw [← hV6]; rfl)
  have H4 := Lib.hid (show (Try.prog.info? 53).map (·.size) = some V6.size by rw [H3.out, cm_info])
  have HV6 := Lib.hid hV6
  clear hV6 c0 y0 y1 y2 y3 y4 y5 y6 y7 y8 y9 y10 y11 y12 y13 y14 y15 y16 y17 y18 y19 y20 y21 k0 k1 k2 k3 k4 k5 k6 k7 k8 k9 k10 k11 k12 k13 k14 k15 k16 k17 k18 k19 k20 k21
  go_wp2_with (first
   | (with_reducible refine wpList_load_row rfl 53 (.tmp 3) rfl b3 rfl 53 V6 (0, 0) _ H1.out Try.underlying53 rfl H4.out ?_)
   | ((with_reducible show wpList _ _ _ (⟨none, .store _ _ _, _, _, _, _⟩ :: _) _ _); go_must (refine wpList_store_row rfl 53 (.tmp 2) (.tmp 48) rfl (b1 + 1) V6 rfl rfl 53 _ HZ6.out H4.out (by rw [H3.out]; rfl) H2.out ?_)))
  exact bodyPost_ret (results_cell_row rfl _ _ (b1 + 1) 53 _ (0, 0) _ rfl (setRow_heap _ _ _ _ _ _ HZ6.out) Try.underlying53 rfl H4.out) rfl ⟨_, by rw [HV6.out], .inl ⟨rfl, by rw [HP.out]⟩, by have h := below_row HB6.out (Nat.le_succ b1) V6; rw [HBB.out]; exact h⟩
 have h4 := hk
 clear hk
 by_cases hk : c.kind = 5
 ·rw [hk] at c0
  have s0 := HO5.out
  have q0 := Kept.refl (fun x => x ≠ b3) w5
  obtain ⟨s1, r1⟩ := s0.set 8 (.int .i64 0) (o' := { c with kind := 0, dn := 0 }) (lv' := .slice A0 n0 m0) rfl
  have q1 := q0.trans r1 (fun _ _ h => h)
  obtain ⟨s2, r2⟩ := s1.set 2 (.string ⟨#[]⟩) (o' := { c with kind := 0, dn := 0, txt := eB }) (lv' := .slice A0 n0 m0) rfl
  have q2 := q1.trans r2 (fun _ _ h => h)
  obtain ⟨s3, r3⟩ := s2.set 7 (.int .i64 0) (o' := { c with kind := 0, dn := 0, txt := eB, nm := 0 }) (lv' := .slice A0 n0 m0) rfl
  have q3 := q2.trans r3 (fun _ _ h => h)
  obtain ⟨s4, r4⟩ := s3.set 10 (.int .i64 0) (o' := { c with kind := 0, dn := 0, txt := eB, nm := 0, pk := 0 }) (lv' := .slice A0 n0 m0) rfl
  have q4 := q3.trans r4 (fun _ _ h => h)
  obtain ⟨s5, r5⟩ := s4.set 11 (.int .i64 0) (o' := { c with kind := 0, dn := 0, txt := eB, nm := 0, pk := 0, py := 0 }) (lv' := .slice A0 n0 m0) rfl
  have q5 := q4.trans r5 (fun _ _ h => h)
  obtain ⟨s6, r6⟩ := s5.set 12 (.int .i64 0) (o' := { c with kind := 0, dn := 0, txt := eB, nm := 0, pk := 0, py := 0, px := 0 }) (lv' := .slice A0 n0 m0) rfl
  have q6 := q5.trans r6 (fun _ _ h => h)
  have hp : plainC c = { c with kind := 0, dn := 0, txt := eB, nm := 0, pk := 0, py := 0, px := 0 } := by unfold plainC; simp only [hk]; rfl
  have HP := Lib.hid hp
  have HS := Lib.hid (show CBlk _ b3 (plainC c) (.slice A0 n0 m0) by rw [hp]; exact s6)
  have HQ := Lib.hid q6
  clear hp s0 s1 s2 s3 s4 s5 s6 q0 q1 q2 q3 q4 q5 q6 r1 r2 r3 r4 r5 r6
  go_upto_region 26 with fail
  generalize hw6 : World.setCell _ _ _ = w6 at HS HQ ⊢
  have HZ6 := Lib.hid (HZ5.out.kept HQ.out HN2.out)
  have HB6 := Lib.hid (HB5.out.trans (HQ.out.toBelow (B := b1) (Nat.le_trans (Nat.le_of_eq HBB.out.symm) HB5.out.size) (fun b hb => by have := HN3.out; omega)))
  clear hw6
  generalize hV6 : (plainC c).vs (.slice A0 n0 m0) = V6
  have H1 := Lib.hid (show w6.heap[b3]? = some (.cells V6 53 (0, 0)) by rw [← hV6]; exact HS.out)
  have H2 := Lib.hid (show V6.all (·.oneCell') = true by rw [← hV6]; exact cm_one _ _ _ _)
  have H3 := Lib.hid (show V6.size = 22 by rw [← hV6]; rfl)
  have H4 := Lib.hid (show (Try.prog.info? 53).map (·.size) = some V6.size by rw [H3.out, cm_info])
  have HV6 := Lib.hid hV6
  clear hV6 c0 y0 y1 y2 y3 y4 y5 y6 y7 y8 y9 y10 y11 y12 y13 y14 y15 y16 y17 y18 y19 y20 y21 k0 k1 k2 k3 k4 k5 k6 k7 k8 k9 k10 k11 k12 k13 k14 k15 k16 k17 k18 k19 k20 k21
  go_wp2_with (first
   | (with_reducible refine wpList_load_row rfl 53 (.tmp 3) rfl b3 rfl 53 V6 (0, 0) _ H1.out Try.underlying53 rfl H4.out ?_)
   | ((with_reducible show wpList _ _ _ (⟨none, .store _ _ _, _, _, _, _⟩ :: _) _ _); go_must (refine wpList_store_row rfl 53 (.tmp 2) (.tmp 48) rfl (b1 + 1) V6 rfl rfl 53 _ HZ6.out H4.out (by rw [H3.out]; rfl) H2.out ?_)))
  exact bodyPost_ret (results_cell_row rfl _ _ (b1 + 1) 53 _ (0, 0) _ rfl (setRow_heap _ _ _ _ _ _ HZ6.out) Try.underlying53 rfl H4.out) rfl ⟨_, by rw [HV6.out], .inl ⟨rfl, by rw [HP.out]⟩, by have h := below_row HB6.out (Nat.le_succ b1) V6; rw [HBB.out]; exact h⟩
 have h5 := hk
 clear hk
 by_cases hk : c.kind = 6
 ·rw [hk] at c0
  have s0 := HO5.out
  have q0 := Kept.refl (fun x => x ≠ b3) w5
  obtain ⟨s1, r1⟩ := s0.set 2 (.string ⟨#[]⟩) (o' := { c with kind := 0, txt := eB }) (lv' := .slice A0 n0 m0) rfl
  have q1 := q0.trans r1 (fun _ _ h => h)
  have hp : plainC c = { c with kind := 0, txt := eB } := by unfold plainC; simp only [hk]; rfl
  have HP := Lib.hid hp
  have HS := Lib.hid (show CBlk _ b3 (plainC c) (.slice A0 n0 m0) by rw [hp]; exact s1)
  have HQ := Lib.hid q1
  clear hp s0 s1 q0 q1 r1
  go_upto_region 26 with fail
  generalize hw6 : World.setCell _ _ _ = w6 at HS HQ ⊢
  have HZ6 := Lib.hid (HZ5.out.kept HQ.out HN2.out)
  have HB6 := Lib.hid (HB5.out.trans (HQ.out.toBelow (B := b1) (Nat.le_trans (Nat.le_of_eq HBB.out.symm) HB5.out.size) (fun b hb => by have := HN3.out; omega)))
  clear hw6
  generalize hV6 : (plainC c).vs (.slice A0 n0 m0) = V6
  have H1 := Lib.hid (show w6.heap[b3]? = some (.cells V6 53 (0, 0)) by rw [← hV6]; exact HS.out)
  have H2 := Lib.hid (show V6.all (·.oneCell') = true by rw [← hV6]; exact cm_one _ _ _ _)
  have H3 := Lib.hid (show V6.size = 22 by rw [← hV6]; rfl)
  have H4 := Lib.hid (show (Try.prog.info? 53).map (·.size) = some V6.size by rw [H3.out, cm_info])
  have HV6 := Lib.hid hV6
  clear hV6 c0 y0 y1 y2 y3 y4 y5 y6 y7 y8 y9 y10 y11 y12 y13 y14 y15 y16 y17 y18 y19 y20 y21 k0 k1 k2 k3 k4 k5 k6 k7 k8 k9 k10 k11 k12 k13 k14 k15 k16 k17 k18 k19 k20 k21
  go_wp2_with (first
   | (with_reducible refine wpList_load_row rfl 53 (.tmp 3) rfl b3 rfl 53 V6 (0, 0) _ H1.out Try.underlying53 rfl H4.out ?_)
   | ((with_reducible show wpList _ _ _ (⟨none, .store _ _ _, _, _, _, _⟩ :: _) _ _); go_must (refine wpList_store_row rfl 53 (.tmp 2) (.tmp 48) rfl (b1 + 1) V6 rfl rfl 53 _ HZ6.out H4.out (by rw [H3.out]; rfl) H2.out ?_)))
  exact bodyPost_ret (results_cell_row rfl _ _ (b1 + 1) 53 _ (0, 0) _ rfl (setRow_heap _ _ _ _ _ _ HZ6.out) Try.underlying53 rfl H4.out) rfl ⟨_, by rw [HV6.out], .inl ⟨rfl, by rw [HP.out]⟩, by have h := below_row HB6.out (Nat.le_succ b1) V6; rw [HBB.out]; exact h⟩
 have h6 := hk
 clear hk
 by_cases hk : c.kind = 7
 ·rw [hk] at c0
  have s0 := HO5.out
  have q0 := Kept.refl (fun x => x ≠ b3) w5
  obtain ⟨s1, r1⟩ := s0.set 7 (.int .i64 0) (o' := { c with kind := 0, nm := 0 }) (lv' := .slice A0 n0 m0) rfl
  have q1 := q0.trans r1 (fun _ _ h => h)
  obtain ⟨s2, r2⟩ := s1.set 10 (.int .i64 0) (o' := { c with kind := 0, nm := 0, pk := 0 }) (lv' := .slice A0 n0 m0) rfl
  have q2 := q1.trans r2 (fun _ _ h => h)
  obtain ⟨s3, r3⟩ := s2.set 11 (.int .i64 0) (o' := { c with kind := 0, nm := 0, pk := 0, py := 0 }) (lv' := .slice A0 n0 m0) rfl
  have q3 := q2.trans r3 (fun _ _ h => h)
  obtain ⟨s4, r4⟩ := s3.set 12 (.int .i64 0) (o' := { c with kind := 0, nm := 0, pk := 0, py := 0, px := 0 }) (lv' := .slice A0 n0 m0) rfl
  have q4 := q3.trans r4 (fun _ _ h => h)
  have hp : plainC c = { c with kind := 0, nm := 0, pk := 0, py := 0, px := 0 } := by unfold plainC; simp only [hk]; rfl
  have HP := Lib.hid hp
  have HS := Lib.hid (show CBlk _ b3 (plainC c) (.slice A0 n0 m0) by rw [hp]; exact s4)
  have HQ := Lib.hid q4
  clear hp s0 s1 s2 s3 s4 q0 q1 q2 q3 q4 r1 r2 r3 r4
  go_upto_region 26 with fail
  generalize hw6 : World.setCell _ _ _ = w6 at HS HQ ⊢
  have HZ6 := Lib.hid (HZ5.out.kept HQ.out HN2.out)
  have HB6 := Lib.hid (HB5.out.trans (HQ.out.toBelow (B := b1) (Nat.le_trans (Nat.le_of_eq HBB.out.symm) HB5.out.size) (fun b hb => by have := HN3.out; omega)))
  clear hw6
  generalize hV6 : (plainC c).vs (.slice A0 n0 m0) = V6
  have H1 := Lib.hid (show w6.heap[b3]? = some (.cells V6 53 (0, 0)) by rw [← hV6]; exact HS.out)
  have H2 := Lib.hid (show V6.all (·.oneCell') = true by rw [← hV6]; exact cm_one _ _ _ _)
  have H3 := Lib.hid (show V6.size = 22 by rw [← hV6]; rfl)
  have H4 := Lib.hid (show (Try.prog.info? 53).map (·.size) = some V6.size by rw [H3.out, cm_info])
  have HV6 := Lib.hid hV6
  clear hV6 c0 y0 y1 y2 y3 y4 y5 y6 y7 y8 y9 y10 y11 y12 y13 y14 y15 y16 y17 y18 y19 y20 y21 k0 k1 k2 k3 k4 k5 k6 k7 k8 k9 k10 k11 k12 k13 k14 k15 k16 k17 k18 k19 k20 k21
  go_wp2_with (first
   | (with_reducible refine wpList_load_row rfl 53 (.tmp 3) rfl b3 rfl 53 V6 (0, 0) _ H1.out Try.underlying53 rfl H4.out ?_)
   | ((with_reducible show wpList _ _ _ (⟨none, .store _ _ _, _, _, _, _⟩ :: _) _ _); go_must (refine wpList_store_row rfl 53 (.tmp 2) (.tmp 48) rfl (b1 + 1) V6 rfl rfl 53 _ HZ6.out H4.out (by rw [H3.out]; rfl) H2.out ?_)))
  exact bodyPost_ret (results_cell_row rfl _ _ (b1 + 1) 53 _ (0, 0) _ rfl (setRow_heap _ _ _ _ _ _ HZ6.out) Try.underlying53 rfl H4.out) rfl ⟨_, by rw [HV6.out], .inl ⟨rfl, by rw [HP.out]⟩, by have h := below_row HB6.out (Nat.le_succ b1) V6; rw [HBB.out]; exact h⟩
 have h7 := hk
 clear hk
 by_cases hk : c.kind = 8
 ·rw [hk] at c0
  have s0 := HO5.out
  have q0 := Kept.refl (fun x => x ≠ b3) w5
  obtain ⟨s1, r1⟩ := s0.set 13 (.string ⟨#[]⟩) (o' := { c with kind := 0, doc := { c.doc with id := eB } }) (lv' := .slice A0 n0 m0) rfl
  have q1 := q0.trans r1 (fun _ _ h => h)
  obtain ⟨s2, r2⟩ := s1.set 14 (.bool false) (o' := { c with kind := 0, doc := { c.doc with id := eB, sale := false } }) (lv' := .slice A0 n0 m0) rfl
  have q2 := q1.trans r2 (fun _ _ h => h)
  obtain ⟨s3, r3⟩ := s2.set 15 (.bool false) (o' := { c with kind := 0, doc := { c.doc with id := eB, sale := false, cred := false } }) (lv' := .slice A0 n0 m0) rfl
  have q3 := q2.trans r3 (fun _ _ h => h)
  obtain ⟨s4, r4⟩ := s3.set 16 (.string ⟨#[]⟩) (o' := { c with kind := 0, doc := { c.doc with id := eB, sale := false, cred := false, ref := eB } }) (lv' := .slice A0 n0 m0) rfl
  have q4 := q3.trans r4 (fun _ _ h => h)
  obtain ⟨s5, r5⟩ := s4.set 17 (.int .i64 0) (o' := { c with kind := 0, doc := { c.doc with id := eB, sale := false, cred := false, ref := eB, day := 0 } }) (lv' := .slice A0 n0 m0) rfl
  have q5 := q4.trans r5 (fun _ _ h => h)
  obtain ⟨s6, r6⟩ := s5.set 18 (.string ⟨#[]⟩) (o' := { c with kind := 0, doc := { c.doc with id := eB, sale := false, cred := false, ref := eB, day := 0, cty := eB } }) (lv' := .slice A0 n0 m0) rfl
  have q6 := q5.trans r6 (fun _ _ h => h)
  obtain ⟨s7, r7⟩ := s6.set 19 (.string ⟨#[]⟩) (o' := { c with kind := 0, doc := { c.doc with id := eB, sale := false, cred := false, ref := eB, day := 0, cty := eB, num := eB } }) (lv' := .slice A0 n0 m0) rfl
  have q7 := q6.trans r7 (fun _ _ h => h)
  obtain ⟨s8, r8⟩ := s7.set 20 (.string ⟨#[]⟩) (o' := { c with kind := 0, doc := { c.doc with id := eB, sale := false, cred := false, ref := eB, day := 0, cty := eB, num := eB, cur := eB } }) (lv' := .slice A0 n0 m0) rfl
  have q8 := q7.trans r8 (fun _ _ h => h)
  obtain ⟨s9, r9⟩ := s8.set 21 (.slice none 0 0) (o' := { c with kind := 0, doc := { c.doc with id := eB, sale := false, cred := false, ref := eB, day := 0, cty := eB, num := eB, cur := eB, ls := [] } }) (lv' := .slice none 0 0) rfl
  have q9 := q8.trans r9 (fun _ _ h => h)
  have hp : plainC c = { c with kind := 0, doc := Dm.zero } := by unfold plainC; simp only [hk]; rfl
  have HP := Lib.hid hp
  have HS := Lib.hid (show CBlk _ b3 (plainC c) (.slice none 0 0) by rw [hp]; exact s9)
  have HQ := Lib.hid q9
  clear hp s0 s1 s2 s3 s4 s5 s6 s7 s8 s9 q0 q1 q2 q3 q4 q5 q6 q7 q8 q9 r1 r2 r3 r4 r5 r6 r7 r8 r9
  go_upto_region 26 with fail
  generalize hw6 : World.setCell _ _ _ = w6 at HS HQ ⊢
  have HZ6 := Lib.hid (HZ5.out.kept HQ.out HN2.out)
  have HB6 := Lib.hid (HB5.out.trans (HQ.out.toBelow (B := b1) (Nat.le_trans (Nat.le_of_eq HBB.out.symm) HB5.out.size) (fun b hb => by have := HN3.out; omega)))
  clear hw6
  generalize hV6 : (plainC c).vs (.slice none 0 0) = V6
  have H1 := Lib.hid (show w6.heap[b3]? = some (.cells V6 53 (0, 0)) by rw [← hV6]; exact HS.out)
  have H2 := Lib.hid (show V6.all (·.oneCell') = true by rw [← hV6]; exact cm_one _ _ _ _)
  have H3 := Lib.hid (show V6.size = 22 by rw [← hV6]; rfl)
  have H4 := Lib.hid (show (Try.prog.info? 53).map (·.size) = some V6.size by rw [H3.out, cm_info])
  have HV6 := Lib.hid hV6
  clear hV6 c0 y0 y1 y2 y3 y4 y5 y6 y7 y8 y9 y10 y11 y12 y13 y14 y15 y16 y17 y18 y19 y20 y21 k0 k1 k2 k3 k4 k5 k6 k7 k8 k9 k10 k11 k12 k13 k14 k15 k16 k17 k18 k19 k20 k21
  go_wp2_with (first
   | (with_reducible refine wpList_load_row rfl 53 (.tmp 3) rfl b3 rfl 53 V6 (0, 0) _ H1.out Try.underlying53 rfl H4.out ?_)
   | ((with_reducible show wpList _ _ _ (⟨none, .store _ _ _, _, _, _, _⟩ :: _) _ _); go_must (refine wpList_store_row rfl 53 (.tmp 2) (.tmp 48) rfl (b1 + 1) V6 rfl rfl 53 _ HZ6.out H4.out (by rw [H3.out]; rfl) H2.out ?_)))
  exact bodyPost_ret (results_cell_row rfl _ _ (b1 + 1) 53 _ (0, 0) _ rfl (setRow_heap _ _ _ _ _ _ HZ6.out) Try.underlying53 rfl H4.out) rfl ⟨_, by rw [HV6.out], .inr ⟨rfl, by rw [HP.out]⟩, by have h := below_row HB6.out (Nat.le_succ b1) V6; rw [HBB.out]; exact h⟩
 have h8 := hk
 clear hk
 by_cases hk : c.kind = 9
 ·rw [hk] at c0
  have s0 := HO5.out
  have q0 := Kept.refl (fun x => x ≠ b3) w5
  obtain ⟨s1, r1⟩ := s0.set 10 (.int .i64 0) (o' := { c with kind := 0, pk := 0 }) (lv' := .slice A0 n0 m0) rfl
  have q1 := q0.trans r1 (fun _ _ h => h)
  obtain ⟨s2, r2⟩ := s1.set 11 (.int .i64 0) (o' := { c with kind := 0, pk := 0, py := 0 }) (lv' := .slice A0 n0 m0) rfl
  have q2 := q1.trans r2 (fun _ _ h => h)
  obtain ⟨s3, r3⟩ := s2.set 12 (.int .i64 0) (o' := { c with kind := 0, pk := 0, py := 0, px := 0 }) (lv' := .slice A0 n0 m0) rfl
  have q3 := q2.trans r3 (fun _ _ h => h)
  have hp : plainC c = { c with kind := 0, pk := 0, py := 0, px := 0 } := by unfold plainC; simp only [hk]; rfl
  have HP := Lib.hid hp
  have HS := Lib.hid (show CBlk _ b3 (plainC c) (.slice A0 n0 m0) by rw [hp]; exact s3)
  have HQ := Lib.hid q3
  clear hp s0 s1 s2 s3 q0 q1 q2 q3 r1 r2 r3
  go_upto_region 26 with fail
  generalize hw6 : World.setCell _ _ _ = w6 at HS HQ ⊢
  have HZ6 := Lib.hid (HZ5.out.kept HQ.out HN2.out)
  have HB6 := Lib.hid (HB5.out.trans (HQ.out.toBelow (B := b1) (Nat.le_trans (Nat.le_of_eq HBB.out.symm) HB5.out.size) (fun b hb => by have := HN3.out; omega)))
  clear hw6
  generalize hV6 : (plainC c).vs (.slice A0 n0 m0) = V6
  have H1 := Lib.hid (show w6.heap[b3]? = some (.cells V6 53 (0, 0)) by rw [← hV6]; exact HS.out)
  have H2 := Lib.hid (show V6.all (·.oneCell') = true by rw [← hV6]; exact cm_one _ _ _ _)
  have H3 := Lib.hid (show V6.size = 22 by rw [← hV6]; rfl)
  have H4 := Lib.hid (show (Try.prog.info? 53).map (·.size) = some V6.size by rw [H3.out, cm_info])
  have HV6 := Lib.hid hV6
  clear hV6 c0 y0 y1 y2 y3 y4 y5 y6 y7 y8 y9 y10 y11 y12 y13 y14 y15 y16 y17 y18 y19 y20 y21 k0 k1 k2 k3 k4 k5 k6 k7 k8 k9 k10 k11 k12 k13 k14 k15 k16 k17 k18 k19 k20 k21
  go_wp2_with (first
   | (with_reducible refine wpList_load_row rfl 53 (.tmp 3) rfl b3 rfl 53 V6 (0, 0) _ H1.out Try.underlying53 rfl H4.out ?_)
   | ((with_reducible show wpList _ _ _ (⟨none, .store _ _ _, _, _, _, _⟩ :: _) _ _); go_must (refine wpList_store_row rfl 53 (.tmp 2) (.tmp 48) rfl (b1 + 1) V6 rfl rfl 53 _ HZ6.out H4.out (by rw [H3.out]; rfl) H2.out ?_)))
  exact bodyPost_ret (results_cell_row rfl _ _ (b1 + 1) 53 _ (0, 0) _ rfl (setRow_heap _ _ _ _ _ _ HZ6.out) Try.underlying53 rfl H4.out) rfl ⟨_, by rw [HV6.out], .inl ⟨rfl, by rw [HP.out]⟩, by have h := below_row HB6.out (Nat.le_succ b1) V6; rw [HBB.out]; exact h⟩
 have h9 := hk
 clear hk
 by_cases hk : c.kind = 10
 ·rw [hk] at c0
  have s0 := HO5.out
  have q0 := Kept.refl (fun x => x ≠ b3) w5
  obtain ⟨s1, r1⟩ := s0.set 10 (.int .i64 0) (o' := { c with kind := 0, pk := 0 }) (lv' := .slice A0 n0 m0) rfl
  have q1 := q0.trans r1 (fun _ _ h => h)
  obtain ⟨s2, r2⟩ := s1.set 11 (.int .i64 0) (o' := { c with kind := 0, pk := 0, py := 0 }) (lv' := .slice A0 n0 m0) rfl
  have q2 := q1.trans r2 (fun _ _ h => h)
  obtain ⟨s3, r3⟩ := s2.set 12 (.int .i64 0) (o' := { c with kind := 0, pk := 0, py := 0, px := 0 }) (lv' := .slice A0 n0 m0) rfl
  have q3 := q2.trans r3 (fun _ _ h => h)
  have hp : plainC c = { c with kind := 0, pk := 0, py := 0, px := 0 } := by unfold plainC; simp only [hk]; rfl
  have HP := Lib.hid hp
  have HS := Lib.hid (show CBlk _ b3 (plainC c) (.slice A0 n0 m0) by rw [hp]; exact s3)
  have HQ := Lib.hid q3
  clear hp s0 s1 s2 s3 q0 q1 q2 q3 r1 r2 r3
  go_upto_region 26 with fail
  generalize hw6 : World.setCell _ _ _ = w6 at HS HQ ⊢
  have HZ6 := Lib.hid (HZ5.out.kept HQ.out HN2.out)
  have HB6 := Lib.hid (HB5.out.trans (HQ.out.toBelow (B := b1) (Nat.le_trans (Nat.le_of_eq HBB.out.symm) HB5.out.size) (fun b hb => by have := HN3.out; omega)))
  clear hw6
  generalize hV6 : (plainC c).vs (.slice A0 n0 m0) = V6
  have H1 := Lib.hid (show w6.heap[b3]? = some (.cells V6 53 (0, 0)) by rw [← hV6]; exact HS.out)
  have H2 := Lib.hid (show V6.all (·.oneCell') = true by rw [← hV6]; exact cm_one _ _ _ _)
  have H3 := Lib.hid (show V6.size = 22 by rw [← hV6]; rfl)
  have H4 := Lib.hid (show (Try.prog.info? 53).map (·.size) = some V6.size by rw [H3.out, cm_info])
  have HV6 := Lib.hid hV6
  clear hV6 c0 y0 y1 y2 y3 y4 y5 y6 y7 y8 y9 y10 y11 y12 y13 y14 y15 y16 y17 y18 y19 y20 y21 k0 k1 k2 k3 k4 k5 k6 k7 k8 k9 k10 k11 k12 k13 k14 k15 k16 k17 k18 k19 k20 k21
  go_wp2_with (first
   | (with_reducible refine wpList_load_row rfl 53 (.tmp 3) rfl b3 rfl 53 V6 (0, 0) _ H1.out Try.underlying53 rfl H4.out ?_)
   | ((with_reducible show wpList _ _ _ (⟨none, .store _ _ _, _, _, _, _⟩ :: _) _ _); go_must (refine wpList_store_row rfl 53 (.tmp 2) (.tmp 48) rfl (b1 + 1) V6 rfl rfl 53 _ HZ6.out H4.out (by rw [H3.out]; rfl) H2.out ?_)))
  exact bodyPost_ret (results_cell_row rfl _ _ (b1 + 1) 53 _ (0, 0) _ rfl (setRow_heap _ _ _ _ _ _ HZ6.out) Try.underlying53 rfl H4.out) rfl ⟨_, by rw [HV6.out], .inl ⟨rfl, by rw [HP.out]⟩, by have h := below_row HB6.out (Nat.le_succ b1) V6; rw [HBB.out]; exact h⟩
 have h10 := hk
 clear hk
 by_cases hk : c.kind = 11
 ·rw [hk] at c0
  have s0 := HO5.out
  have q0 := Kept.refl (fun x => x ≠ b3) w5
  obtain ⟨s1, r1⟩ := s0.set 10 (.int .i64 0) (o' := { c with kind := 0, pk := 0 }) (lv' := .slice A0 n0 m0) rfl
  have q1 := q0.trans r1 (fun _ _ h => h)
  obtain ⟨s2, r2⟩ := s1.set 11 (.int .i64 0) (o' := { c with kind := 0, pk := 0, py := 0 }) (lv' := .slice A0 n0 m0) rfl
  have q2 := q1.trans r2 (fun _ _ h => h)
  obtain ⟨s3, r3⟩ := s2.set 12 (.int .i64 0) (o' := { c with kind := 0, pk := 0, py := 0, px := 0 }) (lv' := .slice A0 n0 m0) rfl
  have q3 := q2.trans r3 (fun _ _ h => h)
  have hp : plainC c = { c with kind := 0, pk := 0, py := 0, px := 0 } := by unfold plainC; simp only [hk]; rfl
  have HP := Lib.hid hp
  have HS := Lib.hid (show CBlk _ b3 (plainC c) (.slice A0 n0 m0) by rw [hp]; exact s3)
  have HQ := Lib.hid q3
  clear hp s0 s1 s2 s3 q0 q1 q2 q3 r1 r2 r3
  go_upto_region 26 with fail
  generalize hw6 : World.setCell _ _ _ = w6 at HS HQ ⊢
  have HZ6 := Lib.hid (HZ5.out.kept HQ.out HN2.out)
  have HB6 := Lib.hid (HB5.out.trans (HQ.out.toBelow (B := b1) (Nat.le_trans (Nat.le_of_eq HBB.out.symm) HB5.out.size) (fun b hb => by have := HN3.out; omega)))
  clear hw6
  generalize hV6 : (plainC c).vs (.slice A0 n0 m0) = V6
  have H1 := Lib.hid (show w6.heap[b3]? = some (.cells V6 53 (0, 0)) by rw [← hV6]; exact HS.out)
  have H2 := Lib.hid (show V6.all (·.oneCell') = true by rw [← hV6]; exact cm_one _ _ _ _)
  have H3 := Lib.hid (show V6.size = 22 by rw [← hV6]; rfl)
  have H4 := Lib.hid (show (Try.prog.info? 53).map (·.size) = some V6.size by rw [H3.out, cm_info])
  have HV6 := Lib.hid hV6
  clear hV6 c0 y0 y1 y2 y3 y4 y5 y6 y7 y8 y9 y10 y11 y12 y13 y14 y15 y16 y17 y18 y19 y20 y21 k0 k1 k2 k3 k4 k5 k6 k7 k8 k9 k10 k11 k12 k13 k14 k15 k16 k17 k18 k19 k20 k21
  go_wp2_with (first
   | (with_reducible refine wpList_load_row rfl 53 (.tmp 3) rfl b3 rfl 53 V6 (0, 0) _ H1.out Try.underlying53 rfl H4.out ?_)
   | ((with_reducible show wpList _ _ _ (⟨none, .store _ _ _, _, _, _, _⟩ :: _) _ _); go_must (refine wpList_store_row rfl 53 (.tmp 2) (.tmp 48) rfl (b1 + 1) V6 rfl rfl 53 _ HZ6.out H4.out (by rw [H3.out]; rfl) H2.out ?_)))
  exact bodyPost_ret (results_cell_row rfl _ _ (b1 + 1) 53 _ (0, 0) _ rfl (setRow_heap _ _ _ _ _ _ HZ6.out) Try.underlying53 rfl H4.out) rfl ⟨_, by rw [HV6.out], .inl ⟨rfl, by rw [HP.out]⟩, by have h := below_row HB6.out (Nat.le_succ b1) V6; rw [HBB.out]; exact h⟩
 have h11 := hk
 clear hk
 have e1 : (c.kind == 1) = false := by rw [beq_eq_false_iff_ne]; exact h1
 have e2 : (c.kind == 2) = false := by rw [beq_eq_false_iff_ne]; exact h2
 have e3 : (c.kind == 3) = false := by rw [beq_eq_false_iff_ne]; exact h3
 have e4 : (c.kind == 4) = false := by rw [beq_eq_false_iff_ne]; exact h4
 have e5 : (c.kind == 5) = false := by rw [beq_eq_false_iff_ne]; exact h5
 have e6 : (c.kind == 6) = false := by rw [beq_eq_false_iff_ne]; exact h6
 have e7 : (c.kind == 7) = false := by rw [beq_eq_false_iff_ne]; exact h7
 have e8 : (c.kind == 8) = false := by rw [beq_eq_false_iff_ne]; exact h8
 have e9 : (c.kind == 9) = false := by rw [beq_eq_false_iff_ne]; exact h9
 have e10 : (c.kind == 10) = false := by rw [beq_eq_false_iff_ne]; exact h10
 have e11 : (c.kind == 11) = false := by rw [beq_eq_false_iff_ne]; exact h11
 have s0 := HO5.out
 have q0 := Kept.refl (fun x => x ≠ b3) w5
 have hp : plainC c = { c with kind := 0 } := by simp only [plainC, h1, h2, h3, h4, h5, h6, h7, h8, h9, h10, h11, if_false, or_self]
 have HP := Lib.hid hp
 have HS := Lib.hid (show CBlk _ b3 (plainC c) (.slice A0 n0 m0) by rw [hp]; exact s0)
 have HQ := Lib.hid q0
 clear hp s0 q0
 go_upto_region 26 with fail
 have HZ6 := Lib.hid (HZ5.out.kept HQ.out HN2.out)
 have HB6 := Lib.hid (HB5.out.trans (HQ.out.toBelow (B := b1) (Nat.le_trans (Nat.le_of_eq HBB.out.symm) HB5.out.size) (fun b hb => by have := HN3.out; omega)))
 generalize hV6 : (plainC c).vs (.slice A0 n0 m0) = V6
 have H1 := Lib.hid (show w5.heap[b3]? = some (.cells V6 53 (0, 0)) by rw [← hV6]; exact HS.out)
 have H2 := Lib.hid (show V6.all (·.oneCell') = true by rw [← hV6]; exact cm_one _ _ _ _)
 have H3 := Lib.hid (show V6.size = 22 by rw [← hV6]; rfl)
 have H4 := Lib.hid (show (Try.prog.info? 53).map (·.size) = some V6.size by rw [H3.out, cm_info])
 have HV6 := Lib.hid hV6
 clear hV6 c0 y0 y1 y2 y3 y4 y5 y6 y7 y8 y9 y10 y11 y12 y13 y14 y15 y16 y17 y18 y19 y20 y21 k0 k1 k2 k3 k4 k5 k6 k7 k8 k9 k10 k11 k12 k13 k14 k15 k16 k17 k18 k19 k20 k21
 go_wp2_with (first
  | (with_reducible refine wpList_load_row rfl 53 (.tmp 3) rfl b3 rfl 53 V6 (0, 0) _ H1.out Try.underlying53 rfl H4.out ?_)
  | ((with_reducible show wpList _ _ _ (⟨none, .store _ _ _, _, _, _, _⟩ :: _) _ _); go_must (refine wpList_store_row rfl 53 (.tmp 2) (.tmp 48) rfl (b1 + 1) V6 rfl rfl 53 _ HZ6.out H4.out (by rw [H3.out]; rfl) H2.out ?_)))
 exact bodyPost_ret (results_cell_row rfl _ _ (b1 + 1) 53 _ (0, 0) _ rfl (setRow_heap _ _ _ _ _ _ HZ6.out) Try.underlying53 rfl H4.out) rfl ⟨_, by rw [HV6.out], .inl ⟨rfl, by rw [HP.out]⟩, by have h := below_row HB6.out (Nat.le_succ b1) V6; rw [HBB.out]; exact h⟩
end Go.Proofs.Ytnfpmobmfcgfnaa

