/- THE WALK OF record.Good (printed by gen/gengoo.py). -/
import Derived.Test.YtnfpmobmfcgfnaaPq
namespace Go.Proofs.Ytnfpmobmfcgfnaa
open Go.RowKit
theorem wpList_load_want {P : Program} {ops : Array Oper} {rest : List Oper} {o : Oper} {a : Act} {w : World} {Q : Exit → Act → World → Prop} (hw : Region.wanted o (yielded ops a.tmps) = true) (ty : TypeId) (x : Operand) (ho : o.op = .load ty x)
  (g : Nat) (hx : a.eval x = .pointer (some ⟨g, 0, none⟩)) (t : TypeId) (cs : Array Value) (fr : Nat × Nat) (d : TypeDesc) (hg : w.heap[g]? = some (.cells cs t fr))
  (hu : P.underlying ty = some d) (hd : (match d with | .struct _ | .array _ _ => true | _ => false) = true) (hi : (P.info? ty).map (·.size) = some cs.size)
  (h : wpList P ops Q rest (a.put o.dst (.agg cs)) w) : wpList P ops Q (o :: rest) a w :=
 wpList_step fun K hK => by simp only [hw, if_true]; exact wp_load_row ty x ho g hx t cs fr d hg hu hd hi (hK _ _ h)
theorem hsm_pre {c : Cm} (HOK : Hid c.ok) : ∀ (W : World) (lv' : Value), Lns W W.heap.size lv' (plainC c).doc.ls → Calls Try.prog 36 #[.agg ((plainC c).vs lv'), .agg (Cm.zero.vs (.slice none 0 0))] W fun e w' => e = .returned (.bool (decide (plainC c = Cm.zero))) ∧ Below W.heap.size W w' :=
 fun W lv' hl' => csame_any (w := W) (va := .agg ((plainC c).vs lv')) (vb := .agg (Cm.zero.vs (.slice none 0 0))) (a := plainC c) (b := Cm.zero) ⟨lv', rfl, hl', plain_ok HOK.out⟩ (Nat.le_refl _) ⟨.slice none 0 0, rfl, Lns.nil_ W 0, Cm.zero_ok⟩ (Nat.zero_le _)
theorem loadV {w : World} {b : Nat} {o : Cm} {lv : Value} {V : Array Value} (h : CBlk w b o lv) (hV : o.vs lv = V) : w.heap[b]? = some (.cells V 53 (0, 0)) := by rw [← hV]; exact h
set_option maxRecDepth 100000 in
set_option maxHeartbeats 16000000 in
theorem good_k1 {w : World} {B : Nat} {v : Value} {c : Cm} (hv : CmV w B v c) (hB : B ≤ w.heap.size) (_hl : c.doc.ls.length ≤ 100000) (hk : c.kind = 1) :
  Calls Try.prog 26 #[v] w fun e w' => e = .returned (.bool (goodCB c)) ∧ Below w.heap.size w w' := by
 obtain ⟨A0, m0, V, rfl, HV, HV2, HVI, HB1, HX1, HLS, HOK⟩ := cmd_pre hv hB
 clear hv
 generalize hG : goodCB c = G
 rw [← good_eq] at hG
 have HG := Lib.hid hG
 clear hG
 go_enter Try.func26, Try.ntmps26
 go_upto_region 1 with fail
 generalize World.alloc w _ = w1 at *
 generalize hb : w.heap.size = b1 at HX1 ⊢
 have HBB := Lib.hid hb
 clear hb
 have HXV := Lib.hid (loadV HX1.out HV.out)
 have hpl := plain_any c A0 c.doc.ls.length m0 w1
 rw [HV.out] at hpl
 unfold PlainPost at hpl
 have hsm := hsm_pre HOK
 generalize decide (plainC c = Cm.zero) = Z at hsm HG
 have HSM := Lib.hid hsm
 have HDC := Lib.hid (hdoc_pre (D := (plainC c).doc) HLS HB1 hB)
 clear hsm
 have hw3 : Z = false → True := fun _ => trivial
 clear hw3
 go_cut [7] from 3 to 7 (fun x7 wx => x7 = .bool (!Z) ∧ Below w1.heap.size w1 wx)
 case first =>
  go_wp2_with (first
   | (with_reducible refine wpList_load_row rfl 53 (.tmp 1) rfl b1 rfl 53 V (0, 0) _ HXV.out Try.underlying53 rfl HVI.out ?_)
   | (go_at_call 48; (with_reducible refine hpl.mono ?_); rintro e w2 ⟨lv', rfl, hl2, hb2⟩; have hsm := HSM.out w2 lv' (HDC.out lv' w2 hb2 hl2); have HB2 := Lib.hid hb2; clear hpl hb2 hl2)
   | (go_at_call 36; (refine hsm.mono ?_); rintro e w3 ⟨rfl, hb3⟩; have HB3 := Lib.hid (HB2.out.trans (hb3.mono HB2.out.size)); clear hsm hb3))
  go_meet
  exact ⟨rfl, HB3.out⟩
 case rest =>
 obtain ⟨rfl, hb3⟩ := hcut
 have HB3 := Lib.hid hb3
 clear hb3 hpl HXV
 generalize wc = w3 at *
 cases Z
 ·have hG := HG.out
  subst hG
  go_wp2
  go_ret
  exact ⟨rfl, HB1.out.trans (HB3.out.mono HB1.out.size)⟩
 have HX := Lib.hid (fun W (hW : Below w1.heap.size w1 W) => HX1.out.below hW)
 obtain ⟨c0, c1, c2, c3, c4, c5, c6, c7, c8, c9, c10, c11, c12, c13, c14, c15, c16, c17, c18, c19, c20, c21⟩ := (HX.out w3 HB3.out).box
 rw [hk] at c0
 have hG := HG.out
 rw [Bool.true_and, kindB, if_pos hk] at hG
 clear hk
 have q0 := fun W => member_any c.cty W
 have q1 := fun W => within_any c.ix 1 2 W
 have q2 := fun W => day_any c.day W
 generalize hl0 : memB c.cty.data.toList = L0 at hG q0
 clear hl0
 have Q0 := Lib.hid q0
 clear q0
 generalize hl1 : inB c.ix 1 2 = L1 at hG q1
 clear hl1
 have Q1 := Lib.hid q1
 clear q1
 generalize hl2 : inB c.day 0 2932896 = L2 at hG q2
 clear hl2
 have Q2 := Lib.hid q2
 clear q2
 have HG2 := Lib.hid hG
 clear hG
 cases L0
 ·skip
  have hG := HG2.out
  subst hG
  go_wp2_with (first | (go_at_call 49; (with_reducible refine (Q0.out _).mono ?_); rintro e wa ⟨rfl, hbx⟩; have HBa := Lib.hid (HB3.out.trans (hbx.mono HB3.out.size)); clear hbx c0 c1 c2 c3 c4 c5 c6 c7 c8 c9 c10 c11 c12 c13 c14 c15 c16 c17 c18 c19 c20 c21; obtain ⟨c0, c1, c2, c3, c4, c5, c6, c7, c8, c9, c10, c11, c12, c13, c14, c15, c16, c17, c18, c19, c20, c21⟩ := (HX.out wa HBa.out).box) | (go_at_call 50; (with_reducible refine (Q1.out _).mono ?_); rintro e wn ⟨rfl, rfl⟩) | (go_at_call 51; (with_reducible refine (Q2.out _).mono ?_); rintro e wn ⟨rfl, rfl⟩))
  go_ret
  first | exact ⟨rfl, HB1.out.trans (HBa.out.mono HB1.out.size)⟩ | exact ⟨rfl, HB1.out.trans (HB3.out.mono HB1.out.size)⟩
 cases L1
 ·skip
  have hG := HG2.out
  subst hG
  go_wp2_with (first | (go_at_call 49; (with_reducible refine (Q0.out _).mono ?_); rintro e wa ⟨rfl, hbx⟩; have HBa := Lib.hid (HB3.out.trans (hbx.mono HB3.out.size)); clear hbx c0 c1 c2 c3 c4 c5 c6 c7 c8 c9 c10 c11 c12 c13 c14 c15 c16 c17 c18 c19 c20 c21; obtain ⟨c0, c1, c2, c3, c4, c5, c6, c7, c8, c9, c10, c11, c12, c13, c14, c15, c16, c17, c18, c19, c20, c21⟩ := (HX.out wa HBa.out).box) | (go_at_call 50; (with_reducible refine (Q1.out _).mono ?_); rintro e wn ⟨rfl, rfl⟩) | (go_at_call 51; (with_reducible refine (Q2.out _).mono ?_); rintro e wn ⟨rfl, rfl⟩))
  go_ret
  first | exact ⟨rfl, HB1.out.trans (HBa.out.mono HB1.out.size)⟩ | exact ⟨rfl, HB1.out.trans (HB3.out.mono HB1.out.size)⟩
 have hG := HG2.out
 subst hG
 go_wp2_with (first | (go_at_call 49; (with_reducible refine (Q0.out _).mono ?_); rintro e wa ⟨rfl, hbx⟩; have HBa := Lib.hid (HB3.out.trans (hbx.mono HB3.out.size)); clear hbx c0 c1 c2 c3 c4 c5 c6 c7 c8 c9 c10 c11 c12 c13 c14 c15 c16 c17 c18 c19 c20 c21; obtain ⟨c0, c1, c2, c3, c4, c5, c6, c7, c8, c9, c10, c11, c12, c13, c14, c15, c16, c17, c18, c19, c20, c21⟩ := (HX.out wa HBa.out).box) | (go_at_call 50; (with_reducible refine (Q1.out _).mono ?_); rintro e wn ⟨rfl, rfl⟩) | (go_at_call 51; (with_reducible refine (Q2.out _).mono ?_); rintro e wn ⟨rfl, rfl⟩))
 go_ret
 first | exact ⟨rfl, HB1.out.trans (HBa.out.mono HB1.out.size)⟩ | exact ⟨rfl, HB1.out.trans (HB3.out.mono HB1.out.size)⟩
set_option maxRecDepth 100000 in
set_option maxHeartbeats 16000000 in
theorem good_k2 {w : World} {B : Nat} {v : Value} {c : Cm} (hv : CmV w B v c) (hB : B ≤ w.heap.size) (_hl : c.doc.ls.length ≤ 100000) (hk : c.kind = 2) :
  Calls Try.prog 26 #[v] w fun e w' => e = .returned (.bool (goodCB c)) ∧ Below w.heap.size w w' := by
 obtain ⟨A0, m0, V, rfl, HV, HV2, HVI, HB1, HX1, HLS, HOK⟩ := cmd_pre hv hB
 clear hv
 generalize hG : goodCB c = G
 rw [← good_eq] at hG
 have HG := Lib.hid hG
 clear hG
 go_enter Try.func26, Try.ntmps26
 go_upto_region 1 with fail
 generalize World.alloc w _ = w1 at *
 generalize hb : w.heap.size = b1 at HX1 ⊢
 have HBB := Lib.hid hb
 clear hb
 have HXV := Lib.hid (loadV HX1.out HV.out)
 have hpl := plain_any c A0 c.doc.ls.length m0 w1
 rw [HV.out] at hpl
 unfold PlainPost at hpl
 have hsm := hsm_pre HOK
 generalize decide (plainC c = Cm.zero) = Z at hsm HG
 have HSM := Lib.hid hsm
 have HDC := Lib.hid (hdoc_pre (D := (plainC c).doc) HLS HB1 hB)
 clear hsm
 have hw3 : Z = false → True := fun _ => trivial
 clear hw3
 go_cut [7] from 3 to 7 (fun x7 wx => x7 = .bool (!Z) ∧ Below w1.heap.size w1 wx)
 case first =>
  go_wp2_with (first
   | (with_reducible refine wpList_load_row rfl 53 (.tmp 1) rfl b1 rfl 53 V (0, 0) _ HXV.out Try.underlying53 rfl HVI.out ?_)
   | (go_at_call 48; (with_reducible refine hpl.mono ?_); rintro e w2 ⟨lv', rfl, hl2, hb2⟩; have hsm := HSM.out w2 lv' (HDC.out lv' w2 hb2 hl2); have HB2 := Lib.hid hb2; clear hpl hb2 hl2)
   | (go_at_call 36; (refine hsm.mono ?_); rintro e w3 ⟨rfl, hb3⟩; have HB3 := Lib.hid (HB2.out.trans (hb3.mono HB2.out.size)); clear hsm hb3))
  go_meet
  exact ⟨rfl, HB3.out⟩
 case rest =>
 obtain ⟨rfl, hb3⟩ := hcut
 have HB3 := Lib.hid hb3
 clear hb3 hpl HXV
 generalize wc = w3 at *
 cases Z
 ·have hG := HG.out
  subst hG
  go_wp2
  go_ret
  exact ⟨rfl, HB1.out.trans (HB3.out.mono HB1.out.size)⟩
 have HX := Lib.hid (fun W (hW : Below w1.heap.size w1 W) => HX1.out.below hW)
 obtain ⟨c0, c1, c2, c3, c4, c5, c6, c7, c8, c9, c10, c11, c12, c13, c14, c15, c16, c17, c18, c19, c20, c21⟩ := (HX.out w3 HB3.out).box
 rw [hk] at c0
 have hG := HG.out
 rw [Bool.true_and, kindB, if_neg (by rw [hk]; decide), if_pos hk] at hG
 clear hk
 have q0 := fun W => member_any c.cty W
 have q1 := fun W => within_any c.cat 1 3 W
 have q2 := fun W => stretch_any c (.slice A0 c.doc.ls.length m0) W
 simp only [HV.out] at q2
 have q3 := fun W => within_any c.bp 0 10000 W
 generalize hl0 : memB c.cty.data.toList = L0 at hG q0
 clear hl0
 have Q0 := Lib.hid q0
 clear q0
 generalize hl1 : inB c.cat 1 3 = L1 at hG q1
 clear hl1
 have Q1 := Lib.hid q1
 clear q1
 generalize hl2 : strB c.day c.til = L2 at hG q2
 clear hl2
 have Q2 := Lib.hid q2
 clear q2
 generalize hl3 : inB c.bp 0 10000 = L3 at hG q3
 clear hl3
 have Q3 := Lib.hid q3
 clear q3
 have HG2 := Lib.hid hG
 clear hG
 cases L0
 ·skip
  have hG := HG2.out
  subst hG
  go_wp2_with (first | (go_at_call 49; (with_reducible refine (Q0.out _).mono ?_); rintro e wa ⟨rfl, hbx⟩; have HBa := Lib.hid (HB3.out.trans (hbx.mono HB3.out.size)); clear hbx c0 c1 c2 c3 c4 c5 c6 c7 c8 c9 c10 c11 c12 c13 c14 c15 c16 c17 c18 c19 c20 c21; obtain ⟨c0, c1, c2, c3, c4, c5, c6, c7, c8, c9, c10, c11, c12, c13, c14, c15, c16, c17, c18, c19, c20, c21⟩ := (HX.out wa HBa.out).box) | (go_at_call 50; (with_reducible refine (Q1.out _).mono ?_); rintro e wn ⟨rfl, rfl⟩) | (go_at_call 52; (with_reducible refine (Q2.out _).mono ?_); rintro e wb ⟨rfl, hbx⟩; have HBb := Lib.hid (HBa.out.trans (hbx.mono HBa.out.size)); clear hbx c0 c1 c2 c3 c4 c5 c6 c7 c8 c9 c10 c11 c12 c13 c14 c15 c16 c17 c18 c19 c20 c21; obtain ⟨c0, c1, c2, c3, c4, c5, c6, c7, c8, c9, c10, c11, c12, c13, c14, c15, c16, c17, c18, c19, c20, c21⟩ := (HX.out wb HBb.out).box) | (go_at_call 50; (with_reducible refine (Q3.out _).mono ?_); rintro e wn ⟨rfl, rfl⟩) | ((with_reducible show wpList _ _ _ (⟨some 36, _, _, _, _, _⟩ :: _) _ _); refine wpList_load_want rfl 53 (.tmp 1) rfl b1 rfl 53 V (0, 0) _ (loadV (HX.out _ HBa.out) HV.out) Try.underlying53 rfl HVI.out ?_))
  go_ret
  first | exact ⟨rfl, HB1.out.trans (HBb.out.mono HB1.out.size)⟩ | exact ⟨rfl, HB1.out.trans (HBa.out.mono HB1.out.size)⟩ | exact ⟨rfl, HB1.out.trans (HB3.out.mono HB1.out.size)⟩
 cases L1
 ·skip
  have hG := HG2.out
  subst hG
  go_wp2_with (first | (go_at_call 49; (with_reducible refine (Q0.out _).mono ?_); rintro e wa ⟨rfl, hbx⟩; have HBa := Lib.hid (HB3.out.trans (hbx.mono HB3.out.size)); clear hbx c0 c1 c2 c3 c4 c5 c6 c7 c8 c9 c10 c11 c12 c13 c14 c15 c16 c17 c18 c19 c20 c21; obtain ⟨c0, c1, c2, c3, c4, c5, c6, c7, c8, c9, c10, c11, c12, c13, c14, c15, c16, c17, c18, c19, c20, c21⟩ := (HX.out wa HBa.out).box) | (go_at_call 50; (with_reducible refine (Q1.out _).mono ?_); rintro e wn ⟨rfl, rfl⟩) | (go_at_call 52; (with_reducible refine (Q2.out _).mono ?_); rintro e wb ⟨rfl, hbx⟩; have HBb := Lib.hid (HBa.out.trans (hbx.mono HBa.out.size)); clear hbx c0 c1 c2 c3 c4 c5 c6 c7 c8 c9 c10 c11 c12 c13 c14 c15 c16 c17 c18 c19 c20 c21; obtain ⟨c0, c1, c2, c3, c4, c5, c6, c7, c8, c9, c10, c11, c12, c13, c14, c15, c16, c17, c18, c19, c20, c21⟩ := (HX.out wb HBb.out).box) | (go_at_call 50; (with_reducible refine (Q3.out _).mono ?_); rintro e wn ⟨rfl, rfl⟩) | ((with_reducible show wpList _ _ _ (⟨some 36, _, _, _, _, _⟩ :: _) _ _); refine wpList_load_want rfl 53 (.tmp 1) rfl b1 rfl 53 V (0, 0) _ (loadV (HX.out _ HBa.out) HV.out) Try.underlying53 rfl HVI.out ?_))
  go_ret
  first | exact ⟨rfl, HB1.out.trans (HBb.out.mono HB1.out.size)⟩ | exact ⟨rfl, HB1.out.trans (HBa.out.mono HB1.out.size)⟩ | exact ⟨rfl, HB1.out.trans (HB3.out.mono HB1.out.size)⟩
 cases L2
 ·skip
  have hG := HG2.out
  subst hG
  go_wp2_with (first | (go_at_call 49; (with_reducible refine (Q0.out _).mono ?_); rintro e wa ⟨rfl, hbx⟩; have HBa := Lib.hid (HB3.out.trans (hbx.mono HB3.out.size)); clear hbx c0 c1 c2 c3 c4 c5 c6 c7 c8 c9 c10 c11 c12 c13 c14 c15 c16 c17 c18 c19 c20 c21; obtain ⟨c0, c1, c2, c3, c4, c5, c6, c7, c8, c9, c10, c11, c12, c13, c14, c15, c16, c17, c18, c19, c20, c21⟩ := (HX.out wa HBa.out).box) | (go_at_call 50; (with_reducible refine (Q1.out _).mono ?_); rintro e wn ⟨rfl, rfl⟩) | (go_at_call 52; (with_reducible refine (Q2.out _).mono ?_); rintro e wb ⟨rfl, hbx⟩; have HBb := Lib.hid (HBa.out.trans (hbx.mono HBa.out.size)); clear hbx c0 c1 c2 c3 c4 c5 c6 c7 c8 c9 c10 c11 c12 c13 c14 c15 c16 c17 c18 c19 c20 c21; obtain ⟨c0, c1, c2, c3, c4, c5, c6, c7, c8, c9, c10, c11, c12, c13, c14, c15, c16, c17, c18, c19, c20, c21⟩ := (HX.out wb HBb.out).box) | (go_at_call 50; (with_reducible refine (Q3.out _).mono ?_); rintro e wn ⟨rfl, rfl⟩) | ((with_reducible show wpList _ _ _ (⟨some 36, _, _, _, _, _⟩ :: _) _ _); refine wpList_load_want rfl 53 (.tmp 1) rfl b1 rfl 53 V (0, 0) _ (loadV (HX.out _ HBa.out) HV.out) Try.underlying53 rfl HVI.out ?_))
  go_ret
  first | exact ⟨rfl, HB1.out.trans (HBb.out.mono HB1.out.size)⟩ | exact ⟨rfl, HB1.out.trans (HBa.out.mono HB1.out.size)⟩ | exact ⟨rfl, HB1.out.trans (HB3.out.mono HB1.out.size)⟩
 have hG := HG2.out
 subst hG
 go_wp2_with (first | (go_at_call 49; (with_reducible refine (Q0.out _).mono ?_); rintro e wa ⟨rfl, hbx⟩; have HBa := Lib.hid (HB3.out.trans (hbx.mono HB3.out.size)); clear hbx c0 c1 c2 c3 c4 c5 c6 c7 c8 c9 c10 c11 c12 c13 c14 c15 c16 c17 c18 c19 c20 c21; obtain ⟨c0, c1, c2, c3, c4, c5, c6, c7, c8, c9, c10, c11, c12, c13, c14, c15, c16, c17, c18, c19, c20, c21⟩ := (HX.out wa HBa.out).box) | (go_at_call 50; (with_reducible refine (Q1.out _).mono ?_); rintro e wn ⟨rfl, rfl⟩) | (go_at_call 52; (with_reducible refine (Q2.out _).mono ?_); rintro e wb ⟨rfl, hbx⟩; have HBb := Lib.hid (HBa.out.trans (hbx.mono HBa.out.size)); clear hbx c0 c1 c2 c3 c4 c5 c6 c7 c8 c9 c10 c11 c12 c13 c14 c15 c16 c17 c18 c19 c20 c21; obtain ⟨c0, c1, c2, c3, c4, c5, c6, c7, c8, c9, c10, c11, c12, c13, c14, c15, c16, c17, c18, c19, c20, c21⟩ := (HX.out wb HBb.out).box) | (go_at_call 50; (with_reducible refine (Q3.out _).mono ?_); rintro e wn ⟨rfl, rfl⟩) | ((with_reducible show wpList _ _ _ (⟨some 36, _, _, _, _, _⟩ :: _) _ _); refine wpList_load_want rfl 53 (.tmp 1) rfl b1 rfl 53 V (0, 0) _ (loadV (HX.out _ HBa.out) HV.out) Try.underlying53 rfl HVI.out ?_))
 go_ret
 first | exact ⟨rfl, HB1.out.trans (HBb.out.mono HB1.out.size)⟩ | exact ⟨rfl, HB1.out.trans (HBa.out.mono HB1.out.size)⟩ | exact ⟨rfl, HB1.out.trans (HB3.out.mono HB1.out.size)⟩
set_option maxRecDepth 100000 in
set_option maxHeartbeats 16000000 in
theorem good_k3 {w : World} {B : Nat} {v : Value} {c : Cm} (hv : CmV w B v c) (hB : B ≤ w.heap.size) (_hl : c.doc.ls.length ≤ 100000) (hk : c.kind = 3) :
  Calls Try.prog 26 #[v] w fun e w' => e = .returned (.bool (goodCB c)) ∧ Below w.heap.size w w' := by
 obtain ⟨A0, m0, V, rfl, HV, HV2, HVI, HB1, HX1, HLS, HOK⟩ := cmd_pre hv hB
 clear hv
 generalize hG : goodCB c = G
 rw [← good_eq] at hG
 have HG := Lib.hid hG
 clear hG
 go_enter Try.func26, Try.ntmps26
 go_upto_region 1 with fail
 generalize World.alloc w _ = w1 at *
 generalize hb : w.heap.size = b1 at HX1 ⊢
 have HBB := Lib.hid hb
 clear hb
 have HXV := Lib.hid (loadV HX1.out HV.out)
 have hpl := plain_any c A0 c.doc.ls.length m0 w1
 rw [HV.out] at hpl
 unfold PlainPost at hpl
 have hsm := hsm_pre HOK
 generalize decide (plainC c = Cm.zero) = Z at hsm HG
 have HSM := Lib.hid hsm
 have HDC := Lib.hid (hdoc_pre (D := (plainC c).doc) HLS HB1 hB)
 clear hsm
 have hw3 : Z = false → True := fun _ => trivial
 clear hw3
 go_cut [7] from 3 to 7 (fun x7 wx => x7 = .bool (!Z) ∧ Below w1.heap.size w1 wx)
 case first =>
  go_wp2_with (first
   | (with_reducible refine wpList_load_row rfl 53 (.tmp 1) rfl b1 rfl 53 V (0, 0) _ HXV.out Try.underlying53 rfl HVI.out ?_)
   | (go_at_call 48; (with_reducible refine hpl.mono ?_); rintro e w2 ⟨lv', rfl, hl2, hb2⟩; have hsm := HSM.out w2 lv' (HDC.out lv' w2 hb2 hl2); have HB2 := Lib.hid hb2; clear hpl hb2 hl2)
   | (go_at_call 36; (refine hsm.mono ?_); rintro e w3 ⟨rfl, hb3⟩; have HB3 := Lib.hid (HB2.out.trans (hb3.mono HB2.out.size)); clear hsm hb3))
  go_meet
  exact ⟨rfl, HB3.out⟩
 case rest =>
 obtain ⟨rfl, hb3⟩ := hcut
 have HB3 := Lib.hid hb3
 clear hb3 hpl HXV
 generalize wc = w3 at *
 cases Z
 ·have hG := HG.out
  subst hG
  go_wp2
  go_ret
  exact ⟨rfl, HB1.out.trans (HB3.out.mono HB1.out.size)⟩
 have HX := Lib.hid (fun W (hW : Below w1.heap.size w1 W) => HX1.out.below hW)
 obtain ⟨c0, c1, c2, c3, c4, c5, c6, c7, c8, c9, c10, c11, c12, c13, c14, c15, c16, c17, c18, c19, c20, c21⟩ := (HX.out w3 HB3.out).box
 rw [hk] at c0
 have hG := HG.out
 rw [Bool.true_and, kindB, if_neg (by rw [hk]; decide), if_neg (by rw [hk]; decide), if_pos hk] at hG
 clear hk
 have q0 := fun W => stretch_any c (.slice A0 c.doc.ls.length m0) W
 simp only [HV.out] at q0
 generalize hl0 : strB c.day c.til = L0 at hG q0
 clear hl0
 have Q0 := Lib.hid q0
 clear q0
 have HG2 := Lib.hid hG
 clear hG
 have hG := HG2.out
 subst hG
 go_wp2_with (first | (go_at_call 52; (with_reducible refine (Q0.out _).mono ?_); rintro e wa ⟨rfl, hbx⟩; have HBa := Lib.hid (HB3.out.trans (hbx.mono HB3.out.size)); clear hbx c0 c1 c2 c3 c4 c5 c6 c7 c8 c9 c10 c11 c12 c13 c14 c15 c16 c17 c18 c19 c20 c21; obtain ⟨c0, c1, c2, c3, c4, c5, c6, c7, c8, c9, c10, c11, c12, c13, c14, c15, c16, c17, c18, c19, c20, c21⟩ := (HX.out wa HBa.out).box) | (with_reducible refine wpList_load_row rfl 53 _ rfl b1 rfl 53 V (0, 0) _ (loadV (HX.out _ HB3.out) HV.out) Try.underlying53 rfl HVI.out ?_))
 go_ret
 first | exact ⟨rfl, HB1.out.trans (HBa.out.mono HB1.out.size)⟩ | exact ⟨rfl, HB1.out.trans (HB3.out.mono HB1.out.size)⟩
set_option maxRecDepth 100000 in
set_option maxHeartbeats 16000000 in
theorem good_k4 {w : World} {B : Nat} {v : Value} {c : Cm} (hv : CmV w B v c) (hB : B ≤ w.heap.size) (_hl : c.doc.ls.length ≤ 100000) (hk : c.kind = 4) :
  Calls Try.prog 26 #[v] w fun e w' => e = .returned (.bool (goodCB c)) ∧ Below w.heap.size w w' := by
 obtain ⟨A0, m0, V, rfl, HV, HV2, HVI, HB1, HX1, HLS, HOK⟩ := cmd_pre hv hB
 clear hv
 generalize hG : goodCB c = G
 rw [← good_eq] at hG
 have HG := Lib.hid hG
 clear hG
 go_enter Try.func26, Try.ntmps26
 go_upto_region 1 with fail
 generalize World.alloc w _ = w1 at *
 generalize hb : w.heap.size = b1 at HX1 ⊢
 have HBB := Lib.hid hb
 clear hb
 have HXV := Lib.hid (loadV HX1.out HV.out)
 have hpl := plain_any c A0 c.doc.ls.length m0 w1
 rw [HV.out] at hpl
 unfold PlainPost at hpl
 have hsm := hsm_pre HOK
 generalize decide (plainC c = Cm.zero) = Z at hsm HG
 have HSM := Lib.hid hsm
 have HDC := Lib.hid (hdoc_pre (D := (plainC c).doc) HLS HB1 hB)
 clear hsm
 have hw3 : Z = false → True := fun _ => trivial
 clear hw3
 go_cut [7] from 3 to 7 (fun x7 wx => x7 = .bool (!Z) ∧ Below w1.heap.size w1 wx)
 case first =>
  go_wp2_with (first
   | (with_reducible refine wpList_load_row rfl 53 (.tmp 1) rfl b1 rfl 53 V (0, 0) _ HXV.out Try.underlying53 rfl HVI.out ?_)
   | (go_at_call 48; (with_reducible refine hpl.mono ?_); rintro e w2 ⟨lv', rfl, hl2, hb2⟩; have hsm := HSM.out w2 lv' (HDC.out lv' w2 hb2 hl2); have HB2 := Lib.hid hb2; clear hpl hb2 hl2)
   | (go_at_call 36; (refine hsm.mono ?_); rintro e w3 ⟨rfl, hb3⟩; have HB3 := Lib.hid (HB2.out.trans (hb3.mono HB2.out.size)); clear hsm hb3))
  go_meet
  exact ⟨rfl, HB3.out⟩
 case rest =>
 obtain ⟨rfl, hb3⟩ := hcut
 have HB3 := Lib.hid hb3
 clear hb3 hpl HXV
 generalize wc = w3 at *
 cases Z
 ·have hG := HG.out
  subst hG
  go_wp2
  go_ret
  exact ⟨rfl, HB1.out.trans (HB3.out.mono HB1.out.size)⟩
 have HX := Lib.hid (fun W (hW : Below w1.heap.size w1 W) => HX1.out.below hW)
 obtain ⟨c0, c1, c2, c3, c4, c5, c6, c7, c8, c9, c10, c11, c12, c13, c14, c15, c16, c17, c18, c19, c20, c21⟩ := (HX.out w3 HB3.out).box
 rw [hk] at c0
 have hG := HG.out
 rw [Bool.true_and, kindB, if_neg (by rw [hk]; decide), if_neg (by rw [hk]; decide), if_neg (by rw [hk]; decide), if_pos hk] at hG
 clear hk
 have q0 := fun W => right_any c.cty c.txt HOK.out.cty HOK.out.txt W
 unfold RightPost at q0
 have q1 := fun W => stretch_any c (.slice A0 c.doc.ls.length m0) W
 simp only [HV.out] at q1
 generalize hl0 : rightL c.cty.data.toList c.txt.data.toList = L0 at hG q0
 clear hl0
 have Q0 := Lib.hid q0
 clear q0
 generalize hl1 : strB c.day c.til = L1 at hG q1
 clear hl1
 have Q1 := Lib.hid q1
 clear q1
 have HG2 := Lib.hid hG
 clear hG
 cases L0
 ·skip
  have hG := HG2.out
  subst hG
  go_wp2_with (first | (go_at_call 53; (with_reducible refine (Q0.out _).mono ?_); rintro e wa ⟨rfl, hbx⟩; have HBa := Lib.hid (HB3.out.trans (hbx.mono HB3.out.size)); clear hbx c0 c1 c2 c3 c4 c5 c6 c7 c8 c9 c10 c11 c12 c13 c14 c15 c16 c17 c18 c19 c20 c21; obtain ⟨c0, c1, c2, c3, c4, c5, c6, c7, c8, c9, c10, c11, c12, c13, c14, c15, c16, c17, c18, c19, c20, c21⟩ := (HX.out wa HBa.out).box) | (go_at_call 52; (with_reducible refine (Q1.out _).mono ?_); rintro e wb ⟨rfl, hbx⟩; have HBb := Lib.hid (HBa.out.trans (hbx.mono HBa.out.size)); clear hbx c0 c1 c2 c3 c4 c5 c6 c7 c8 c9 c10 c11 c12 c13 c14 c15 c16 c17 c18 c19 c20 c21; obtain ⟨c0, c1, c2, c3, c4, c5, c6, c7, c8, c9, c10, c11, c12, c13, c14, c15, c16, c17, c18, c19, c20, c21⟩ := (HX.out wb HBb.out).box) | ((with_reducible show wpList _ _ _ (⟨some 56, _, _, _, _, _⟩ :: _) _ _); refine wpList_load_want rfl 53 (.tmp 1) rfl b1 rfl 53 V (0, 0) _ (loadV (HX.out _ HBa.out) HV.out) Try.underlying53 rfl HVI.out ?_))
  go_ret
  first | exact ⟨rfl, HB1.out.trans (HBb.out.mono HB1.out.size)⟩ | exact ⟨rfl, HB1.out.trans (HBa.out.mono HB1.out.size)⟩ | exact ⟨rfl, HB1.out.trans (HB3.out.mono HB1.out.size)⟩
 have hG := HG2.out
 subst hG
 go_wp2_with (first | (go_at_call 53; (with_reducible refine (Q0.out _).mono ?_); rintro e wa ⟨rfl, hbx⟩; have HBa := Lib.hid (HB3.out.trans (hbx.mono HB3.out.size)); clear hbx c0 c1 c2 c3 c4 c5 c6 c7 c8 c9 c10 c11 c12 c13 c14 c15 c16 c17 c18 c19 c20 c21; obtain ⟨c0, c1, c2, c3, c4, c5, c6, c7, c8, c9, c10, c11, c12, c13, c14, c15, c16, c17, c18, c19, c20, c21⟩ := (HX.out wa HBa.out).box) | (go_at_call 52; (with_reducible refine (Q1.out _).mono ?_); rintro e wb ⟨rfl, hbx⟩; have HBb := Lib.hid (HBa.out.trans (hbx.mono HBa.out.size)); clear hbx c0 c1 c2 c3 c4 c5 c6 c7 c8 c9 c10 c11 c12 c13 c14 c15 c16 c17 c18 c19 c20 c21; obtain ⟨c0, c1, c2, c3, c4, c5, c6, c7, c8, c9, c10, c11, c12, c13, c14, c15, c16, c17, c18, c19, c20, c21⟩ := (HX.out wb HBb.out).box) | ((with_reducible show wpList _ _ _ (⟨some 56, _, _, _, _, _⟩ :: _) _ _); refine wpList_load_want rfl 53 (.tmp 1) rfl b1 rfl 53 V (0, 0) _ (loadV (HX.out _ HBa.out) HV.out) Try.underlying53 rfl HVI.out ?_))
 go_ret
 first | exact ⟨rfl, HB1.out.trans (HBb.out.mono HB1.out.size)⟩ | exact ⟨rfl, HB1.out.trans (HBa.out.mono HB1.out.size)⟩ | exact ⟨rfl, HB1.out.trans (HB3.out.mono HB1.out.size)⟩
set_option maxRecDepth 100000 in
set_option maxHeartbeats 16000000 in
theorem good_k5 {w : World} {B : Nat} {v : Value} {c : Cm} (hv : CmV w B v c) (hB : B ≤ w.heap.size) (_hl : c.doc.ls.length ≤ 100000) (hk : c.kind = 5) :
  Calls Try.prog 26 #[v] w fun e w' => e = .returned (.bool (goodCB c)) ∧ Below w.heap.size w w' := by
 obtain ⟨A0, m0, V, rfl, HV, HV2, HVI, HB1, HX1, HLS, HOK⟩ := cmd_pre hv hB
 clear hv
 generalize hG : goodCB c = G
 rw [← good_eq] at hG
 have HG := Lib.hid hG
 clear hG
 go_enter Try.func26, Try.ntmps26
 go_upto_region 1 with fail
 generalize World.alloc w _ = w1 at *
 generalize hb : w.heap.size = b1 at HX1 ⊢
 have HBB := Lib.hid hb
 clear hb
 have HXV := Lib.hid (loadV HX1.out HV.out)
 have hpl := plain_any c A0 c.doc.ls.length m0 w1
 rw [HV.out] at hpl
 unfold PlainPost at hpl
 have hsm := hsm_pre HOK
 generalize decide (plainC c = Cm.zero) = Z at hsm HG
 have HSM := Lib.hid hsm
 have HDC := Lib.hid (hdoc_pre (D := (plainC c).doc) HLS HB1 hB)
 clear hsm
 have hw3 : Z = false → True := fun _ => trivial
 clear hw3
 go_cut [7] from 3 to 7 (fun x7 wx => x7 = .bool (!Z) ∧ Below w1.heap.size w1 wx)
 case first =>
  go_wp2_with (first
   | (with_reducible refine wpList_load_row rfl 53 (.tmp 1) rfl b1 rfl 53 V (0, 0) _ HXV.out Try.underlying53 rfl HVI.out ?_)
   | (go_at_call 48; (with_reducible refine hpl.mono ?_); rintro e w2 ⟨lv', rfl, hl2, hb2⟩; have hsm := HSM.out w2 lv' (HDC.out lv' w2 hb2 hl2); have HB2 := Lib.hid hb2; clear hpl hb2 hl2)
   | (go_at_call 36; (refine hsm.mono ?_); rintro e w3 ⟨rfl, hb3⟩; have HB3 := Lib.hid (HB2.out.trans (hb3.mono HB2.out.size)); clear hsm hb3))
  go_meet
  exact ⟨rfl, HB3.out⟩
 case rest =>
 obtain ⟨rfl, hb3⟩ := hcut
 have HB3 := Lib.hid hb3
 clear hb3 hpl HXV
 generalize wc = w3 at *
 cases Z
 ·have hG := HG.out
  subst hG
  go_wp2
  go_ret
  exact ⟨rfl, HB1.out.trans (HB3.out.mono HB1.out.size)⟩
 have HX := Lib.hid (fun W (hW : Below w1.heap.size w1 W) => HX1.out.below hW)
 obtain ⟨c0, c1, c2, c3, c4, c5, c6, c7, c8, c9, c10, c11, c12, c13, c14, c15, c16, c17, c18, c19, c20, c21⟩ := (HX.out w3 HB3.out).box
 rw [hk] at c0
 have hG := HG.out
 rw [Bool.true_and, kindB, if_neg (by rw [hk]; decide), if_neg (by rw [hk]; decide), if_neg (by rw [hk]; decide), if_neg (by rw [hk]; decide), if_pos hk] at hG
 clear hk
 have q0 := fun W => cur_any c.txt W
 have q1 := fun W => pergood_any c.pk c.py c.px W
 have q3 := fun W => within_any c.nm 1 1099511627776 W
 have q4 := fun W => within_any c.dn 1 1099511627776 W
 generalize hl0 : curL c.txt.data.toList = L0 at hG q0
 clear hl0
 have Q0 := Lib.hid q0
 clear q0
 generalize hl1 : perB c.pk c.py c.px = L1 at hG q1
 clear hl1
 have Q1 := Lib.hid q1
 clear q1
 generalize e22 : (c.pk == 2) = L2 at hG
 generalize hl3 : inB c.nm 1 1099511627776 = L3 at hG q3
 clear hl3
 have Q3 := Lib.hid q3
 clear q3
 generalize hl4 : inB c.dn 1 1099511627776 = L4 at hG q4
 clear hl4
 have Q4 := Lib.hid q4
 clear q4
 have HG2 := Lib.hid hG
 clear hG
 cases L0
 ·skip
  have hG := HG2.out
  subst hG
  go_wp2_with (first | (go_at_call 54; (with_reducible refine (Q0.out _).mono ?_); rintro e wn ⟨rfl, rfl⟩) | (go_at_call 55; (with_reducible refine (Q1.out _).mono ?_); rintro e wa ⟨rfl, hbx⟩; have HBa := Lib.hid (HB3.out.trans (hbx.mono HB3.out.size)); clear hbx c0 c1 c2 c3 c4 c5 c6 c7 c8 c9 c10 c11 c12 c13 c14 c15 c16 c17 c18 c19 c20 c21; obtain ⟨c0, c1, c2, c3, c4, c5, c6, c7, c8, c9, c10, c11, c12, c13, c14, c15, c16, c17, c18, c19, c20, c21⟩ := (HX.out wa HBa.out).box) | (go_at_call 50; (with_reducible refine (Q3.out _).mono ?_); rintro e wn ⟨rfl, rfl⟩) | (go_at_call 50; (with_reducible refine (Q4.out _).mono ?_); rintro e wn ⟨rfl, rfl⟩))
  go_ret
  first | exact ⟨rfl, HB1.out.trans (HBa.out.mono HB1.out.size)⟩ | exact ⟨rfl, HB1.out.trans (HB3.out.mono HB1.out.size)⟩
 cases L1
 ·skip
  have hG := HG2.out
  subst hG
  go_wp2_with (first | (go_at_call 54; (with_reducible refine (Q0.out _).mono ?_); rintro e wn ⟨rfl, rfl⟩) | (go_at_call 55; (with_reducible refine (Q1.out _).mono ?_); rintro e wa ⟨rfl, hbx⟩; have HBa := Lib.hid (HB3.out.trans (hbx.mono HB3.out.size)); clear hbx c0 c1 c2 c3 c4 c5 c6 c7 c8 c9 c10 c11 c12 c13 c14 c15 c16 c17 c18 c19 c20 c21; obtain ⟨c0, c1, c2, c3, c4, c5, c6, c7, c8, c9, c10, c11, c12, c13, c14, c15, c16, c17, c18, c19, c20, c21⟩ := (HX.out wa HBa.out).box) | (go_at_call 50; (with_reducible refine (Q3.out _).mono ?_); rintro e wn ⟨rfl, rfl⟩) | (go_at_call 50; (with_reducible refine (Q4.out _).mono ?_); rintro e wn ⟨rfl, rfl⟩))
  go_ret
  first | exact ⟨rfl, HB1.out.trans (HBa.out.mono HB1.out.size)⟩ | exact ⟨rfl, HB1.out.trans (HB3.out.mono HB1.out.size)⟩
 cases L2
 ·skip
  have hG := HG2.out
  subst hG
  go_wp2_with (first | (go_at_call 54; (with_reducible refine (Q0.out _).mono ?_); rintro e wn ⟨rfl, rfl⟩) | (go_at_call 55; (with_reducible refine (Q1.out _).mono ?_); rintro e wa ⟨rfl, hbx⟩; have HBa := Lib.hid (HB3.out.trans (hbx.mono HB3.out.size)); clear hbx c0 c1 c2 c3 c4 c5 c6 c7 c8 c9 c10 c11 c12 c13 c14 c15 c16 c17 c18 c19 c20 c21; obtain ⟨c0, c1, c2, c3, c4, c5, c6, c7, c8, c9, c10, c11, c12, c13, c14, c15, c16, c17, c18, c19, c20, c21⟩ := (HX.out wa HBa.out).box) | (go_at_call 50; (with_reducible refine (Q3.out _).mono ?_); rintro e wn ⟨rfl, rfl⟩) | (go_at_call 50; (with_reducible refine (Q4.out _).mono ?_); rintro e wn ⟨rfl, rfl⟩))
  go_ret
  first | exact ⟨rfl, HB1.out.trans (HBa.out.mono HB1.out.size)⟩ | exact ⟨rfl, HB1.out.trans (HB3.out.mono HB1.out.size)⟩
 cases L3
 ·skip
  have hG := HG2.out
  subst hG
  go_wp2_with (first | (go_at_call 54; (with_reducible refine (Q0.out _).mono ?_); rintro e wn ⟨rfl, rfl⟩) | (go_at_call 55; (with_reducible refine (Q1.out _).mono ?_); rintro e wa ⟨rfl, hbx⟩; have HBa := Lib.hid (HB3.out.trans (hbx.mono HB3.out.size)); clear hbx c0 c1 c2 c3 c4 c5 c6 c7 c8 c9 c10 c11 c12 c13 c14 c15 c16 c17 c18 c19 c20 c21; obtain ⟨c0, c1, c2, c3, c4, c5, c6, c7, c8, c9, c10, c11, c12, c13, c14, c15, c16, c17, c18, c19, c20, c21⟩ := (HX.out wa HBa.out).box) | (go_at_call 50; (with_reducible refine (Q3.out _).mono ?_); rintro e wn ⟨rfl, rfl⟩) | (go_at_call 50; (with_reducible refine (Q4.out _).mono ?_); rintro e wn ⟨rfl, rfl⟩))
  go_ret
  first | exact ⟨rfl, HB1.out.trans (HBa.out.mono HB1.out.size)⟩ | exact ⟨rfl, HB1.out.trans (HB3.out.mono HB1.out.size)⟩
 have hG := HG2.out
 subst hG
 go_wp2_with (first | (go_at_call 54; (with_reducible refine (Q0.out _).mono ?_); rintro e wn ⟨rfl, rfl⟩) | (go_at_call 55; (with_reducible refine (Q1.out _).mono ?_); rintro e wa ⟨rfl, hbx⟩; have HBa := Lib.hid (HB3.out.trans (hbx.mono HB3.out.size)); clear hbx c0 c1 c2 c3 c4 c5 c6 c7 c8 c9 c10 c11 c12 c13 c14 c15 c16 c17 c18 c19 c20 c21; obtain ⟨c0, c1, c2, c3, c4, c5, c6, c7, c8, c9, c10, c11, c12, c13, c14, c15, c16, c17, c18, c19, c20, c21⟩ := (HX.out wa HBa.out).box) | (go_at_call 50; (with_reducible refine (Q3.out _).mono ?_); rintro e wn ⟨rfl, rfl⟩) | (go_at_call 50; (with_reducible refine (Q4.out _).mono ?_); rintro e wn ⟨rfl, rfl⟩))
 go_ret
 first | exact ⟨rfl, HB1.out.trans (HBa.out.mono HB1.out.size)⟩ | exact ⟨rfl, HB1.out.trans (HB3.out.mono HB1.out.size)⟩
set_option maxRecDepth 100000 in
set_option maxHeartbeats 16000000 in
theorem good_k6 {w : World} {B : Nat} {v : Value} {c : Cm} (hv : CmV w B v c) (hB : B ≤ w.heap.size) (_hl : c.doc.ls.length ≤ 100000) (hk : c.kind = 6) :
  Calls Try.prog 26 #[v] w fun e w' => e = .returned (.bool (goodCB c)) ∧ Below w.heap.size w w' := by
 obtain ⟨A0, m0, V, rfl, HV, HV2, HVI, HB1, HX1, HLS, HOK⟩ := cmd_pre hv hB
 clear hv
 generalize hG : goodCB c = G
 rw [← good_eq] at hG
 have HG := Lib.hid hG
 clear hG
 go_enter Try.func26, Try.ntmps26
 go_upto_region 1 with fail
 generalize World.alloc w _ = w1 at *
 generalize hb : w.heap.size = b1 at HX1 ⊢
 have HBB := Lib.hid hb
 clear hb
 have HXV := Lib.hid (loadV HX1.out HV.out)
 have hpl := plain_any c A0 c.doc.ls.length m0 w1
 rw [HV.out] at hpl
 unfold PlainPost at hpl
 have hsm := hsm_pre HOK
 generalize decide (plainC c = Cm.zero) = Z at hsm HG
 have HSM := Lib.hid hsm
 have HDC := Lib.hid (hdoc_pre (D := (plainC c).doc) HLS HB1 hB)
 clear hsm
 have hw3 : Z = false → True := fun _ => trivial
 clear hw3
 go_cut [7] from 3 to 7 (fun x7 wx => x7 = .bool (!Z) ∧ Below w1.heap.size w1 wx)
 case first =>
  go_wp2_with (first
   | (with_reducible refine wpList_load_row rfl 53 (.tmp 1) rfl b1 rfl 53 V (0, 0) _ HXV.out Try.underlying53 rfl HVI.out ?_)
   | (go_at_call 48; (with_reducible refine hpl.mono ?_); rintro e w2 ⟨lv', rfl, hl2, hb2⟩; have hsm := HSM.out w2 lv' (HDC.out lv' w2 hb2 hl2); have HB2 := Lib.hid hb2; clear hpl hb2 hl2)
   | (go_at_call 36; (refine hsm.mono ?_); rintro e w3 ⟨rfl, hb3⟩; have HB3 := Lib.hid (HB2.out.trans (hb3.mono HB2.out.size)); clear hsm hb3))
  go_meet
  exact ⟨rfl, HB3.out⟩
 case rest =>
 obtain ⟨rfl, hb3⟩ := hcut
 have HB3 := Lib.hid hb3
 clear hb3 hpl HXV
 generalize wc = w3 at *
 cases Z
 ·have hG := HG.out
  subst hG
  go_wp2
  go_ret
  exact ⟨rfl, HB1.out.trans (HB3.out.mono HB1.out.size)⟩
 have HX := Lib.hid (fun W (hW : Below w1.heap.size w1 W) => HX1.out.below hW)
 obtain ⟨c0, c1, c2, c3, c4, c5, c6, c7, c8, c9, c10, c11, c12, c13, c14, c15, c16, c17, c18, c19, c20, c21⟩ := (HX.out w3 HB3.out).box
 rw [hk] at c0
 have hG := HG.out
 rw [Bool.true_and, kindB, if_neg (by rw [hk]; decide), if_neg (by rw [hk]; decide), if_neg (by rw [hk]; decide), if_neg (by rw [hk]; decide), if_neg (by rw [hk]; decide), if_pos hk] at hG
 clear hk
 generalize e20 : decide (c.txt.size ≤ 65536) = L0 at hG
 have f20 : decide ((c.txt.size : Int) ≤ 65536) = L0 := by rw [← e20]; exact decide_eq_decide.2 (by omega)
 have HG2 := Lib.hid hG
 clear hG
 have hG := HG2.out
 subst hG
 go_wp2
 go_ret
 first | exact ⟨rfl, HB1.out.trans (HB3.out.mono HB1.out.size)⟩
set_option maxRecDepth 100000 in
set_option maxHeartbeats 16000000 in
theorem good_k7 {w : World} {B : Nat} {v : Value} {c : Cm} (hv : CmV w B v c) (hB : B ≤ w.heap.size) (_hl : c.doc.ls.length ≤ 100000) (hk : c.kind = 7) :
  Calls Try.prog 26 #[v] w fun e w' => e = .returned (.bool (goodCB c)) ∧ Below w.heap.size w w' := by
 obtain ⟨A0, m0, V, rfl, HV, HV2, HVI, HB1, HX1, HLS, HOK⟩ := cmd_pre hv hB
 clear hv
 generalize hG : goodCB c = G
 rw [← good_eq] at hG
 have HG := Lib.hid hG
 clear hG
 go_enter Try.func26, Try.ntmps26
 go_upto_region 1 with fail
 generalize World.alloc w _ = w1 at *
 generalize hb : w.heap.size = b1 at HX1 ⊢
 have HBB := Lib.hid hb
 clear hb
 have HXV := Lib.hid (loadV HX1.out HV.out)
 have hpl := plain_any c A0 c.doc.ls.length m0 w1
 rw [HV.out] at hpl
 unfold PlainPost at hpl
 have hsm := hsm_pre HOK
 generalize decide (plainC c = Cm.zero) = Z at hsm HG
 have HSM := Lib.hid hsm
 have HDC := Lib.hid (hdoc_pre (D := (plainC c).doc) HLS HB1 hB)
 clear hsm
 have hw3 : Z = false → True := fun _ => trivial
 clear hw3
 go_cut [7] from 3 to 7 (fun x7 wx => x7 = .bool (!Z) ∧ Below w1.heap.size w1 wx)
 case first =>
  go_wp2_with (first
   | (with_reducible refine wpList_load_row rfl 53 (.tmp 1) rfl b1 rfl 53 V (0, 0) _ HXV.out Try.underlying53 rfl HVI.out ?_)
   | (go_at_call 48; (with_reducible refine hpl.mono ?_); rintro e w2 ⟨lv', rfl, hl2, hb2⟩; have hsm := HSM.out w2 lv' (HDC.out lv' w2 hb2 hl2); have HB2 := Lib.hid hb2; clear hpl hb2 hl2)
   | (go_at_call 36; (refine hsm.mono ?_); rintro e w3 ⟨rfl, hb3⟩; have HB3 := Lib.hid (HB2.out.trans (hb3.mono HB2.out.size)); clear hsm hb3))
  go_meet
  exact ⟨rfl, HB3.out⟩
 case rest =>
 obtain ⟨rfl, hb3⟩ := hcut
 have HB3 := Lib.hid hb3
 clear hb3 hpl HXV
 generalize wc = w3 at *
 cases Z
 ·have hG := HG.out
  subst hG
  go_wp2
  go_ret
  exact ⟨rfl, HB1.out.trans (HB3.out.mono HB1.out.size)⟩
 have HX := Lib.hid (fun W (hW : Below w1.heap.size w1 W) => HX1.out.below hW)
 obtain ⟨c0, c1, c2, c3, c4, c5, c6, c7, c8, c9, c10, c11, c12, c13, c14, c15, c16, c17, c18, c19, c20, c21⟩ := (HX.out w3 HB3.out).box
 rw [hk] at c0
 have hG := HG.out
 rw [Bool.true_and, kindB, if_neg (by rw [hk]; decide), if_neg (by rw [hk]; decide), if_neg (by rw [hk]; decide), if_neg (by rw [hk]; decide), if_neg (by rw [hk]; decide), if_neg (by rw [hk]; decide), if_pos hk] at hG
 clear hk
 have q0 := fun W => year_any c.pk c.py c.px W
 have q1 := fun W => within_any c.nm 0 100 W
 generalize hl0 : (perB c.pk c.py c.px && (c.pk == 3)) = L0 at hG q0
 clear hl0
 have Q0 := Lib.hid q0
 clear q0
 generalize hl1 : inB c.nm 0 100 = L1 at hG q1
 clear hl1
 have Q1 := Lib.hid q1
 clear q1
 have HG2 := Lib.hid hG
 clear hG
 cases L0
 ·skip
  have hG := HG2.out
  subst hG
  go_wp2_with (first | (go_at_call 56; (with_reducible refine (Q0.out _).mono ?_); rintro e wa ⟨rfl, hbx⟩; have HBa := Lib.hid (HB3.out.trans (hbx.mono HB3.out.size)); clear hbx c0 c1 c2 c3 c4 c5 c6 c7 c8 c9 c10 c11 c12 c13 c14 c15 c16 c17 c18 c19 c20 c21; obtain ⟨c0, c1, c2, c3, c4, c5, c6, c7, c8, c9, c10, c11, c12, c13, c14, c15, c16, c17, c18, c19, c20, c21⟩ := (HX.out wa HBa.out).box) | (go_at_call 50; (with_reducible refine (Q1.out _).mono ?_); rintro e wn ⟨rfl, rfl⟩))
  go_ret
  first | exact ⟨rfl, HB1.out.trans (HBa.out.mono HB1.out.size)⟩ | exact ⟨rfl, HB1.out.trans (HB3.out.mono HB1.out.size)⟩
 have hG := HG2.out
 subst hG
 go_wp2_with (first | (go_at_call 56; (with_reducible refine (Q0.out _).mono ?_); rintro e wa ⟨rfl, hbx⟩; have HBa := Lib.hid (HB3.out.trans (hbx.mono HB3.out.size)); clear hbx c0 c1 c2 c3 c4 c5 c6 c7 c8 c9 c10 c11 c12 c13 c14 c15 c16 c17 c18 c19 c20 c21; obtain ⟨c0, c1, c2, c3, c4, c5, c6, c7, c8, c9, c10, c11, c12, c13, c14, c15, c16, c17, c18, c19, c20, c21⟩ := (HX.out wa HBa.out).box) | (go_at_call 50; (with_reducible refine (Q1.out _).mono ?_); rintro e wn ⟨rfl, rfl⟩))
 go_ret
 first | exact ⟨rfl, HB1.out.trans (HBa.out.mono HB1.out.size)⟩ | exact ⟨rfl, HB1.out.trans (HB3.out.mono HB1.out.size)⟩
set_option maxRecDepth 100000 in
set_option maxHeartbeats 16000000 in
theorem good_k8 {w : World} {B : Nat} {v : Value} {c : Cm} (hv : CmV w B v c) (hB : B ≤ w.heap.size) (hl : c.doc.ls.length ≤ 100000) (hk : c.kind = 8) :
  Calls Try.prog 26 #[v] w fun e w' => e = .returned (.bool (goodCB c)) ∧ Below w.heap.size w w' := by
 obtain ⟨A0, m0, V, rfl, HV, HV2, HVI, HB1, HX1, HLS, HOK⟩ := cmd_pre hv hB
 clear hv
 generalize hG : goodCB c = G
 rw [← good_eq] at hG
 have HG := Lib.hid hG
 clear hG
 go_enter Try.func26, Try.ntmps26
 go_upto_region 1 with fail
 generalize World.alloc w _ = w1 at *
 generalize hb : w.heap.size = b1 at HX1 ⊢
 have HBB := Lib.hid hb
 clear hb
 have HXV := Lib.hid (loadV HX1.out HV.out)
 have hpl := plain_any c A0 c.doc.ls.length m0 w1
 rw [HV.out] at hpl
 unfold PlainPost at hpl
 have hsm := hsm_pre HOK
 generalize decide (plainC c = Cm.zero) = Z at hsm HG
 have HSM := Lib.hid hsm
 have HDC := Lib.hid (hdoc_pre (D := (plainC c).doc) HLS HB1 hB)
 clear hsm
 have hw3 : Z = false → True := fun _ => trivial
 clear hw3
 go_cut [7] from 3 to 7 (fun x7 wx => x7 = .bool (!Z) ∧ Below w1.heap.size w1 wx)
 case first =>
  go_wp2_with (first
   | (with_reducible refine wpList_load_row rfl 53 (.tmp 1) rfl b1 rfl 53 V (0, 0) _ HXV.out Try.underlying53 rfl HVI.out ?_)
   | (go_at_call 48; (with_reducible refine hpl.mono ?_); rintro e w2 ⟨lv', rfl, hl2, hb2⟩; have hsm := HSM.out w2 lv' (HDC.out lv' w2 hb2 hl2); have HB2 := Lib.hid hb2; clear hpl hb2 hl2)
   | (go_at_call 36; (refine hsm.mono ?_); rintro e w3 ⟨rfl, hb3⟩; have HB3 := Lib.hid (HB2.out.trans (hb3.mono HB2.out.size)); clear hsm hb3))
  go_meet
  exact ⟨rfl, HB3.out⟩
 case rest =>
 obtain ⟨rfl, hb3⟩ := hcut
 have HB3 := Lib.hid hb3
 clear hb3 hpl HXV
 generalize wc = w3 at *
 cases Z
 ·have hG := HG.out
  subst hG
  go_wp2
  go_ret
  exact ⟨rfl, HB1.out.trans (HB3.out.mono HB1.out.size)⟩
 have HX := Lib.hid (fun W (hW : Below w1.heap.size w1 W) => HX1.out.below hW)
 obtain ⟨c0, c1, c2, c3, c4, c5, c6, c7, c8, c9, c10, c11, c12, c13, c14, c15, c16, c17, c18, c19, c20, c21⟩ := (HX.out w3 HB3.out).box
 rw [hk] at c0
 have hG := HG.out
 rw [Bool.true_and, kindB, if_neg (by rw [hk]; decide), if_neg (by rw [hk]; decide), if_neg (by rw [hk]; decide), if_neg (by rw [hk]; decide), if_neg (by rw [hk]; decide), if_neg (by rw [hk]; decide), if_neg (by rw [hk]; decide), if_pos hk] at hG
 clear hk
 have q0 := fun W (hW : Below w1.heap.size w1 W) => gooddoc_any (w := W) (B := B) (v := .agg (c.doc.vs (.slice A0 c.doc.ls.length m0))) (o := c.doc) ⟨_, rfl, HLS.out W (HB1.out.trans (hW.mono HB1.out.size)), HOK.out.doc⟩ (Nat.le_trans hB (HB1.out.trans (hW.mono HB1.out.size)).size) HOK.out.doc.cty HOK.out.doc.num hl
 simp only [Dm.vs] at q0
 generalize hl0 : goodDocB c.doc = L0 at hG q0
 clear hl0
 have Q0 := Lib.hid q0
 clear q0
 have HG2 := Lib.hid hG
 clear hG
 have hG := HG2.out
 subst hG
 go_wp2_with (first | (go_at_call 28; (with_reducible refine (Q0.out _ HB3.out).mono ?_); rintro e wa ⟨rfl, hbx⟩; have HBa := Lib.hid (HB3.out.trans (hbx.mono HB3.out.size)); clear hbx c0 c1 c2 c3 c4 c5 c6 c7 c8 c9 c10 c11 c12 c13 c14 c15 c16 c17 c18 c19 c20 c21; obtain ⟨c0, c1, c2, c3, c4, c5, c6, c7, c8, c9, c10, c11, c12, c13, c14, c15, c16, c17, c18, c19, c20, c21⟩ := (HX.out wa HBa.out).box))
 go_ret
 first | exact ⟨rfl, HB1.out.trans (HBa.out.mono HB1.out.size)⟩ | exact ⟨rfl, HB1.out.trans (HB3.out.mono HB1.out.size)⟩
set_option maxRecDepth 100000 in
set_option maxHeartbeats 16000000 in
theorem good_k9 {w : World} {B : Nat} {v : Value} {c : Cm} (hv : CmV w B v c) (hB : B ≤ w.heap.size) (_hl : c.doc.ls.length ≤ 100000) (hk : c.kind = 9) :
  Calls Try.prog 26 #[v] w fun e w' => e = .returned (.bool (goodCB c)) ∧ Below w.heap.size w w' := by
 obtain ⟨A0, m0, V, rfl, HV, HV2, HVI, HB1, HX1, HLS, HOK⟩ := cmd_pre hv hB
 clear hv
 generalize hG : goodCB c = G
 rw [← good_eq] at hG
 have HG := Lib.hid hG
 clear hG
 go_enter Try.func26, Try.ntmps26
 go_upto_region 1 with fail
 generalize World.alloc w _ = w1 at *
 generalize hb : w.heap.size = b1 at HX1 ⊢
 have HBB := Lib.hid hb
 clear hb
 have HXV := Lib.hid (loadV HX1.out HV.out)
 have hpl := plain_any c A0 c.doc.ls.length m0 w1
 rw [HV.out] at hpl
 unfold PlainPost at hpl
 have hsm := hsm_pre HOK
 generalize decide (plainC c = Cm.zero) = Z at hsm HG
 have HSM := Lib.hid hsm
 have HDC := Lib.hid (hdoc_pre (D := (plainC c).doc) HLS HB1 hB)
 clear hsm
 have hw3 : Z = false → True := fun _ => trivial
 clear hw3
 go_cut [7] from 3 to 7 (fun x7 wx => x7 = .bool (!Z) ∧ Below w1.heap.size w1 wx)
 case first =>
  go_wp2_with (first
   | (with_reducible refine wpList_load_row rfl 53 (.tmp 1) rfl b1 rfl 53 V (0, 0) _ HXV.out Try.underlying53 rfl HVI.out ?_)
   | (go_at_call 48; (with_reducible refine hpl.mono ?_); rintro e w2 ⟨lv', rfl, hl2, hb2⟩; have hsm := HSM.out w2 lv' (HDC.out lv' w2 hb2 hl2); have HB2 := Lib.hid hb2; clear hpl hb2 hl2)
   | (go_at_call 36; (refine hsm.mono ?_); rintro e w3 ⟨rfl, hb3⟩; have HB3 := Lib.hid (HB2.out.trans (hb3.mono HB2.out.size)); clear hsm hb3))
  go_meet
  exact ⟨rfl, HB3.out⟩
 case rest =>
 obtain ⟨rfl, hb3⟩ := hcut
 have HB3 := Lib.hid hb3
 clear hb3 hpl HXV
 generalize wc = w3 at *
 cases Z
 ·have hG := HG.out
  subst hG
  go_wp2
  go_ret
  exact ⟨rfl, HB1.out.trans (HB3.out.mono HB1.out.size)⟩
 have HX := Lib.hid (fun W (hW : Below w1.heap.size w1 W) => HX1.out.below hW)
 obtain ⟨c0, c1, c2, c3, c4, c5, c6, c7, c8, c9, c10, c11, c12, c13, c14, c15, c16, c17, c18, c19, c20, c21⟩ := (HX.out w3 HB3.out).box
 rw [hk] at c0
 have hG := HG.out
 rw [Bool.true_and, kindB, if_neg (by rw [hk]; decide), if_neg (by rw [hk]; decide), if_neg (by rw [hk]; decide), if_neg (by rw [hk]; decide), if_neg (by rw [hk]; decide), if_neg (by rw [hk]; decide), if_neg (by rw [hk]; decide), if_neg (by rw [hk]; decide), if_pos (.inl hk)] at hG
 clear hk
 have q0 := fun W => pergood_any c.pk c.py c.px W
 generalize hl0 : perB c.pk c.py c.px = L0 at hG q0
 clear hl0
 have Q0 := Lib.hid q0
 clear q0
 generalize e21 : (c.pk == 3) = L1 at hG
 have f21 : (c.pk != 3) = !L1 := by rw [bne, e21]
 have HG2 := Lib.hid hG
 clear hG
 cases L0
 ·skip
  have hG := HG2.out
  subst hG
  go_wp2_with (first | (go_at_call 55; (with_reducible refine (Q0.out _).mono ?_); rintro e wa ⟨rfl, hbx⟩; have HBa := Lib.hid (HB3.out.trans (hbx.mono HB3.out.size)); clear hbx c0 c1 c2 c3 c4 c5 c6 c7 c8 c9 c10 c11 c12 c13 c14 c15 c16 c17 c18 c19 c20 c21; obtain ⟨c0, c1, c2, c3, c4, c5, c6, c7, c8, c9, c10, c11, c12, c13, c14, c15, c16, c17, c18, c19, c20, c21⟩ := (HX.out wa HBa.out).box))
  go_ret
  first | exact ⟨rfl, HB1.out.trans (HBa.out.mono HB1.out.size)⟩ | exact ⟨rfl, HB1.out.trans (HB3.out.mono HB1.out.size)⟩
 have hG := HG2.out
 subst hG
 go_wp2_with (first | (go_at_call 55; (with_reducible refine (Q0.out _).mono ?_); rintro e wa ⟨rfl, hbx⟩; have HBa := Lib.hid (HB3.out.trans (hbx.mono HB3.out.size)); clear hbx c0 c1 c2 c3 c4 c5 c6 c7 c8 c9 c10 c11 c12 c13 c14 c15 c16 c17 c18 c19 c20 c21; obtain ⟨c0, c1, c2, c3, c4, c5, c6, c7, c8, c9, c10, c11, c12, c13, c14, c15, c16, c17, c18, c19, c20, c21⟩ := (HX.out wa HBa.out).box))
 go_ret
 first | exact ⟨rfl, HB1.out.trans (HBa.out.mono HB1.out.size)⟩ | exact ⟨rfl, HB1.out.trans (HB3.out.mono HB1.out.size)⟩
set_option maxRecDepth 100000 in
set_option maxHeartbeats 16000000 in
theorem good_k10 {w : World} {B : Nat} {v : Value} {c : Cm} (hv : CmV w B v c) (hB : B ≤ w.heap.size) (_hl : c.doc.ls.length ≤ 100000) (hk : c.kind = 10) :
  Calls Try.prog 26 #[v] w fun e w' => e = .returned (.bool (goodCB c)) ∧ Below w.heap.size w w' := by
 obtain ⟨A0, m0, V, rfl, HV, HV2, HVI, HB1, HX1, HLS, HOK⟩ := cmd_pre hv hB
 clear hv
 generalize hG : goodCB c = G
 rw [← good_eq] at hG
 have HG := Lib.hid hG
 clear hG
 go_enter Try.func26, Try.ntmps26
 go_upto_region 1 with fail
 generalize World.alloc w _ = w1 at *
 generalize hb : w.heap.size = b1 at HX1 ⊢
 have HBB := Lib.hid hb
 clear hb
 have HXV := Lib.hid (loadV HX1.out HV.out)
 have hpl := plain_any c A0 c.doc.ls.length m0 w1
 rw [HV.out] at hpl
 unfold PlainPost at hpl
 have hsm := hsm_pre HOK
 generalize decide (plainC c = Cm.zero) = Z at hsm HG
 have HSM := Lib.hid hsm
 have HDC := Lib.hid (hdoc_pre (D := (plainC c).doc) HLS HB1 hB)
 clear hsm
 have hw3 : Z = false → True := fun _ => trivial
 clear hw3
 go_cut [7] from 3 to 7 (fun x7 wx => x7 = .bool (!Z) ∧ Below w1.heap.size w1 wx)
 case first =>
  go_wp2_with (first
   | (with_reducible refine wpList_load_row rfl 53 (.tmp 1) rfl b1 rfl 53 V (0, 0) _ HXV.out Try.underlying53 rfl HVI.out ?_)
   | (go_at_call 48; (with_reducible refine hpl.mono ?_); rintro e w2 ⟨lv', rfl, hl2, hb2⟩; have hsm := HSM.out w2 lv' (HDC.out lv' w2 hb2 hl2); have HB2 := Lib.hid hb2; clear hpl hb2 hl2)
   | (go_at_call 36; (refine hsm.mono ?_); rintro e w3 ⟨rfl, hb3⟩; have HB3 := Lib.hid (HB2.out.trans (hb3.mono HB2.out.size)); clear hsm hb3))
  go_meet
  exact ⟨rfl, HB3.out⟩
 case rest =>
 obtain ⟨rfl, hb3⟩ := hcut
 have HB3 := Lib.hid hb3
 clear hb3 hpl HXV
 generalize wc = w3 at *
 cases Z
 ·have hG := HG.out
  subst hG
  go_wp2
  go_ret
  exact ⟨rfl, HB1.out.trans (HB3.out.mono HB1.out.size)⟩
 have HX := Lib.hid (fun W (hW : Below w1.heap.size w1 W) => HX1.out.below hW)
 obtain ⟨c0, c1, c2, c3, c4, c5, c6, c7, c8, c9, c10, c11, c12, c13, c14, c15, c16, c17, c18, c19, c20, c21⟩ := (HX.out w3 HB3.out).box
 rw [hk] at c0
 have hG := HG.out
 rw [Bool.true_and, kindB, if_neg (by rw [hk]; decide), if_neg (by rw [hk]; decide), if_neg (by rw [hk]; decide), if_neg (by rw [hk]; decide), if_neg (by rw [hk]; decide), if_neg (by rw [hk]; decide), if_neg (by rw [hk]; decide), if_neg (by rw [hk]; decide), if_pos (.inr hk)] at hG
 clear hk
 have q0 := fun W => pergood_any c.pk c.py c.px W
 generalize hl0 : perB c.pk c.py c.px = L0 at hG q0
 clear hl0
 have Q0 := Lib.hid q0
 clear q0
 generalize e21 : (c.pk == 3) = L1 at hG
 have f21 : (c.pk != 3) = !L1 := by rw [bne, e21]
 have HG2 := Lib.hid hG
 clear hG
 cases L0
 ·skip
  have hG := HG2.out
  subst hG
  go_wp2_with (first | (go_at_call 55; (with_reducible refine (Q0.out _).mono ?_); rintro e wa ⟨rfl, hbx⟩; have HBa := Lib.hid (HB3.out.trans (hbx.mono HB3.out.size)); clear hbx c0 c1 c2 c3 c4 c5 c6 c7 c8 c9 c10 c11 c12 c13 c14 c15 c16 c17 c18 c19 c20 c21; obtain ⟨c0, c1, c2, c3, c4, c5, c6, c7, c8, c9, c10, c11, c12, c13, c14, c15, c16, c17, c18, c19, c20, c21⟩ := (HX.out wa HBa.out).box))
  go_ret
  first | exact ⟨rfl, HB1.out.trans (HBa.out.mono HB1.out.size)⟩ | exact ⟨rfl, HB1.out.trans (HB3.out.mono HB1.out.size)⟩
 have hG := HG2.out
 subst hG
 go_wp2_with (first | (go_at_call 55; (with_reducible refine (Q0.out _).mono ?_); rintro e wa ⟨rfl, hbx⟩; have HBa := Lib.hid (HB3.out.trans (hbx.mono HB3.out.size)); clear hbx c0 c1 c2 c3 c4 c5 c6 c7 c8 c9 c10 c11 c12 c13 c14 c15 c16 c17 c18 c19 c20 c21; obtain ⟨c0, c1, c2, c3, c4, c5, c6, c7, c8, c9, c10, c11, c12, c13, c14, c15, c16, c17, c18, c19, c20, c21⟩ := (HX.out wa HBa.out).box))
 go_ret
 first | exact ⟨rfl, HB1.out.trans (HBa.out.mono HB1.out.size)⟩ | exact ⟨rfl, HB1.out.trans (HB3.out.mono HB1.out.size)⟩
set_option maxRecDepth 100000 in
set_option maxHeartbeats 16000000 in
theorem good_k11 {w : World} {B : Nat} {v : Value} {c : Cm} (hv : CmV w B v c) (hB : B ≤ w.heap.size) (_hl : c.doc.ls.length ≤ 100000) (hk : c.kind = 11) :
  Calls Try.prog 26 #[v] w fun e w' => e = .returned (.bool (goodCB c)) ∧ Below w.heap.size w w' := by
 obtain ⟨A0, m0, V, rfl, HV, HV2, HVI, HB1, HX1, HLS, HOK⟩ := cmd_pre hv hB
 clear hv
 generalize hG : goodCB c = G
 rw [← good_eq] at hG
 have HG := Lib.hid hG
 clear hG
 go_enter Try.func26, Try.ntmps26
 go_upto_region 1 with fail
 generalize World.alloc w _ = w1 at *
 generalize hb : w.heap.size = b1 at HX1 ⊢
 have HBB := Lib.hid hb
 clear hb
 have HXV := Lib.hid (loadV HX1.out HV.out)
 have hpl := plain_any c A0 c.doc.ls.length m0 w1
 rw [HV.out] at hpl
 unfold PlainPost at hpl
 have hsm := hsm_pre HOK
 generalize decide (plainC c = Cm.zero) = Z at hsm HG
 have HSM := Lib.hid hsm
 have HDC := Lib.hid (hdoc_pre (D := (plainC c).doc) HLS HB1 hB)
 clear hsm
 have hw3 : Z = false → True := fun _ => trivial
 clear hw3
 go_cut [7] from 3 to 7 (fun x7 wx => x7 = .bool (!Z) ∧ Below w1.heap.size w1 wx)
 case first =>
  go_wp2_with (first
   | (with_reducible refine wpList_load_row rfl 53 (.tmp 1) rfl b1 rfl 53 V (0, 0) _ HXV.out Try.underlying53 rfl HVI.out ?_)
   | (go_at_call 48; (with_reducible refine hpl.mono ?_); rintro e w2 ⟨lv', rfl, hl2, hb2⟩; have hsm := HSM.out w2 lv' (HDC.out lv' w2 hb2 hl2); have HB2 := Lib.hid hb2; clear hpl hb2 hl2)
   | (go_at_call 36; (refine hsm.mono ?_); rintro e w3 ⟨rfl, hb3⟩; have HB3 := Lib.hid (HB2.out.trans (hb3.mono HB2.out.size)); clear hsm hb3))
  go_meet
  exact ⟨rfl, HB3.out⟩
 case rest =>
 obtain ⟨rfl, hb3⟩ := hcut
 have HB3 := Lib.hid hb3
 clear hb3 hpl HXV
 generalize wc = w3 at *
 cases Z
 ·have hG := HG.out
  subst hG
  go_wp2
  go_ret
  exact ⟨rfl, HB1.out.trans (HB3.out.mono HB1.out.size)⟩
 have HX := Lib.hid (fun W (hW : Below w1.heap.size w1 W) => HX1.out.below hW)
 obtain ⟨c0, c1, c2, c3, c4, c5, c6, c7, c8, c9, c10, c11, c12, c13, c14, c15, c16, c17, c18, c19, c20, c21⟩ := (HX.out w3 HB3.out).box
 rw [hk] at c0
 have hG := HG.out
 rw [Bool.true_and, kindB, if_neg (by rw [hk]; decide), if_neg (by rw [hk]; decide), if_neg (by rw [hk]; decide), if_neg (by rw [hk]; decide), if_neg (by rw [hk]; decide), if_neg (by rw [hk]; decide), if_neg (by rw [hk]; decide), if_neg (by rw [hk]; decide), if_neg (by rw [hk]; decide), if_pos hk] at hG
 clear hk
 have q0 := fun W => year_any c.pk c.py c.px W
 generalize hl0 : (perB c.pk c.py c.px && (c.pk == 3)) = L0 at hG q0
 clear hl0
 have Q0 := Lib.hid q0
 clear q0
 have HG2 := Lib.hid hG
 clear hG
 have hG := HG2.out
 subst hG
 go_wp2_with (first | (go_at_call 56; (with_reducible refine (Q0.out _).mono ?_); rintro e wa ⟨rfl, hbx⟩; have HBa := Lib.hid (HB3.out.trans (hbx.mono HB3.out.size)); clear hbx c0 c1 c2 c3 c4 c5 c6 c7 c8 c9 c10 c11 c12 c13 c14 c15 c16 c17 c18 c19 c20 c21; obtain ⟨c0, c1, c2, c3, c4, c5, c6, c7, c8, c9, c10, c11, c12, c13, c14, c15, c16, c17, c18, c19, c20, c21⟩ := (HX.out wa HBa.out).box))
 go_ret
 first | exact ⟨rfl, HB1.out.trans (HBa.out.mono HB1.out.size)⟩ | exact ⟨rfl, HB1.out.trans (HB3.out.mono HB1.out.size)⟩
set_option maxRecDepth 100000 in
set_option maxHeartbeats 16000000 in
theorem good_k0 {w : World} {B : Nat} {v : Value} {c : Cm} (hv : CmV w B v c) (hB : B ≤ w.heap.size) (_hl : c.doc.ls.length ≤ 100000) (h1 : ¬ c.kind = 1) (h2 : ¬ c.kind = 2) (h3 : ¬ c.kind = 3) (h4 : ¬ c.kind = 4) (h5 : ¬ c.kind = 5) (h6 : ¬ c.kind = 6) (h7 : ¬ c.kind = 7) (h8 : ¬ c.kind = 8) (h9 : ¬ c.kind = 9) (h10 : ¬ c.kind = 10) (h11 : ¬ c.kind = 11) :
  Calls Try.prog 26 #[v] w fun e w' => e = .returned (.bool (goodCB c)) ∧ Below w.heap.size w w' := by
 obtain ⟨A0, m0, V, rfl, HV, HV2, HVI, HB1, HX1, HLS, HOK⟩ := cmd_pre hv hB
 clear hv
 generalize hG : goodCB c = G
 rw [← good_eq] at hG
 have HG := Lib.hid hG
 clear hG
 go_enter Try.func26, Try.ntmps26
 go_upto_region 1 with fail
 generalize World.alloc w _ = w1 at *
 generalize hb : w.heap.size = b1 at HX1 ⊢
 have HBB := Lib.hid hb
 clear hb
 have HXV := Lib.hid (loadV HX1.out HV.out)
 have hpl := plain_any c A0 c.doc.ls.length m0 w1
 rw [HV.out] at hpl
 unfold PlainPost at hpl
 have hsm := hsm_pre HOK
 generalize decide (plainC c = Cm.zero) = Z at hsm HG
 have HSM := Lib.hid hsm
 have HDC := Lib.hid (hdoc_pre (D := (plainC c).doc) HLS HB1 hB)
 clear hsm
 have hw3 : Z = false → True := fun _ => trivial
 clear hw3
 go_cut [7] from 3 to 7 (fun x7 wx => x7 = .bool (!Z) ∧ Below w1.heap.size w1 wx)
 case first =>
  go_wp2_with (first
   | (with_reducible refine wpList_load_row rfl 53 (.tmp 1) rfl b1 rfl 53 V (0, 0) _ HXV.out Try.underlying53 rfl HVI.out ?_)
   | (go_at_call 48; (with_reducible refine hpl.mono ?_); rintro e w2 ⟨lv', rfl, hl2, hb2⟩; have hsm := HSM.out w2 lv' (HDC.out lv' w2 hb2 hl2); have HB2 := Lib.hid hb2; clear hpl hb2 hl2)
   | (go_at_call 36; (refine hsm.mono ?_); rintro e w3 ⟨rfl, hb3⟩; have HB3 := Lib.hid (HB2.out.trans (hb3.mono HB2.out.size)); clear hsm hb3))
  go_meet
  exact ⟨rfl, HB3.out⟩
 case rest =>
 obtain ⟨rfl, hb3⟩ := hcut
 have HB3 := Lib.hid hb3
 clear hb3 hpl HXV
 generalize wc = w3 at *
 cases Z
 ·have hG := HG.out
  subst hG
  go_wp2
  go_ret
  exact ⟨rfl, HB1.out.trans (HB3.out.mono HB1.out.size)⟩
 have HX := Lib.hid (fun W (hW : Below w1.heap.size w1 W) => HX1.out.below hW)
 obtain ⟨c0, c1, c2, c3, c4, c5, c6, c7, c8, c9, c10, c11, c12, c13, c14, c15, c16, c17, c18, c19, c20, c21⟩ := (HX.out w3 HB3.out).box
 have hG := HG.out
 rw [Bool.true_and, kindB, if_neg h1, if_neg h2, if_neg h3, if_neg h4, if_neg h5, if_neg h6, if_neg h7, if_neg h8, if_neg (by rintro (h | h); exact h9 h; exact h10 h), if_neg h11] at hG
 have e1 : (c.kind == 1) = false := by rw [beq_eq_false_iff_ne]; exact h1
 have e2 : (c.kind == 2) = false := by rw [beq_eq_false_iff_ne]; exact h2
 have e3 : (c.kind == 3) = false := by rw [beq_eq_false_iff_ne]; exact h3
 have e4 : (c.kind == 4) = false := by rw [beq_eq_false_iff_ne]; exact h4
 have e5 : (c.kind == 5) = false := by rw [beq_eq_false_iff_ne]; exact h5
 have e6 : (c.kind == 6) = false := by rw [beq_eq_false_iff_ne]; exact h6
 have e7 : (c.kind == 7) = false := by rw [beq_eq_false_iff_ne]; exact h7
 have e8 : (c.kind == 8) = false := by rw [beq_eq_false_iff_ne]; exact h8
 have e9 : (c.kind == 9) = false := by rw [beq_eq_false_iff_ne]; exact h9
 have e10 : (c.kind == 10) = false := by rw [beq_eq_false_iff_ne]; exact h10
 have e11 : (c.kind == 11) = false := by rw [beq_eq_false_iff_ne]; exact h11
 clear h1 h2 h3 h4 h5 h6 h7 h8 h9 h10 h11
 have HG2 := Lib.hid hG
 clear hG
 have hG := HG2.out
 subst hG
 go_wp2
 go_ret
 first | exact ⟨rfl, HB1.out.trans (HB3.out.mono HB1.out.size)⟩
theorem good_any {w : World} {B : Nat} {v : Value} {c : Cm} (hv : CmV w B v c) (hB : B ≤ w.heap.size) (hl : c.doc.ls.length ≤ 100000) :
  Calls Try.prog 26 #[v] w fun e w' => e = .returned (.bool (goodCB c)) ∧ Below w.heap.size w w' := by
 by_cases h1 : c.kind = 1
 ·exact good_k1 hv hB hl h1
 by_cases h2 : c.kind = 2
 ·exact good_k2 hv hB hl h2
 by_cases h3 : c.kind = 3
 ·exact good_k3 hv hB hl h3
 by_cases h4 : c.kind = 4
 ·exact good_k4 hv hB hl h4
 by_cases h5 : c.kind = 5
 ·exact good_k5 hv hB hl h5
 by_cases h6 : c.kind = 6
 ·exact good_k6 hv hB hl h6
 by_cases h7 : c.kind = 7
 ·exact good_k7 hv hB hl h7
 by_cases h8 : c.kind = 8
 ·exact good_k8 hv hB hl h8
 by_cases h9 : c.kind = 9
 ·exact good_k9 hv hB hl h9
 by_cases h10 : c.kind = 10
 ·exact good_k10 hv hB hl h10
 by_cases h11 : c.kind = 11
 ·exact good_k11 hv hB hl h11
 exact good_k0 hv hB hl h1 h2 h3 h4 h5 h6 h7 h8 h9 h10 h11
end Go.Proofs.Ytnfpmobmfcgfnaa

