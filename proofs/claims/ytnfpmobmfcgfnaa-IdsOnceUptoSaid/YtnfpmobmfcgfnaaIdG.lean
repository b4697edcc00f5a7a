/- THE WALK OF octroiref29.Check. -/
import Derived.Test.YtnfpmobmfcgfnaaIdF
import Derived.Test.YtnfpmobmfcgfnaaGdC
namespace Go.Proofs.Ytnfpmobmfcgfnaa
open Go.RowKit
theorem refersB_some {docs : List Dm} {d x : Dm} (h : findD docs d.ref.data.toList = some x) :
    refersB docs d = (!x.cred && (x.sale == d.sale) && (x.cty.toList == d.cty.toList) && (x.num.toList == d.num.toList) && (x.cur.toList == d.cur.toList) && decide (x.day ≤ d.day)) := by
  unfold refersB
  rw [h]
  simp only
  rw [Bool.eq_iff_iff]
  simp only [Bool.and_eq_true, decide_eq_true_eq, beq_iff_eq, toL_iff, and_assoc]
  unfold ofEq
  simp only [and_assoc]
set_option maxRecDepth 100000 in
set_option maxHeartbeats 8000000 in
theorem rcheck29_any {w : World} {B B' : Nat} {v u : Value} {os : List Dm} (hs : Docs w B v os) (hB : B ≤ w.heap.size) (hl : os.length ≤ 1000000) {d : Dm} (hv : DmV w B' u d) (hB' : B' ≤ w.heap.size) (hlim : d.lim) :
    Calls Try.prog 19 #[v, u] w fun e w' => e = .returned (.int .i64 (checkD os d)) ∧ Below w.heap.size w w' := by
  obtain ⟨A, c, rfl, hcl, hcm⟩ := hs.form
  obtain ⟨lv, rfl, hls, hd⟩ := hv
  have hb1 := (Below.refl w.heap.size w).alloc (Nat.le_refl _) (.cells (d.vs lv) 25)
  have hbx := DBox.made w d lv
  have hgood := rgooddoc_any (w := w.alloc (.cells (d.vs lv) 25)) (B := w.heap.size) (v := .agg (d.vs lv)) (o := d) ⟨lv, rfl, (hls.more hB').below hb1, hd⟩ hb1.size hlim.num hlim.ls
  have hfind := fun (W : World) (hW : Below w.heap.size w W) (s : ByteArray) => rfind29_any (hs.below (hW.mono hB)) hl s
  generalize hR : checkD os d = R
  unfold checkD at hR
  have hrf := fun x => @refersB_some os d x
  have hrn : findD os d.ref.data.toList = none → refersB os d = false := fun h => by unfold refersB; rw [h]
  have hp1 := posL_cases os d.id.data.toList 0
  have hp2 := posL_cases os d.ref.data.toList 0
  generalize goodDocB d = G at *
  generalize refersB os d = F at *
  have HF1 := Lib.hid (fun W hW => hfind W hW d.id)
  have HF2 := Lib.hid (fun W hW => hfind W hW d.ref)
  have HR := Lib.hid hR
  have HRF := Lib.hid hrf
  have HRN := Lib.hid hrn
  have HP1 := Lib.hid hp1
  have HP2 := Lib.hid hp2
  have HS := Lib.hid (fun W (hW : Below w.heap.size w W) => hs.below (hW.mono hB))
  have HBX := Lib.hid (fun W (hW : Below (w.alloc (.cells (d.vs lv) 25)).heap.size (w.alloc (.cells (d.vs lv) 25)) W) => hbx.below hW)
  have HB1 := Lib.hid hb1
  obtain ⟨id, sale, cred, ref, day, cty, num, cur, ls⟩ := d
  simp only [Dm.vs] at *
  clear hs hls hd hb1 hbx hfind hR hrf hrn hp1 hp2 hlim
  go_enter Try.func19, Try.ntmps19
  go_upto_region 1 with fail
  generalize World.alloc w _ = w1 at *
  obtain ⟨y0, y1, y2, y3, y4, y5, y6, y7, y8⟩ := HBX.out w1 (Below.refl _ _)
  simp only at y0 y1 y2 y3 y4 y5 y6 y7 y8
  have hR := HR.out
  cases G
  · rw [if_pos rfl] at hR
    subst hR
    go_wp2_with (go_at_call 14; (with_reducible refine hgood.mono ?_); rintro e w2 ⟨rfl, hb2⟩)
    go_ret
    exact ⟨rfl, HB1.out.trans (hb2.mono HB1.out.size)⟩
  rw [if_neg (by simp)] at hR
  have HR2 := Lib.hid hR
  clear hR HR
  go_upto_region 3 with (go_at_call 14; (with_reducible refine hgood.mono ?_); rintro e w2 ⟨rfl, hb2⟩)
  have hb2' := HB1.out.trans (hb2.mono HB1.out.size)
  have HB2 := Lib.hid hb2'
  obtain ⟨y0, y1, y2, y3, y4, y5, y6, y7, y8⟩ := HBX.out w2 hb2
  simp only at y0 y1 y2 y3 y4 y5 y6 y7 y8
  have hf1 := HF1.out w2 hb2'
  have hf2 := HF2.out w2 hb2'
  have HS2 := Lib.hid (HS.out w2 hb2')
  have HBX2 := Lib.hid (HBX.out w2 hb2)
  clear hgood hb2 hb2' HBX HF1 HF2 HS
  have hR := HR2.out
  rcases HP1.out with ⟨hp, hfd⟩ | ⟨i, o, hi, hp, hfd⟩
  case inr =>
    rw [hfd] at hR
    simp only [Option.isSome_some, if_true] at hR
    subst hR
    rw [hp] at hf1
    rw [Nat.zero_add] at hf1
    have i1 : (0 : Int) ≤ (i : Int) := by omega
    clear hp hfd hi
    go_wp2_with (go_at_call 20; (with_reducible refine hf1.mono ?_); rintro e w3 ⟨rfl, rfl⟩)
    go_ret
    exact ⟨rfl, HB2.out⟩
  rw [hfd] at hR
  rw [hp] at hf1
  simp only [Option.isSome_none, Bool.false_eq_true, if_false] at hR
  have HR3 := Lib.hid hR
  clear hp hfd HR2 HP1 hR
  cases cred
  · have hR := HR3.out
    simp only [Bool.false_and, Bool.false_eq_true, if_false] at hR
    subst hR
    go_wp2_with (go_at_call 20; (with_reducible refine hf1.mono ?_); rintro e w3 ⟨rfl, rfl⟩)
    go_ret
    exact ⟨rfl, HB2.out⟩
  go_upto_region 7 with (go_at_call 20; (with_reducible refine hf1.mono ?_); rintro e w3 ⟨rfl, rfl⟩)
  clear hf1
  rcases HP2.out with ⟨hp, hfd⟩ | ⟨i, o, hi, hp, hfd⟩
  · have hR := HR3.out
    rw [HRN.out hfd] at hR
    simp only [Bool.not_false, Bool.and_self, if_true] at hR
    subst hR
    rw [hp] at hf2
    clear hp hfd
    go_wp2_with (go_at_call 20; (with_reducible refine hf2.mono ?_); rintro e w3 ⟨rfl, rfl⟩)
    go_ret
    exact ⟨rfl, HB2.out⟩
  rw [hp, Nat.zero_add] at hf2
  have hil := (List.getElem?_eq_some_iff.1 hi).1
  have hio := (List.getElem?_eq_some_iff.1 hi).2
  obtain ⟨ad, c', t, hv, hadB, hat, hx1, hx2⟩ := HS2.out.at_ i hil
  cases hv
  rw [hio] at hat
  have hrb := HRF.out o hfd
  have HRB := Lib.hid hrb
  obtain ⟨id', sale', cred', ref', day', cty', num', cur', ls'⟩ := o
  obtain ⟨tA, tn, tc⟩ := t
  obtain ⟨x0, x1, x2, x3, x4, x5, x6, x7, x8⟩ := hat
  simp only [triV] at x0 x1 x2 x3 x4 x5 x6 x7 x8
  have i0 : (0 : Int) ≤ (i : Int) := by omega
  have i1 : decide ((i : Int) < 0) = false := decide_eq_false (by omega)
  have i2 : (i : Int) < (os.length : Int) := by omega
  clear hx1 hx2 hp hfd hi hil hio hrb HP2 HRN HRF
  go_upto_region 11 with (go_at_call 20; (with_reducible refine hf2.mono ?_); rintro e w3 ⟨rfl, rfl⟩)
  have hal := (Below.refl w2.heap.size w2).alloc (Nat.le_refl _) (.cells #[.string id', .bool sale', .bool cred', .string ref', .int .i64 day', .string cty', .string num', .string cur', .slice tA tn tc] 25)
  have hbz := DBox.made w2 ⟨id', sale', cred', ref', day', cty', num', cur', ls'⟩ (.slice tA tn tc)
  simp only [Dm.vs] at hbz
  have hby := HBX2.out.below hal
  have HB4 := Lib.hid (HB2.out.trans (hal.mono HB2.out.size))
  generalize World.alloc w2 _ = w4 at *
  obtain ⟨z0, z1, z2, z3, z4, z5, z6, z7, z8⟩ := hbz
  obtain ⟨y0, y1, y2, y3, y4, y5, y6, y7, y8⟩ := hby
  simp only at y0 y1 y2 y3 y4 y5 y6 y7 y8 z0 z1 z2 z3 z4 z5 z6 z7 z8
  clear hal x0 x1 x2 x3 x4 x5 x6 x7 x8 hf2
  go_cut [64] from 28 (fun x64 wx => x64 = .bool (!(!cred' && (sale' == sale) && (cty'.toList == cty.toList) && (num'.toList == num.toList) && (cur'.toList == cur.toList) && decide (day' ≤ day))) ∧ w4 = wx)
  case first =>
    cases cred'
    case true =>
      go_wp2
      go_meet
      exact ⟨congrArg Value.bool (by simp), rfl⟩
    by_cases hs : sale' = sale
    case neg =>
      have e1 := bne_of_ne hs
      have e2 : (sale' == sale) = false := by rw [beq_eq_false_iff_ne]; exact hs
      clear hs
      go_wp2
      all_goals (go_meet; exact ⟨congrArg Value.bool (by simp [*]), rfl⟩)
    subst hs
    have e4 : decide (day < day') = !decide (day' ≤ day) := by rw [Bool.eq_iff_iff]; simp
    go_wp2
    all_goals (go_meet; exact ⟨congrArg Value.bool (by simp [*]), rfl⟩)
  case rest =>
  obtain ⟨rfl, rfl⟩ := hcut
  have hR := HR3.out
  rw [HRB.out] at hR
  generalize (!cred' && (sale' == sale) && (cty'.toList == cty.toList) && (num'.toList == num.toList) && (cur'.toList == cur.toList) && decide (day' ≤ day)) = X at *
  cases X
  · simp only [Bool.not_false, Bool.and_self, if_true] at hR
    subst hR
    go_wp2
    go_ret
    exact ⟨rfl, HB4.out⟩
  · simp only [Bool.not_true, Bool.and_false, Bool.false_eq_true, if_false] at hR
    subst hR
    go_wp2
    go_ret
    exact ⟨rfl, HB4.out⟩
end Go.Proofs.Ytnfpmobmfcgfnaa
