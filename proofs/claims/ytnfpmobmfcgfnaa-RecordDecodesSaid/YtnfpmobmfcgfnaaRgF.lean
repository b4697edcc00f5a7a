/- THE LAW RecordDecodes, WALKED. -/
import Derived.Test.YtnfpmobmfcgfnaaRgC
import Derived.Test.YtnfpmobmfcgfnaaRgB
namespace Go.Proofs.Ytnfpmobmfcgfnaa
open Go.RowKit
/-- a decoder's answer, by the command and the error's number -/
def DecP (C : Cm) (n : Int) (w : World) (e : Ending) (w' : World) : Prop :=
 ∃ lv, e = .returned (.tuple #[.agg (C.vs lv), .int .i64 n]) ∧ OwN lnK w' w.heap.size lv C.doc.ls ∧ Below w.heap.size w w'
theorem DecPost.p {o : Option Cm} {C : Cm} {n : Int} {w w' : World} {e : Ending} (h : DecPost o w e w') (hC : o.getD Cm.zero = C) (hn : (if o.isSome then (0 : Int) else 10) = n) : DecP C n w e w' := by
 subst hC hn
 obtain ⟨lv, rfl, h1, h2⟩ := h
 exact ⟨lv, by cases o <;> rfl, h1, h2⟩
set_option maxRecDepth 100000 in
set_option maxHeartbeats 16000000 in
theorem decodes_law {w : World} {B : Nat} (v : Value) (L : List UInt8) (hL0 : Byt w B v L) : Calls Try.prog 8 #[v] w (LawPost8 w) := by
  have hL := hL0.heap
  obtain ⟨A, c0, rfl, hc0, hm0, _⟩ := id hL
  unfold maxLen at hm0
  clear hL0
  by_cases hbig : 10000 < L.length
  · have d1 : decide ((10000 : Int) < (L.length : Int)) = true := decide_eq_true (by omega)
    clear hL
    go_enter Try.func8, Try.ntmps8
    go_wp2_with (go_at_call 25; (with_reducible refine (lives8_any _).mono ?_); rintro e w4 ⟨rfl, hb4⟩)
    go_ret
    exact ⟨rfl, hb4⟩
  have d1 : decide ((10000 : Int) < (L.length : Int)) = false := decide_eq_false (by omega)
  obtain ⟨C, hC⟩ : ∃ C, (decS L).getD Cm.zero = C := ⟨_, rfl⟩
  obtain ⟨n, hn⟩ : ∃ n, (if (decS L).isSome then (0 : Int) else 10) = n := ⟨_, rfl⟩
  have hCo : C.ok ∧ C.doc.ls.length ≤ 100000 := by
    cases h : decS L with
    | none => rw [h] at hC; subst hC; exact ⟨Cm.zero_ok, Nat.zero_le _⟩
    | some c => rw [h] at hC; subst hC; exact ⟨(decS_ok h).1, Nat.le_trans (decS_ok h).2 (by decide)⟩
  have hgood : (n = 10) ∨ (n = 0 ∧ goodCB C = true ∧ encL C = L) := by
    cases h : decS L with
    | none => rw [h] at hn; exact .inl hn.symm
    | some c => rw [h] at hC hn; subst hC; exact .inr ⟨hn.symm, decS_back h⟩
  have hde := (decode_any hL (Nat.le_refl _)).mono fun e w' h => DecPost.p h hC hn
  have hrd := fun W (hW : Below w.heap.size w W) => (rdecode_any (hL.below hW).heap (Nat.le_refl _)).mono fun e w' h => DecPost.p h (C := C) (n := n) (by rw [← decS_eq]; exact hC) (by rw [← decS_eq]; exact hn)
  unfold DecP at hde hrd
  have HOK := Lib.hid hCo.1
  have HMA := Lib.hid hCo.2
  have HGO := Lib.hid hgood
  have HRD := Lib.hid hrd
  have HL := Lib.hid hL
  clear hC hn hCo hgood hrd hL
  go_enter Try.func8, Try.ntmps8
  go_upto_region 4 with (first
    | (go_at_call 33; (with_reducible refine hde.mono ?_); rintro e w6 ⟨lu, rfl, how, hb6⟩
       have HB6 := Lib.hid hb6
       obtain ⟨A1, c1, rfl, _, _⟩ := how.sl.form
       have HBX := Lib.hid (LE1.box (how.sl.lns HOK.out.doc.ls))
       clear how hb6 hde
       generalize hU : C.vs (.slice A1 C.doc.ls.length c1) = U at HBX ⊢
       have HU := Lib.hid hU
       have HU1 := Lib.hid (show U.all (·.oneCell') = true by rw [← hU]; exact cm_one _ _ _ _)
       have HU2 := Lib.hid (show U.size = 22 by rw [← hU]; rfl)
       have HUI := Lib.hid (show (Try.prog.info? 53).map (·.size) = some U.size by rw [HU2.out, cm_info])
       clear hU)
    | ((with_reducible show wpList _ _ _ (⟨none, .store _ _ _, _, _, _, _⟩ :: _) _ _); go_must (refine wpList_store_row rfl 53 (.tmp 3) (.tmp 16) rfl w6.heap.size U rfl rfl 53 _ (heap_alloc_new w6 _) HUI.out (by rw [HU2.out]; rfl) HU1.out ?_)))
  rw [zero_vs]
  have HY7 := Lib.hid HBX.out.1
  have HB7 := Lib.hid (HB6.out.trans (HBX.out.2.mono HB6.out.size))
  generalize w6.heap.size = b6 at *
  generalize World.setRow _ _ _ = w7 at HY7 HB7 ⊢
  clear HBX HB6
  have hde := HRD.out w7 HB7.out
  go_upto_region 5 with (first
    | (go_at_call 35; (with_reducible refine hde.mono ?_); rintro e w8 ⟨lx, rfl, how, hb8⟩
       have HB8 := Lib.hid hb8
       obtain ⟨A2, c2, rfl, _, _⟩ := how.sl.form
       have HBX := Lib.hid (LE1.box (how.sl.lns HOK.out.doc.ls))
       clear how hb8 hde
       generalize hX : C.vs (.slice A2 C.doc.ls.length c2) = X at HBX ⊢
       have HX := Lib.hid hX
       have HX1 := Lib.hid (show X.all (·.oneCell') = true by rw [← hX]; exact cm_one _ _ _ _)
       have HX2 := Lib.hid (show X.size = 22 by rw [← hX]; rfl)
       have HXI := Lib.hid (show (Try.prog.info? 53).map (·.size) = some X.size by rw [HX2.out, cm_info])
       clear hX)
    | ((with_reducible show wpList _ _ _ (⟨none, .store _ _ _, _, _, _, _⟩ :: _) _ _); go_must (refine wpList_store_row rfl 53 (.tmp 5) (.tmp 21) rfl w8.heap.size X rfl rfl 53 _ (heap_alloc_new w8 _) HXI.out (by rw [HX2.out]; rfl) HX1.out ?_)))
  rw [zero_vs]
  have HZ9 := Lib.hid HBX.out.1
  have HB9 := Lib.hid (HB8.out.trans (HBX.out.2.mono HB8.out.size))
  have HY9 := Lib.hid (HY7.out.below HB9.out)
  have HBA := Lib.hid (HB7.out.trans (HB9.out.mono HB7.out.size))
  have HL9 := Lib.hid (HL.out.below HBA.out).heap
  generalize w8.heap.size = b8 at *
  generalize World.setRow _ _ _ = w9 at HZ9 HY9 HBA HL9 HB9 ⊢
  clear HBX HB8 HB9 HY7 HB7 HRD HL
  have HL1 := Lib.hid (loadV HY9.out.bx HU.out)
  have HL2 := Lib.hid (loadV HZ9.out.bx HX.out)
  have hsm := rcsame_any (HY9.out.val HU.out HOK.out) (Nat.le_refl _) (HZ9.out.val HX.out HOK.out) (Nat.le_refl _) HMA.out
  rw [decide_eq_true rfl] at hsm
  go_upto_region 7 with (first
    | ((with_reducible show wpList _ _ _ (⟨some 27, _, _, _, _, _⟩ :: _) _ _); go_must (refine wpList_load_want rfl 53 (.tmp 3) rfl b6 rfl 53 U (0, 0) _ HL1.out Try.underlying53 rfl HUI.out ?_))
    | ((with_reducible show wpList _ _ _ (⟨some 28, _, _, _, _, _⟩ :: _) _ _); go_must (refine wpList_load_want rfl 53 (.tmp 5) rfl b8 rfl 53 X (0, 0) _ HL2.out Try.underlying53 rfl HXI.out ?_))
    | (go_at_call 34; (with_reducible refine hsm.mono ?_); rintro e w10 ⟨rfl, hbx⟩; have HBC := Lib.hid (HBA.out.trans (hbx.mono HBA.out.size)); have HYA := Lib.hid (HY9.out.below hbx); have HLA := Lib.hid (HL9.out.below hbx).heap; clear hbx hsm))
  clear HL1 HL2 HZ9 HY9 HL9 HBA
  rcases HGO.out with hn | ⟨hn, hg, he⟩
  · subst hn
    clear HGO
    go_wp2_with (go_at_call 25; (with_reducible refine (lives8_any _).mono ?_); rintro e w11 ⟨rfl, hb9⟩)
    go_ret
    exact ⟨rfl, HBC.out.trans (hb9.mono HBC.out.size)⟩
  · subst hn
    have hen := encode_good (HYA.out.val HU.out HOK.out) (Nat.le_refl _) HMA.out hg
    rw [he] at hen
    have hgo := fun W (hW : Below w10.heap.size w10 W) => good_any ((HYA.out.below hW).val HU.out HOK.out) (Nat.le_refl _) HMA.out
    rw [hg] at hgo
    have HGG := Lib.hid hgo
    have HLW := Lib.hid (fun W (hW : Below w10.heap.size w10 W) => loadV (HYA.out.below hW).bx HU.out)
    have HL1 := Lib.hid (loadV HYA.out.bx HU.out)
    clear HGO hg he hgo
    go_wp2_with (first
      | (with_reducible refine wpList_load_row rfl 53 (.tmp 3) rfl b6 rfl 53 U (0, 0) _ HL1.out Try.underlying53 rfl HUI.out ?_)
      | (go_at_call 31; (with_reducible refine hen.mono ?_); rintro e w11 ⟨r, rfl, hor, hb11⟩; have HB11 := Lib.hid hb11; have hs1 := hor.byt.str; have hs2 := (HLA.out.below hb11).str; have HL3 := Lib.hid (HLW.out w11 hb11); have hgg := HGG.out w11 hb11; clear hor hb11 hen)
      | ((with_reducible show wpList _ _ _ (⟨some 50, _, _, _, _, _⟩ :: _) _ _); go_must (refine wpList_load_want rfl 53 (.tmp 3) rfl b6 rfl 53 U (0, 0) _ HL3.out Try.underlying53 rfl HUI.out ?_))
      | (go_at_call 26; (with_reducible refine hgg.mono ?_); rintro e w12 ⟨rfl, hb12⟩; have HB12 := Lib.hid (HB11.out.trans (hb12.mono HB11.out.size)); clear hb12 hgg)
      | (go_at_call 25; (with_reducible refine (lives8_any _).mono ?_); rintro e w13 ⟨rfl, hb13⟩))
    go_ret
    have h2 := HBC.out.trans (HB12.out.mono HBC.out.size)
    exact ⟨rfl, h2.trans (hb13.mono h2.size)⟩
end Go.Proofs.Ytnfpmobmfcgfnaa

