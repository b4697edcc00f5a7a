/- THE LAW RecordEncodes, WALKED. -/
import Derived.Test.YtnfpmobmfcgfnaaRgC
import Derived.Test.YtnfpmobmfcgfnaaPm
import Derived.Test.YtnfpmobmfcgfnaaReN
namespace Go.Proofs.Ytnfpmobmfcgfnaa
open Go.RowKit
theorem nil_str (w : World) : (convert 59 9 (.slice none 0 0)).run Try.prog w = .ok (.string ⟨#[]⟩) w := Byt.str (B := 0) (l := []) ⟨none, 0, rfl, Nat.le_refl _, by simp [maxLen], fun h => absurd h (by simp)⟩
set_option maxRecDepth 100000 in
set_option maxHeartbeats 16000000 in
theorem encodes_law {w : World} (v : Value) (c : Cm) (hv : CmV w w.heap.size v c) : Calls Try.prog 7 #[v] w (LawPost8 w) := by
  obtain ⟨lv, rfl, hls, hok⟩ := hv
  obtain ⟨A0, m0, rfl, _, _⟩ := hls.form
  have hb1 := (Below.refl w.heap.size w).alloc (Nat.le_refl _) (.cells (c.vs (.slice A0 c.doc.ls.length m0)) 53)
  have hx1 := CBlk.made w c (.slice A0 c.doc.ls.length m0)
  have HX := Lib.hid (show LE1 (w.alloc (.cells (c.vs (.slice A0 c.doc.ls.length m0)) 53)) w.heap.size c (.slice A0 c.doc.ls.length m0) from ⟨hx1, (hls.below hb1).more hb1.size⟩)
  have HB := Lib.hid hb1
  have HOK := Lib.hid hok
  generalize hV : c.vs (.slice A0 c.doc.ls.length m0) = V at *
  have HV := Lib.hid hV
  have HV2 := Lib.hid (show V.size = 22 by rw [← hV]; rfl)
  have HVI := Lib.hid (show (Try.prog.info? 53).map (·.size) = some V.size by rw [HV2.out, cm_info])
  clear hls hok hb1 hx1 hV
  go_enter Try.func7, Try.ntmps7
  go_upto_region 1 with fail
  generalize World.alloc w _ = w1 at *
  generalize hbb : w.heap.size = b1 at HX ⊢
  have HBB := Lib.hid hbb
  clear hbb
  have HXV := Lib.hid (loadV HX.out.bx HV.out)
  have hlg := light8_any (HX.out.val HV.out HOK.out) (Nat.le_refl _)
  unfold LightPost at hlg
  have HLG := Lib.hid hlg
  clear hlg
  go_upto_region 3 with (first
    | (with_reducible refine wpList_load_row rfl 53 (.tmp 1) rfl b1 rfl 53 V (0, 0) _ HXV.out Try.underlying53 rfl HVI.out ?_)
    | (go_at_call 24; (with_reducible refine HLG.out.mono ?_); rintro e w3 ⟨b, rfl, hb, hb3⟩; have HLI := Lib.hid hb; have HB3 := Lib.hid hb3; clear hb hb3 HLG HXV; cases b)
    | (go_at_call 25; (with_reducible refine (lives8_any _).mono ?_); rintro e w4 ⟨rfl, hb4⟩))
  · go_ret
    exact ⟨rfl, (HB.out.trans (HB3.out.mono HB.out.size)).trans (hb4.mono (Nat.le_trans HB.out.size HB3.out.size))⟩
  have HMA := Lib.hid (show c.doc.ls.length ≤ 100000 from Nat.le_trans (HLI.out (by simp)).2.2 (by decide))
  have HB4 := Lib.hid (HB.out.trans (HB3.out.mono HB.out.size))
  have HX3 := Lib.hid (HX.out.below HB3.out)
  have HXV := Lib.hid (loadV HX3.out.bx HV.out)
  have hen := encode_any (HX3.out.val HV.out HOK.out) (Nat.le_refl _) HMA.out
  have hre := fun W (hW : Below w3.heap.size w3 W) => rencode_any ((HX3.out.below hW).val HV.out HOK.out) (Nat.le_refl _) HMA.out
  unfold EncPost at hen hre
  have HXW := Lib.hid (fun W (hW : Below w3.heap.size w3 W) => loadV (HX3.out.below hW).bx HV.out)
  clear HB HX HB3 HLI
  cases hG : goodCB c
  · simp only [hG, Bool.false_eq_true, false_and, or_false, true_and] at hen hre
    have HRE := Lib.hid hre
    have ns := fun W => nil_str W
    clear hG hre
    go_wp2_with (first
      | (with_reducible refine wpList_load_row rfl 53 (.tmp 1) rfl b1 rfl 53 V (0, 0) _ HXV.out Try.underlying53 rfl HVI.out ?_)
      | (go_at_call 31; (with_reducible refine hen.mono ?_); rintro e w4 ⟨rfl, hb4⟩; have HB5 := Lib.hid hb4; have HXZ := Lib.hid (HXW.out w4 hb4); have hre := HRE.out w4 hb4; clear hb4 hen HXV)
      | (with_reducible refine wpList_load_row rfl 53 (.tmp 1) rfl b1 rfl 53 V (0, 0) _ HXZ.out Try.underlying53 rfl HVI.out ?_)
      | (go_at_call 32; (with_reducible refine hre.mono ?_); rintro e w5 ⟨rfl, hb5⟩; have HB6 := Lib.hid (HB5.out.trans (hb5.mono HB5.out.size)); clear hb5 hre)
      | (go_at_call 25; (with_reducible refine (lives8_any _).mono ?_); rintro e w6 ⟨rfl, hb6⟩))
    go_ret
    exact ⟨rfl, (HB4.out.trans (HB6.out.mono HB4.out.size)).trans (hb6.mono (Nat.le_trans HB4.out.size HB6.out.size))⟩
  · simp only [hG, Bool.true_eq_false, false_and, false_or, true_and] at hen hre
    have HRE := Lib.hid hre
    have hde := fun W r (hr : Byt W W.heap.size r (encL c)) => decode_good hr (Nat.le_refl _) hG
    have HDE := Lib.hid hde
    clear hG hre hde
    go_upto_region 9 with (first
      | (with_reducible refine wpList_load_row rfl 53 (.tmp 1) rfl b1 rfl 53 V (0, 0) _ HXV.out Try.underlying53 rfl HVI.out ?_)
      | (go_at_call 31; (with_reducible refine hen.mono ?_); rintro e w4 ⟨⟨r4, rfl, ho4⟩, hb4⟩; have HB5 := Lib.hid hb4; have HY4 := Lib.hid ho4.byt; have HXZ := Lib.hid (HXW.out w4 hb4); have hre := HRE.out w4 hb4; clear hb4 ho4 hen HXV)
      | (with_reducible refine wpList_load_row rfl 53 (.tmp 1) rfl b1 rfl 53 V (0, 0) _ HXZ.out Try.underlying53 rfl HVI.out ?_)
      | (go_at_call 32; (with_reducible refine hre.mono ?_); rintro e w5 ⟨⟨r5, rfl, ho5⟩, hb5⟩; have HB6 := Lib.hid (HB5.out.trans (hb5.mono HB5.out.size)); have HY5 := Lib.hid ((HY4.out.below hb5).heap); have hs1 := HY5.out.str; have hs2 := ho5.byt.str; clear hb5 hre ho5))
    clear hs1 hs2 HXZ HY4
    have hde := HDE.out w5 r4 HY5.out
    have HX5 := Lib.hid (HX3.out.below HB6.out)
    have HB7 := Lib.hid (HB4.out.trans (HB6.out.mono HB4.out.size))
    clear HDE HRE HXW HX3 HB4 HB5 HB6
    go_upto_region 10 with (first
      | (go_at_call 33; (with_reducible refine hde.mono ?_); rintro e w6 ⟨lu, rfl, how, _, hb6⟩
         have HB8 := Lib.hid hb6
         obtain ⟨A1, c1, rfl, _, _⟩ := how.sl.form
         have HLN := Lib.hid (how.sl.lns HOK.out.doc.ls)
         have HBX := Lib.hid (LE1.box (how.sl.lns HOK.out.doc.ls))
         clear how hb6 hde
         generalize hU : c.vs (.slice A1 c.doc.ls.length c1) = U at HBX ⊢
         have HU := Lib.hid hU
         have HU1 := Lib.hid (show U.all (·.oneCell') = true by rw [← hU]; exact cm_one _ _ _ _)
         have HU2 := Lib.hid (show U.size = 22 by rw [← hU]; rfl)
         have HUI := Lib.hid (show (Try.prog.info? 53).map (·.size) = some U.size by rw [HU2.out, cm_info])
         clear hU)
      | ((with_reducible show wpList _ _ _ (⟨none, .store _ _ _, _, _, _, _⟩ :: _) _ _); go_must (refine wpList_store_row rfl 53 (.tmp 7) (.tmp 39) rfl w6.heap.size U rfl rfl 53 _ (heap_alloc_new w6 _) HUI.out (by rw [HU2.out]; rfl) HU1.out ?_)))
    rw [zero_vs]
    have HY6 := Lib.hid HBX.out.1
    have HBA := Lib.hid (HB8.out.trans (HBX.out.2.mono HB8.out.size))
    have HX6 := Lib.hid (HX5.out.below HBA.out)
    generalize w6.heap.size = b6 at *
    generalize World.setRow _ _ _ = w7 at HY6 HX6 HBA ⊢
    clear HBX HB8 HX5 HLN
    have hl1 := loadV HX6.out.bx HV.out
    have hl2 := loadV HY6.out.bx HU.out
    have hsm := rcsame_any (HX6.out.val HV.out HOK.out) (Nat.le_refl _) (HY6.out.val HU.out HOK.out) (Nat.le_refl _) HMA.out
    rw [decide_eq_true rfl] at hsm
    have HL1 := Lib.hid hl1
    have HL2 := Lib.hid hl2
    clear hl1 hl2
    go_wp2_with (first
      | ((with_reducible show wpList _ _ _ (⟨some 44, _, _, _, _, _⟩ :: _) _ _); go_must (refine wpList_load_want rfl 53 (.tmp 1) rfl b1 rfl 53 V (0, 0) _ HL1.out Try.underlying53 rfl HVI.out ?_))
      | ((with_reducible show wpList _ _ _ (⟨some 45, _, _, _, _, _⟩ :: _) _ _); go_must (refine wpList_load_want rfl 53 (.tmp 7) rfl b6 rfl 53 U (0, 0) _ HL2.out Try.underlying53 rfl HUI.out ?_))
      | (go_at_call 34; (with_reducible refine hsm.mono ?_); rintro e w8 ⟨rfl, hb8⟩; have HB9 := Lib.hid hb8; clear hb8 hsm)
      | (go_at_call 25; (with_reducible refine (lives8_any _).mono ?_); rintro e w9 ⟨rfl, hb9⟩))
    go_ret
    have h1 := HB7.out.trans (HBA.out.mono HB7.out.size)
    have h2 := h1.trans (HB9.out.mono h1.size)
    exact ⟨rfl, h2.trans (hb9.mono h2.size)⟩
end Go.Proofs.Ytnfpmobmfcgfnaa

