/- THE WALK OF octroiref08.Decode. -/
import Derived.Test.YtnfpmobmfcgfnaaPt
import Derived.Test.YtnfpmobmfcgfnaaReY
import Derived.Test.YtnfpmobmfcgfnaaReN
namespace Go.Proofs.Ytnfpmobmfcgfnaa
open Go.RowKit
/-- behind read: the command in its box, the box of the result -/
structure DQ (w0 w : World) (b bl : Nat) (V : Array Value) (lv : Value) (ls : List Ln) : Prop where
 bk : Blk w b V 53
 zb : Blk w bl (Cm.zero.vs (.slice none 0 0)) 53
 ow : OwN lnK w w0.heap.size lv ls
 nl : lv.ownBlock ≠ some bl
 lo : w0.heap.size ≤ bl
 on : Below w0.heap.size w0 w
section
variable {w0 w w' : World} {b bl : Nat} {V : Array Value} {lv : Value} {ls : List Ln}
theorem DQ.below (h : DQ w0 w b bl V lv ls) (k : Below w.heap.size w w') : DQ w0 w' b bl V lv ls :=
 ⟨(k.block b h.bk.lt).trans h.bk, (k.block bl h.zb.lt).trans h.zb, h.ow.below k, h.nl, h.lo, h.on.trans (k.mono h.on.size)⟩
theorem DQ.fin (h : DQ w0 w b bl V lv ls) (U : Array Value) : OwN lnK (w.setRow bl U) w0.heap.size lv ls ∧ Below w0.heap.size w0 (w.setRow bl U) := by
 have k := (h.zb.row U).2
 have := h.lo
 exact ⟨h.ow.kept k (fun g' e hc => h.nl (by rw [e, hc])), h.on.trans (k.toBelow h.on.size fun b hb => by omega)⟩
end
set_option maxRecDepth 100000 in
set_option maxHeartbeats 16000000 in
theorem rdecode_any {w : World} {B : Nat} {v : Value} {L : List UInt8} (h : Byt w B v L) (hB : B ≤ w.heap.size) : Calls Try.prog 35 #[v] w (DecPost (rdecS L) w) := by
  obtain ⟨C, s2, h2⟩ : ∃ a t, readS (some L) = (a, t) := ⟨_, _, rfl⟩
  have hok : C.ok := by
    have := getK_ok readDocS_ok (numS_ok (some L)) (numS (some L)).2
    unfold readS at h2
    simp only at h2
    rw [h2] at this
    exact this
  have hmany : C.doc.ls.length ≤ 65 := by
    have := getK_many readDocS_many (numS (some L)).1 (numS (some L)).2
    unfold readS at h2
    simp only at h2
    rw [h2] at this
    exact this
  have hdec : rdecS L = if goodCB C = true ∧ encL C = L then some C else none := by simp only [rdecS, h2]
  have hr := fun (W : World) (hW : Byt W B v L) (hBW : B ≤ W.heap.size) => read_any hW hBW
  unfold readS at h2
  simp only at h2
  rw [h2] at hr
  have HOK := Lib.hid hok
  have HMA := Lib.hid hmany
  have HD := Lib.hid hdec
  have HRD := Lib.hid hr
  have hb1 := (Below.refl w.heap.size w).alloc (Nat.le_refl _) (.cells (Cm.zero.vs (.slice none 0 0)) 53)
  have HY1 := Lib.hid (show Byt (w.alloc (.cells (Cm.zero.vs (.slice none 0 0)) 53)) B v L from h.alloc hB _)
  have HB0 := Lib.hid (show Blk (w.alloc (.cells (Cm.zero.vs (.slice none 0 0)) 53)) w.heap.size (Cm.zero.vs (.slice none 0 0)) 53 from heap_alloc_new w _)
  have HL0 := Lib.hid hb1
  have HBW := Lib.hid hB
  obtain ⟨A0, c0, rfl, _⟩ := id h
  clear h2 hok hmany hdec h hb1 hB hr
  go_enter Try.func35, Try.ntmps35
  go_upto_region 1 with fail
  rw [zero_vs]
  generalize World.alloc w _ = w1 at *
  generalize hb : w.heap.size = bl at HB0 ⊢
  have HBL := Lib.hid hb
  clear hb
  have q1 := HRD.out w1 HY1.out (by have h1 := HB0.out.lt; have h2 := HBW.out; have h3 := HBL.out; omega)
  unfold ReadCPost at q1
  simp only at q1
  go_upto_region 2 with (first
    | (go_at_call 75; (with_reducible refine q1.mono ?_); rintro e w4 ⟨lv, rfl, how, hb4⟩; have HB4 := Lib.hid hb4; have HOW := Lib.hid how; clear q1 hb4; obtain ⟨A1, c1, rfl, _, _⟩ := how.sl.form; clear how
       generalize hV : C.vs (.slice A1 C.doc.ls.length c1) = V
       have HV := Lib.hid hV
       have HV1 := Lib.hid (show V.all (·.oneCell') = true by rw [← hV]; exact cm_one _ _ _ _)
       have HV2 := Lib.hid (show V.size = 22 by rw [← hV]; rfl)
       have HVI := Lib.hid (show (Try.prog.info? 53).map (·.size) = some V.size by rw [HV2.out, cm_info])
       clear hV)
    | ((with_reducible show wpList _ _ _ (⟨none, .store _ _ _, _, _, _, _⟩ :: _) _ _); go_must (refine wpList_store_row rfl 53 (.tmp 4) (.tmp 8) rfl w4.heap.size V rfl rfl 53 _ (heap_alloc_new w4 _) HVI.out (by rw [HV2.out]; rfl) HV1.out ?_)))
  rw [zero_vs]
  have hal := (Below.refl w4.heap.size w4).alloc (Nat.le_refl _) (.cells (Cm.zero.vs (.slice none 0 0)) 53)
  have hbk0 : Blk (w4.alloc (.cells (Cm.zero.vs (.slice none 0 0)) 53)) w4.heap.size (Cm.zero.vs (.slice none 0 0)) 53 := heap_alloc_new w4 _
  have hkr := (hbk0.row V).2
  have hlw := HL0.out.size
  have hbl := HBL.out
  have hz4 : Blk w4 bl (Cm.zero.vs (.slice none 0 0)) 53 := (HB4.out.block bl HB0.out.lt).trans HB0.out
  have hb4 := HL0.out.trans (HB4.out.mono hlw)
  have hb5 := (hb4.trans (hal.mono hb4.size)).trans (hkr.toBelow (B := w.heap.size) (by have := hal.size; have := hb4.size; omega) fun b hb => by have := hb4.size; omega)
  have HY5 := Lib.hid (show Byt ((w4.alloc (.cells (Cm.zero.vs (.slice none 0 0)) 53)).setRow w4.heap.size V) B (.slice A0 L.length c0) L from
    ((HY1.out.below (HB4.out.mono (by have := HBW.out; omega))).below (hal.mono (by have := HBW.out; have := hb4.size; omega))).kept hkr (by have := HBW.out; have := hb4.size; have := hal.size; omega) fun b hb => by have := HBW.out; have := hb4.size; omega)
  have HDQ := Lib.hid (show DQ w ((w4.alloc (.cells (Cm.zero.vs (.slice none 0 0)) 53)).setRow w4.heap.size V) w4.heap.size bl V (.slice A1 C.doc.ls.length c1) C.doc.ls from
    ⟨(hbk0.row V).1, hkr.heap ((hal.block bl hz4.lt).trans hz4) (by have := hz4.lt; omega),
     ((HOW.out.more (by omega)).below hal).kept hkr (fun g' e => by have := (HOW.out.lt g' e).2; omega), fun e => by have := (HOW.out.lt bl e).1; have := HB0.out.lt; omega, by omega, hb5⟩)
  clear hal hbk0 hkr hlw hbl hz4 hb4 hb5 HB4 HOW HL0 HB0 HY1
  generalize w4.heap.size = b5 at *
  generalize World.setRow _ _ _ = w5 at HDQ HY5 ⊢
  have HZI := Lib.hid (show (Try.prog.info? 53).map (·.size) = some (Cm.zero.vs (.slice none 0 0)).size by rw [cm_size, cm_info])
  have HZ1 := Lib.hid (show (Cm.zero.vs (.slice none 0 0)).all (·.oneCell') = true from cm_one _ _ _ _)
  have HZV := Lib.hid zero_vs
  have H5 := Lib.hid (show w5.heap[b5]? = some (.cells V 53 (0, 0)) from HDQ.out.bk)
  generalize hZZ : Cm.zero.vs (.slice none 0 0) = ZZ at *
  have HZZ := Lib.hid hZZ
  clear hZZ
  have hen := rencode_any (w := w5) (v := .agg V) (c := C) ⟨.slice A1 C.doc.ls.length c1, by rw [HV.out], HDQ.out.ow.sl.lns (fun o ho => HOK.out.doc.ls o ho), HOK.out⟩ (Nat.le_refl _) (Nat.le_trans HMA.out (by decide))
  unfold EncPost at hen
  have hD := HD.out
  generalize hE : encL C = E at *
  generalize hG : goodCB C = G at *
  clear hE hG HD
  cases G
  · simp only [Bool.false_eq_true, false_and, if_false, or_false, true_and] at hD hen
    have HD2 := Lib.hid hD
    clear hD
    go_wp2_with (first
      | (with_reducible refine wpList_load_row rfl 53 (.tmp 4) rfl b5 rfl 53 V (0, 0) _ H5.out Try.underlying53 rfl HVI.out ?_)
      | (go_at_call 32; (with_reducible refine hen.mono ?_); rintro e w6 ⟨rfl, hb6⟩; have HB6 := Lib.hid hb6; clear hen hb6)
      | ((with_reducible show wpList _ _ _ (⟨none, .store _ _ _, _, _, _, _⟩ :: _) _ _); go_must (refine wpList_store_row rfl 53 (.tmp 2) (.tmp 23) rfl bl ZZ rfl (by rw [← HZZ.out]; rfl) 53 _ ((HDQ.out.below HB6.out).zb) HZI.out (by rw [HZZ.out]) HZ1.out ?_)))
    have HE := (HDQ.out.below HB6.out).fin ZZ
    refine bodyPost_ret (results_row_tmp rfl _ _ bl 53 _ (0, 0) _ _ rfl rfl (setRow_heap _ _ _ _ _ _ ((HDQ.out.below HB6.out).zb)) Try.underlying53 rfl HZI.out) rfl ?_
    rw [HD2.out]
    exact ⟨.slice none 0 0, by rw [← HZZ.out]; rfl, OwN.nil_ _ _ _, HE.2⟩
  · simp only [Bool.true_eq_false, false_and, false_or, true_and] at hD hen
    have HD2 := Lib.hid hD
    clear hD
    by_cases hEL : E = L
    · subst hEL
      go_wp2_with (first
        | (with_reducible refine wpList_load_row rfl 53 (.tmp 4) rfl b5 rfl 53 V (0, 0) _ H5.out Try.underlying53 rfl HVI.out ?_)
        | (go_at_call 32; (with_reducible refine hen.mono ?_); rintro e w6 ⟨⟨r, rfl, hor⟩, hb6⟩; have HB6 := Lib.hid hb6; have H7 := Lib.hid (show w6.heap[b5]? = some (.cells V 53 (0, 0)) from (HDQ.out.below hb6).bk); have hsa := hor.byt.str; have hsb := (HY5.out.below (hb6.mono (by have := HBW.out; have := HDQ.out.on.size; omega))).str; clear hen hb6 hor)
        | (with_reducible refine wpList_load_row rfl 53 (.tmp 4) rfl b5 rfl 53 V (0, 0) _ H7.out Try.underlying53 rfl HVI.out ?_)
        | ((with_reducible show wpList _ _ _ (⟨none, .store _ _ _, _, _, _, _⟩ :: _) _ _); go_must (refine wpList_store_row rfl 53 (.tmp 2) (.tmp 24) rfl bl V rfl rfl 53 _ ((HDQ.out.below HB6.out).zb) HVI.out (by rw [HV2.out]; rfl) HV1.out ?_)))
      have HE := (HDQ.out.below HB6.out).fin V
      refine bodyPost_ret (results_row_tmp rfl _ _ bl 53 _ (0, 0) _ _ rfl rfl (setRow_heap _ _ _ _ _ _ ((HDQ.out.below HB6.out).zb)) Try.underlying53 rfl HVI.out) rfl ?_
      rw [HD2.out]
      simp only [if_true]
      exact ⟨.slice A1 C.doc.ls.length c1, by rw [← HV.out]; rfl, HE.1, HE.2⟩
    · have hne : (E == L) = false := beq_eq_false_iff_ne.2 hEL
      have HEL := Lib.hid hEL
      clear hEL
      go_wp2_with (first
        | (with_reducible refine wpList_load_row rfl 53 (.tmp 4) rfl b5 rfl 53 V (0, 0) _ H5.out Try.underlying53 rfl HVI.out ?_)
        | (go_at_call 32; (with_reducible refine hen.mono ?_); rintro e w6 ⟨⟨r, rfl, hor⟩, hb6⟩; have HB6 := Lib.hid hb6; have H7 := Lib.hid (show w6.heap[b5]? = some (.cells V 53 (0, 0)) from (HDQ.out.below hb6).bk); have hsa := hor.byt.str; have hsb := (HY5.out.below (hb6.mono (by have := HBW.out; have := HDQ.out.on.size; omega))).str; clear hen hb6 hor)
        | ((with_reducible show wpList _ _ _ (⟨none, .store _ _ _, _, _, _, _⟩ :: _) _ _); go_must (refine wpList_store_row rfl 53 (.tmp 2) (.tmp 23) rfl bl ZZ rfl (by rw [← HZZ.out]; rfl) 53 _ ((HDQ.out.below HB6.out).zb) HZI.out (by rw [HZZ.out]) HZ1.out ?_)))
      have HE := (HDQ.out.below HB6.out).fin ZZ
      refine bodyPost_ret (results_row_tmp rfl _ _ bl 53 _ (0, 0) _ _ rfl rfl (setRow_heap _ _ _ _ _ _ ((HDQ.out.below HB6.out).zb)) Try.underlying53 rfl HZI.out) rfl ?_
      rw [HD2.out, if_neg HEL.out]
      exact ⟨.slice none 0 0, by rw [← HZZ.out]; rfl, OwN.nil_ _ _ _, HE.2⟩
end Go.Proofs.Ytnfpmobmfcgfnaa

